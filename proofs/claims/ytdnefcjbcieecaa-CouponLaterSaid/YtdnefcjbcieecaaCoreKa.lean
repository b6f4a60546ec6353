/- What Go code compiles to. -/
import Derived.Test.YtdnefcjbcieecaaCoreJ
set_option linter.unusedVariables false
set_option linter.unusedSimpArgs false
namespace Go.Proofs.Ytdnefcjbcieecaa
open Go

def Env.put (env : Env) (d : Option Nat) (v : V) : Env := match d with | none => env | some d => (d, v) :: env
def Env.keep (env : Env) : Option (List Nat) → Env
  | none => env
  | some l => l.map fun k => (k, env.get k)
theorem Env.keep_none (env : Env) : env.keep none = env := rfl
theorem Env.keep_some (env : Env) (l : List Nat) : env.keep (some l) = l.map fun k => (k, env.get k) := rfl
def opnd (env : Env) : Operand → V
  | .tmp t => env.get t
  | .const v => constV v
  | .global _ => .any
  | .func f => .d (.fn (.func f))

/-! What an operation looks at, and what it does to the heap: 0 nothing, 1 reads, 2 extends, 3 anything. -/
def kindC : COp → Nat
  | .load _ _ => 1
  | .indexS _ _ _ => 1
  | .append false _ _ _ _ _ => 1
  | .append true _ _ _ _ _ => 2
  | .alloc _ => 2
  | .box _ _ => 2
  | .bslice true _ _ _ _ _ => 2
  | .store _ _ _ => 3
  | .bad => 3
  | .mkmap => 2
  | .lookup .. => 3
  | .mupd .. => 3
  | .mkslice .. => 2
  | .isNil _ _ _ => 1
  | _ => 0
def kindR : RKind → Nat
  | .simple c => kindC c
  | .callx _ _ => 2
  | .call _ _ => 3
  | .app _ _ _ _ _ => 3

def opsC : COp → List Operand
  | .move x => [x]
  | .pick c a b => [c, a, b]
  | .alloc _ => []
  | .box _ x => [x]
  | .build _ ps => ps.map (·.2.2)
  | .bslice _ _ _ _ _ ps => ps.map (·.2)
  | .load _ x => [x]
  | .store _ x v => [x, v]
  | .bin _ x y => [x, y]
  | .un _ x => [x]
  | .conv _ x => [x]
  | .fieldAddr _ x => [x]
  | .field _ _ x => [x]
  | .indexS _ x i => [x, i]
  | .indexA _ _ x i => [x, i]
  | .extract x _ => [x]
  | .nilCheck x => [x]
  | .mkfn _ a c => a ++ c
  | .len x => [x]
  | .lenStr x => [x]
  | .lenArr _ => []
  | .min xs => xs
  | .max xs => xs
  | .sliceS _ x lo hi mx => x :: (listO lo ++ listO hi ++ listO mx)
  | .sliceA _ _ x lo hi => x :: (listO lo ++ listO hi)
  | .append _ _ _ _ x y => [x, y]
  | .panic x => [x]
  | .bad => []
  | .eqA _ _ x y => [x, y]
  | .mkmap => []
  | .lookup _ _ _ _ x k => [x, k]
  | .mupd _ _ x k v => [x, k, v]
  | .mkslice _ _ _ _ l c => [l, c]
  | .isNil _ _ x => [x]
  | .binB _ x y => [x, y]
  | .binS _ x y => [x, y]
def opsK : RKind → List Operand
  | .simple c => opsC c
  | .call f a => f :: a
  | .callx f a => f :: a
  | .app _ _ _ x y => [x, y]
def looksR (r : ROp) : List Nat := ((opsK r.op).filterMap fun | .tmp t => some t | _ => none) ++ (match r.guard with | some (t, _) => [t] | none => [])

/-- The orders of a region. -/
inductive OT where
  | leaf
  | node (i : Nat) (t : OT)
  | alt (a b : OT)
  deriving DecidableEq

section
variable (md : Region.Mode) (ops : Array Oper) (rs : List ROp)
def behindS (i : Nat) (acc : List Nat) (j : Nat) : List Nat :=
  match ops[j]? with
  | none => acc
  | some o => if o.after.any (fun e => Region.binds md e && (e.on == i || acc.contains e.on)) then j :: acc else acc
/-- The operations that stand behind one. -/
def behindL (i : Nat) : List Nat := (List.range ops.size).foldl (behindS md ops i) []
def apartR (x y : ROp) : Bool :=
  (match x.dst with
   | some d => !(looksR y).contains d && y.dst != some d
   | none => true) &&
  (match y.dst with
   | some d => !(looksR x).contains d
   | none => true)
def directB (i j : Nat) : Bool :=
  match ops[j]? with
  | none => false
  | some o => o.after.any fun e => e.on == i && Region.binds md e
def behindB (i j : Nat) : Bool := directB md ops i j || (behindL md ops i).contains j
def eagerL (listed : Array Bool) (i : Nat) (r : ROp) : Bool :=
  (List.range rs.length).all fun j => j == i || listed.getD j true || directB md ops i j || (match rs[j]? with
      | none => true
      | some q => apartR r q && (kindR r.op == 0 || kindR q.op != 3)) || (behindL md ops i).contains j
end
def altR (f : Nat → Option OT) : List Nat → Option OT
  | [] => none
  | [i] => (f i).map (.node i)
  | i :: is => match f i, altR f is with
    | some t, some r => some (.alt (.node i t) r)
    | _, _ => none
section
variable (md : Region.Mode) (ops : Array Oper) (rs : List ROp)
def readyF (done : Nat) : List Nat :=
  (List.range ops.size).filter fun i => !done.testBit i && ((ops[i]?).map (·.after.all fun e => !Region.binds md e || done.testBit e.on)).getD false
def eagerF (done : Nat) (i : Nat) : Bool :=
  match rs[i]? with
  | none => false
  | some r => decide (kindR r.op ≤ 1) && (List.range rs.length).all fun j => done.testBit j || j == i || directB md ops i j || (match rs[j]? with
      | none => true
      | some q => apartR r q && (kindR r.op == 0 || kindR q.op != 3)) || (behindL md ops i).contains j
def treeF : Nat → Nat → Option OT
  | 0, done => match readyF md ops done with
    | [] => some .leaf
    | _ => none
  | fuel + 1, done => match readyF md ops done with
    | [] => some .leaf
    | i :: is => match (i :: is).find? (eagerF md ops rs done) with
      | some j => (treeF fuel (done ||| 1 <<< j)).map (.node j)
      | none => altR (fun j => treeF fuel (done ||| 1 <<< j)) (i :: is)
end

def isOwn (own : List Nat) : Option Nat → Bool
  | some d => own.contains d
  | none => false

def compAny0 (P : Program) (own : Bool) : Op → Option RKind
  | .call { callee := .value f, args := args, argTypes := _ } => some (.call f args.toList)
  | .call { callee := .builtin .append, args := args, argTypes := ts } =>
    if own then match appOf P ts.toList args.toList with
      | some (e, sz, bytes, x, y) => some (.app e sz bytes x y)
      | none => none
    else (compOp P own (.call { callee := .builtin .append, args := args, argTypes := ts })).map .simple
  | op => (compOp P own op).map .simple

/-- What is not compiled may not be executed. -/
def compAny (P : Program) (own : Bool) (o : Op) : Option RKind := match compAny0 P own o with
  | some k => some k
  | none => some (.simple .bad)
def okDst (sz : Nat) : Option Nat → Bool
  | none => true
  | some d => decide (d < sz)

def compROp (P : Program) (own : List Nat) (sz : Nat) (ops : Array Oper) (o : Oper) : Option ROp :=
  if okDst sz o.dst then
    match o.guard with
    | none => (compAny P (isOwn own o.dst) o.op).map fun c => ⟨o.dst, none, c⟩
    | some (j, want) => match (ops[j]?).bind (·.dst) with
      | some t => if t < sz then (compAny P (isOwn own o.dst) o.op).map fun c => ⟨o.dst, some (t, want), c⟩ else none
      | none => none
  else none

def compOps (P : Program) (own : List Nat) (sz : Nat) (ops : Array Oper) : List Oper → Option (List ROp)
  | [] => some []
  | o :: os => match compROp P own sz ops o, compOps P own sz ops os with
    | some r, some rs => some (r :: rs)
    | _, _ => none

def drawK : RKind → RKind
  | .call f a => .callx f a
  | k => k
def drawOp (r : ROp) : ROp := ⟨r.dst, r.guard, drawK r.op⟩
/-- An operation whose place among the others is fixed. -/
def fixedB (md : Region.Mode) (ops : Array Oper) (i : Nat) : Bool :=
  (List.range ops.size).all fun j => j == i || directB md ops i j || directB md ops j i || (behindL md ops i).contains j || (behindL md ops j).contains i
def drawOps (md : Region.Mode) (ops : Array Oper) : List ROp → Nat → List ROp
  | [], _ => []
  | r :: rs, i => (if fixedB md ops i then r else drawOp r) :: drawOps md ops rs (i + 1)
/-- The orders of a draw region that stand for all of a mode. -/
def compTree (md : Region.Mode) (rs : List ROp) (ops : Array Oper) : Option OT := treeF md ops rs ops.size 0

def fzOf : List (Nat × List (Nat × Option Nat)) → Nat → List (Nat × Option Nat)
  | [], _ => []
  | (j, l) :: r, k => if k = j then l else fzOf r k
def wrapF : List (Nat × Option Nat) → CCode → CCode
  | [], c => c
  | x :: xs, c => .seq (.frz x) (wrapF xs c)

def lvOf : List (Nat × List Nat) → Nat → List Nat
  | [], _ => []
  | (j, l) :: r, k => if k = j then l else lvOf r k

/-- The orders of a region as code. -/
def treeC (rs : List ROp) (live : List Nat) : OT → List ROp → Option CCode
  | .leaf, acc => some (.region acc.reverse (some live))
  | .node j t, acc => match rs[j]? with
    | some r => treeC rs live t (r :: acc)
    | none => none
  | .alt a b, acc => match treeC rs live a [], treeC rs live b [] with
    | some x, some y => some (.seq (.region acc.reverse none) (.both x y))
    | _, _ => none

def compR (P : Program) (G : Cfg) (id : Nat) (ops : Array Oper) : Bool → Option CCode
  | false => (compOps P G.own G.sz ops ops.toList).map fun rs => .region rs (some (lvOf G.lv id))
  | true => match compOps P G.own G.sz ops ops.toList with
    | none => none
    | some rs =>
      if P.follows .mixedOrders then
        match compTree .any (drawOps .any ops rs 0) ops with
        | some t => treeC (drawOps .any ops rs 0) (lvOf G.lv id) t []
        | none => none
      else none

/-- Does code hold a range over a function? -/
def hasRange : Code → Bool
  | .seq a b => hasRange a || hasRange b
  | .cond _ a b => hasRange a || hasRange b
  | .block _ c => hasRange c
  | .loop c => hasRange c
  | .scope c => hasRange c
  | .rangeFunc .. => true
  | _ => false
def compC (P : Program) (G : Cfg) : Code → Option CCode
  | .skip => some .skip
  | .region id ops draw => (compR P G id ops draw).map (wrapF (fzOf G.fz id))
  | .seq a b => match compC P G a, compC P G b with
    | some x, some y => some (.seq x y)
    | _, _ => none
  | .cond c a b => match compC P G a, compC P G b with
    | some x, some y => some (.cond c x y)
    | _, _ => none
  | .block id c => (compC P G c).map (.block id)
  | .scope c => compC P G c
  | .label _ => some .skip
  | .loop c => (compC P G c).map .loop
  | .exit id => some (.exit id)
  | .ret => some .ret
  | .rangeFunc g ps a b => if hasRange a || hasRange b then none else match compC P G a, compC P G b with
    | some x, some y => some (.rangeF g ps.toList x y)
    | _, _ => none
  | _ => none
/-- What the program's code compiles to. -/
def ccP (P : Program) : Cfg → Code → CCode → Prop := fun G g c => compC P G g = some c ∧ hasRange g = false


end Go.Proofs.Ytdnefcjbcieecaa
