/- The machine: rewriting rules that run compiled code, one step each, on data alone. -/
import Derived.Test.YtdnefcjbcieecaaCoreW
import Derived.Attr
namespace Go.Proofs.Ytdnefcjbcieecaa
open Go

inductive Fr where
  | seq (c : CCode)
  | blk (id : Nat)

section
variable (P : Program) (G : Cfg) (n : Nat)

/-- What the stack of code owes. -/
def stkQ : List Fr → (CExit → Env → Heap → Prop) → CExit → Env → Heap → Prop
  | [], Q, e, env, h => Q e env h
  | .seq c :: s, Q, e, env, h => match e with
    | .normal => wpc P G n c (stkQ s Q) env h
    | e => stkQ s Q e env h
  | .blk id :: s, Q, e, env, h => match e with
    | .normal => stkQ s Q .normal env h
    | .exit i => if i = id then stkQ s Q .normal env h else stkQ s Q (.exit i) env h
    | .ret => stkQ s Q .ret env h

def runC (c : CCode) (s : List Fr) (Q : CExit → Env → Heap → Prop) (env : Env) (h : Heap) : Prop := wpc P G n c (stkQ P G n s Q) env h
def retS (e : CExit) (s : List Fr) (Q : CExit → Env → Heap → Prop) (env : Env) (h : Heap) : Prop := stkQ P G n s Q e env h
def runR (rs : List ROp) (live : Option (List Nat)) (s : List Fr) (Q : CExit → Env → Heap → Prop) (env : Env) (h : Heap) : Prop :=
  runOps2 P n rs env h fun env' h' => stkQ P G n s Q .normal (env'.keep live) h'
/-- the outcome of an operation -/
def putS (o : Option (DP × V × Heap)) (d : Option Nat) (rs : List ROp) (live : Option (List Nat)) (s : List Fr) (Q : CExit → Env → Heap → Prop) (env : Env) : Prop :=
  match o with
  | some (p, v, h') => p.P ∧ runR P G n rs live s Q (env.put d v) h'
  | none => False
def opS (r : ROp) (rs : List ROp) (live : Option (List Nat)) (s : List Fr) (Q : CExit → Env → Heap → Prop) (env : Env) (h : Heap) : Prop :=
  match r.op with
        | .simple (.pick c a b) => brV (opnd env c) (runR P G n rs live s Q (env.put r.dst (opnd env a)) h) (runR P G n rs live s Q (env.put r.dst (opnd env b)) h)
        | .simple c => putS P G n (evOp c (opnd env) h) r.dst rs live s Q env
        | .call f args => callV P (opnd env f) (args.map (opnd env)) h fun v h' => runR P G n rs live s Q (env.put r.dst v) h'
        | .callx f args => callV P (opnd env f) (args.map (opnd env)) h fun v h' => HLe h h' ∧ runR P G n rs live s Q (env.put r.dst v) h'
        | .app e sz bytes x y => match opnd env x with
          | .own id g len => match rowOf h id g, conts h (opnd env y) with
            | some q, some p => (q.1 = e ∧ q.2.1 = sz ∧ q.2.2.length = len * sz ∧ p.2.length = p.1 * sz ∧ len + p.1 ≤ 140737488355328 ∧ (len + p.1) * bytes ≤ 140737488355328) ∧
                runR P G n rs live s Q (env.put r.dst (.own id (g + 1) (len + p.1))) (h.set id (some (.row e sz (g + 1) (q.2.2 ++ p.2))))
            | _, _ => False
          | .d x => putS P G n (evApp true e sz bytes (.d x) (opnd env y) h) r.dst rs live s Q env
          | _ => False
/-- a guard -/
def gdS (v : V) (want : Bool) (r : ROp) (rs : List ROp) (live : Option (List Nat)) (s : List Fr) (Q : CExit → Env → Heap → Prop) (env : Env) (h : Heap) : Prop :=
  guardB v want (opS P G n r rs live s Q env h) (runR P G n rs live s Q (env.put r.dst (.tup [])) h)
/-- a choice -/
def pkS (v a b : V) (d : Option Nat) (rs : List ROp) (live : Option (List Nat)) (s : List Fr) (Q : CExit → Env → Heap → Prop) (env : Env) (h : Heap) : Prop :=
  brV v (runR P G n rs live s Q (env.put d a) h) (runR P G n rs live s Q (env.put d b) h)
/-- a branch of the code -/
def brS (v : V) (a b : CCode) (s : List Fr) (Q : CExit → Env → Heap → Prop) (env : Env) (h : Heap) : Prop := brV v (runC P G n a s Q env h) (runC P G n b s Q env h)
/-- a call -/
def clS (f : V) (args : List V) (d : Option Nat) (rs : List ROp) (live : Option (List Nat)) (s : List Fr) (Q : CExit → Env → Heap → Prop) (env : Env) (h : Heap) : Prop :=
  callV P f args h fun v h' => runR P G n rs live s Q (env.put d v) h'
def acS (g : FuncId) (args : List V) (d : Option Nat) (rs : List ROp) (live : Option (List Nat)) (s : List Fr) (Q : CExit → Env → Heap → Prop) (env : Env) (h : Heap) : Prop :=
  ACalls P g args h fun v h' => runR P G n rs live s Q (env.put d v) h'
/-- a call that leaves what there is -/
def clX (f : V) (args : List V) (d : Option Nat) (rs : List ROp) (live : Option (List Nat)) (s : List Fr) (Q : CExit → Env → Heap → Prop) (env : Env) (h : Heap) : Prop :=
  callV P f args h fun v h' => HLe h h' ∧ runR P G n rs live s Q (env.put d v) h'
def acX (g : FuncId) (args : List V) (d : Option Nat) (rs : List ROp) (live : Option (List Nat)) (s : List Fr) (Q : CExit → Env → Heap → Prop) (env : Env) (h : Heap) : Prop :=
  ACalls P g args h fun v h' => HLe h h' ∧ runR P G n rs live s Q (env.put d v) h'
/-- a loop -/
def lpS (c : CCode) (s : List Fr) (Q : CExit → Env → Heap → Prop) (env : Env) (h : Heap) : Prop := LoopP P G n c (stkQ P G n s Q) env h
/-- an append to an own row -/
def apS (x yv : V) (e sz bytes : Nat) (r : ROp) (rs : List ROp) (live : Option (List Nat)) (s : List Fr) (Q : CExit → Env → Heap → Prop) (env : Env) (h : Heap) : Prop :=
  match x with
          | .own id g len => match rowOf h id g, conts h yv with
            | some q, some p => (q.1 = e ∧ q.2.1 = sz ∧ q.2.2.length = len * sz ∧ p.2.length = p.1 * sz ∧ len + p.1 ≤ 140737488355328 ∧ (len + p.1) * bytes ≤ 140737488355328) ∧
                runR P G n rs live s Q (env.put r.dst (.own id (g + 1) (len + p.1))) (h.set id (some (.row e sz (g + 1) (q.2.2 ++ p.2))))
            | _, _ => False
          | .d x => putS P G n (evApp true e sz bytes (.d x) yv h) r.dst rs live s Q env
          | _ => False

variable {s : List Fr} {Q : CExit → Env → Heap → Prop} {env : Env} {h : Heap} {P G n}

theorem runC_skip : runC P G n .skip s Q env h = retS P G n .normal s Q env h := rfl
theorem runC_seq (a b : CCode) : runC P G n (.seq a b) s Q env h = runC P G n a (.seq b :: s) Q env h := by
  have : stkQ P G n (.seq b :: s) Q = fun e env h => match e with
    | .normal => wpc P G n b (stkQ P G n s Q) env h
    | .exit id => stkQ P G n s Q (.exit id) env h
    | .ret => stkQ P G n s Q .ret env h := by
    funext e env h; cases e <;> rfl
  unfold runC
  rw [this]
  rfl
theorem runC_both (a b : CCode) : runC P G n (.both a b) s Q env h = (runC P G n a s Q env h ∧ runC P G n b s Q env h) := rfl
theorem runC_block (id : Nat) (c : CCode) : runC P G n (.block id c) s Q env h = runC P G n c (.blk id :: s) Q env h := by
  have : stkQ P G n (.blk id :: s) Q = fun e env h => match e with
    | .normal => stkQ P G n s Q .normal env h
    | .exit i => if i = id then stkQ P G n s Q .normal env h else stkQ P G n s Q (.exit i) env h
    | .ret => stkQ P G n s Q .ret env h := by
    funext e env h; cases e <;> rfl
  unfold runC
  rw [this]
  rfl
theorem runC_cond (c : Operand) (a b : CCode) : runC P G n (.cond c a b) s Q env h = brS P G n (opnd env c) a b s Q env h := rfl
theorem runC_loop (c : CCode) : runC P G n (.loop c) s Q env h = lpS P G n c s Q env h := rfl
theorem runC_exit (id : Nat) : runC P G n (.exit id) s Q env h = retS P G n (.exit id) s Q env h := rfl
theorem runC_ret : runC P G n .ret s Q env h = retS P G n .ret s Q env h := rfl
theorem runC_frz (x : Nat × Option Nat) : runC P G n (.frz x) s Q env h = match frzB h (frzV env h x) with
    | some (id, g, ds) => retS P G n .normal s Q (fzE id g ds env) (fzH id g ds h)
    | none => retS P G n .normal s Q env h := rfl
theorem runC_rangeF (g : Operand) (ps : List Nat) (ca cb : CCode) : runC P G n (.rangeF g ps ca cb) s Q env h =
    callF P (opnd env g) [.yl h.length] (h ++ [some (.loop ⟨G, ca, cb, ps, env, .ready, none⟩)]) (fun _ h' => doneR h.length env h' (stkQ P G n s Q)) := rfl
theorem runC_region (rs : List ROp) (live : Option (List Nat)) : runC P G n (.region rs live) s Q env h = runR P G n rs live s Q env h := rfl

theorem retS_nil (e : CExit) : retS P G n e [] Q env h = Q e env h := rfl
theorem retS_seq (c : CCode) : retS P G n .normal (.seq c :: s) Q env h = runC P G n c s Q env h := rfl
theorem retS_seq_exit (c : CCode) (i : Nat) : retS P G n (.exit i) (.seq c :: s) Q env h = retS P G n (.exit i) s Q env h := rfl
theorem retS_seq_ret (c : CCode) : retS P G n .ret (.seq c :: s) Q env h = retS P G n .ret s Q env h := rfl
theorem retS_blk (id : Nat) : retS P G n .normal (.blk id :: s) Q env h = retS P G n .normal s Q env h := rfl
theorem retS_blk_exit (id i : Nat) : retS P G n (.exit i) (.blk id :: s) Q env h = if i = id then retS P G n .normal s Q env h else retS P G n (.exit i) s Q env h := rfl
theorem retS_blk_ret (id : Nat) : retS P G n .ret (.blk id :: s) Q env h = retS P G n .ret s Q env h := rfl

theorem runR_nil (live : Option (List Nat)) : runR P G n [] live s Q env h = retS P G n .normal s Q (env.keep live) h := rfl
theorem runR_cons (d : Option Nat) (op : RKind) (rs : List ROp) (live : Option (List Nat)) : runR P G n (⟨d, none, op⟩ :: rs) live s Q env h = opS P G n ⟨d, none, op⟩ rs live s Q env h := by
  unfold runR
  rw [runOps2, guardV_none]
  unfold opS
  cases op with
  | simple c => cases c <;> rfl
  | call f args => rfl
  | callx f args => rfl
  | app e sz bytes x y => rfl
theorem runR_guard (d : Option Nat) (t : Nat) (w : Bool) (op : RKind) (rs : List ROp) (live : Option (List Nat)) :
    runR P G n (⟨d, some (t, w), op⟩ :: rs) live s Q env h = gdS P G n (env.get t) w ⟨d, some (t, w), op⟩ rs live s Q env h := by
  unfold runR
  rw [runOps2, guardV_some]
  unfold gdS opS
  cases op with
  | simple c => cases c <;> rfl
  | call f args => rfl
  | callx f args => rfl
  | app e sz bytes x y => rfl
theorem opS_pick (d : Option Nat) (g : Option (Nat × Bool)) (c a b : Operand) (rs : List ROp) (live : Option (List Nat)) :
    opS P G n ⟨d, g, .simple (.pick c a b)⟩ rs live s Q env h = pkS P G n (opnd env c) (opnd env a) (opnd env b) d rs live s Q env h := rfl
theorem opS_call (d : Option Nat) (g : Option (Nat × Bool)) (f : Operand) (args : List Operand) (rs : List ROp) (live : Option (List Nat)) :
    opS P G n ⟨d, g, .call f args⟩ rs live s Q env h = clS P G n (opnd env f) (args.map (opnd env)) d rs live s Q env h := rfl
theorem opS_callx (d : Option Nat) (g : Option (Nat × Bool)) (f : Operand) (args : List Operand) (rs : List ROp) (live : Option (List Nat)) :
    opS P G n ⟨d, g, .callx f args⟩ rs live s Q env h = clX P G n (opnd env f) (args.map (opnd env)) d rs live s Q env h := rfl
theorem opS_app (d : Option Nat) (g : Option (Nat × Bool)) (e sz bytes : Nat) (x y : Operand) (rs : List ROp) (live : Option (List Nat)) :
    opS P G n ⟨d, g, .app e sz bytes x y⟩ rs live s Q env h = apS P G n (opnd env x) (opnd env y) e sz bytes ⟨d, g, .app e sz bytes x y⟩ rs live s Q env h := rfl
theorem opS_move' (d : Option Nat) (g : Option (Nat × Bool)) (x : Operand) (rs : List ROp) (live : Option (List Nat)) : opS P G n ⟨d, g, .simple (.move x)⟩ rs live s Q env h = putS P G n (evOp (.move x) (opnd env) h) d rs live s Q env := rfl
theorem opS_alloc' (d : Option Nat) (g : Option (Nat × Bool)) (z : List V) (rs : List ROp) (live : Option (List Nat)) : opS P G n ⟨d, g, .simple (.alloc z)⟩ rs live s Q env h = putS P G n (evOp (.alloc z) (opnd env) h) d rs live s Q env := rfl
theorem opS_box' (d : Option Nat) (g : Option (Nat × Bool)) (o : Bool) (x : Operand) (rs : List ROp) (live : Option (List Nat)) : opS P G n ⟨d, g, .simple (.box o x)⟩ rs live s Q env h = putS P G n (evOp (.box o x) (opnd env) h) d rs live s Q env := rfl
theorem opS_build' (d : Option Nat) (g : Option (Nat × Bool)) (z : List V) (ps : List (Nat × Nat × Operand)) (rs : List ROp) (live : Option (List Nat)) : opS P G n ⟨d, g, .simple (.build z ps)⟩ rs live s Q env h = putS P G n (evOp (.build z ps) (opnd env) h) d rs live s Q env := rfl
theorem opS_bslice' (d : Option Nat) (g : Option (Nat × Bool)) (o : Bool) (e sz len : Nat) (z : List D) (ps : List (Nat × Operand)) (rs : List ROp) (live : Option (List Nat)) : opS P G n ⟨d, g, .simple (.bslice o e sz len z ps)⟩ rs live s Q env h = putS P G n (evOp (.bslice o e sz len z ps) (opnd env) h) d rs live s Q env := rfl
theorem opS_load' (d : Option Nat) (g : Option (Nat × Bool)) (a : Option Nat) (x : Operand) (rs : List ROp) (live : Option (List Nat)) : opS P G n ⟨d, g, .simple (.load a x)⟩ rs live s Q env h = putS P G n (evOp (.load a x) (opnd env) h) d rs live s Q env := rfl
theorem opS_store' (d : Option Nat) (g : Option (Nat × Bool)) (k : Nat) (x v : Operand) (rs : List ROp) (live : Option (List Nat)) : opS P G n ⟨d, g, .simple (.store k x v)⟩ rs live s Q env h = putS P G n (evOp (.store k x v) (opnd env) h) d rs live s Q env := rfl
theorem opS_bin' (d : Option Nat) (g : Option (Nat × Bool)) (o : BinOp) (x y : Operand) (rs : List ROp) (live : Option (List Nat)) : opS P G n ⟨d, g, .simple (.bin o x y)⟩ rs live s Q env h = putS P G n (evOp (.bin o x y) (opnd env) h) d rs live s Q env := rfl
theorem opS_un' (d : Option Nat) (g : Option (Nat × Bool)) (o : UnOp) (x : Operand) (rs : List ROp) (live : Option (List Nat)) : opS P G n ⟨d, g, .simple (.un o x)⟩ rs live s Q env h = putS P G n (evOp (.un o x) (opnd env) h) d rs live s Q env := rfl
theorem opS_conv' (d : Option Nat) (g : Option (Nat × Bool)) (k : IntKind) (x : Operand) (rs : List ROp) (live : Option (List Nat)) : opS P G n ⟨d, g, .simple (.conv k x)⟩ rs live s Q env h = putS P G n (evOp (.conv k x) (opnd env) h) d rs live s Q env := rfl
theorem opS_fieldAddr' (d : Option Nat) (g : Option (Nat × Bool)) (o : Nat) (x : Operand) (rs : List ROp) (live : Option (List Nat)) : opS P G n ⟨d, g, .simple (.fieldAddr o x)⟩ rs live s Q env h = putS P G n (evOp (.fieldAddr o x) (opnd env) h) d rs live s Q env := rfl
theorem opS_field' (d : Option Nat) (g : Option (Nat × Bool)) (a : Option Nat) (o : Nat) (x : Operand) (rs : List ROp) (live : Option (List Nat)) : opS P G n ⟨d, g, .simple (.field a o x)⟩ rs live s Q env h = putS P G n (evOp (.field a o x) (opnd env) h) d rs live s Q env := rfl
theorem opS_indexS' (d : Option Nat) (g : Option (Nat × Bool)) (sz : Nat) (x i : Operand) (rs : List ROp) (live : Option (List Nat)) : opS P G n ⟨d, g, .simple (.indexS sz x i)⟩ rs live s Q env h = putS P G n (evOp (.indexS sz x i) (opnd env) h) d rs live s Q env := rfl
theorem opS_indexA' (d : Option Nat) (g : Option (Nat × Bool)) (l sz : Nat) (x i : Operand) (rs : List ROp) (live : Option (List Nat)) : opS P G n ⟨d, g, .simple (.indexA l sz x i)⟩ rs live s Q env h = putS P G n (evOp (.indexA l sz x i) (opnd env) h) d rs live s Q env := rfl
theorem opS_extract' (d : Option Nat) (g : Option (Nat × Bool)) (x : Operand) (k : Nat) (rs : List ROp) (live : Option (List Nat)) : opS P G n ⟨d, g, .simple (.extract x k)⟩ rs live s Q env h = putS P G n (evOp (.extract x k) (opnd env) h) d rs live s Q env := rfl
theorem opS_nilCheck' (d : Option Nat) (g : Option (Nat × Bool)) (x : Operand) (rs : List ROp) (live : Option (List Nat)) : opS P G n ⟨d, g, .simple (.nilCheck x)⟩ rs live s Q env h = putS P G n (evOp (.nilCheck x) (opnd env) h) d rs live s Q env := rfl
theorem opS_mkfn' (d : Option Nat) (g : Option (Nat × Bool)) (f : Fn) (a c : List Operand) (rs : List ROp) (live : Option (List Nat)) : opS P G n ⟨d, g, .simple (.mkfn f a c)⟩ rs live s Q env h = putS P G n (evOp (.mkfn f a c) (opnd env) h) d rs live s Q env := rfl
theorem opS_len' (d : Option Nat) (g : Option (Nat × Bool)) (x : Operand) (rs : List ROp) (live : Option (List Nat)) : opS P G n ⟨d, g, .simple (.len x)⟩ rs live s Q env h = putS P G n (evOp (.len x) (opnd env) h) d rs live s Q env := rfl
theorem opS_lenStr' (d : Option Nat) (g : Option (Nat × Bool)) (x : Operand) (rs : List ROp) (live : Option (List Nat)) : opS P G n ⟨d, g, .simple (.lenStr x)⟩ rs live s Q env h = putS P G n (evOp (.lenStr x) (opnd env) h) d rs live s Q env := rfl
theorem opS_lenArr' (d : Option Nat) (g : Option (Nat × Bool)) (m : Nat) (rs : List ROp) (live : Option (List Nat)) : opS P G n ⟨d, g, .simple (.lenArr m)⟩ rs live s Q env h = putS P G n (evOp (.lenArr m) (opnd env) h) d rs live s Q env := rfl
theorem opS_min' (d : Option Nat) (g : Option (Nat × Bool)) (xs : List Operand) (rs : List ROp) (live : Option (List Nat)) : opS P G n ⟨d, g, .simple (.min xs)⟩ rs live s Q env h = putS P G n (evOp (.min xs) (opnd env) h) d rs live s Q env := rfl
theorem opS_max' (d : Option Nat) (g : Option (Nat × Bool)) (xs : List Operand) (rs : List ROp) (live : Option (List Nat)) : opS P G n ⟨d, g, .simple (.max xs)⟩ rs live s Q env h = putS P G n (evOp (.max xs) (opnd env) h) d rs live s Q env := rfl
theorem opS_sliceS' (d : Option Nat) (g : Option (Nat × Bool)) (sz : Nat) (x : Operand) (lo hi mx : Option Operand) (rs : List ROp) (live : Option (List Nat)) : opS P G n ⟨d, g, .simple (.sliceS sz x lo hi mx)⟩ rs live s Q env h = putS P G n (evOp (.sliceS sz x lo hi mx) (opnd env) h) d rs live s Q env := rfl
theorem opS_append' (d : Option Nat) (g : Option (Nat × Bool)) (o : Bool) (e sz bytes : Nat) (x y : Operand) (rs : List ROp) (live : Option (List Nat)) : opS P G n ⟨d, g, .simple (.append o e sz bytes x y)⟩ rs live s Q env h = putS P G n (evOp (.append o e sz bytes x y) (opnd env) h) d rs live s Q env := rfl
theorem opS_sliceA' (d : Option Nat) (g : Option (Nat × Bool)) (l sz : Nat) (x : Operand) (lo hi : Option Operand) (rs : List ROp) (live : Option (List Nat)) : opS P G n ⟨d, g, .simple (.sliceA l sz x lo hi)⟩ rs live s Q env h = putS P G n (evOp (.sliceA l sz x lo hi) (opnd env) h) d rs live s Q env := rfl
theorem opS_eqA' (d : Option Nat) (g : Option (Nat × Bool)) (b : Bool) (sh : List SK) (x y : Operand) (rs : List ROp) (live : Option (List Nat)) : opS P G n ⟨d, g, .simple (.eqA b sh x y)⟩ rs live s Q env h = putS P G n (evOp (.eqA b sh x y) (opnd env) h) d rs live s Q env := rfl
theorem opS_mkmap' (d : Option Nat) (g : Option (Nat × Bool)) (rs : List ROp) (live : Option (List Nat)) : opS P G n ⟨d, g, .simple .mkmap⟩ rs live s Q env h = putS P G n (evOp .mkmap (opnd env) h) d rs live s Q env := rfl
theorem opS_lookup' (d : Option Nat) (g : Option (Nat × Bool)) (a : Bool) (sh : List SK) (z : V) (ok : Bool) (x k : Operand) (rs : List ROp) (live : Option (List Nat)) : opS P G n ⟨d, g, .simple (.lookup a sh z ok x k)⟩ rs live s Q env h = putS P G n (evOp (.lookup a sh z ok x k) (opnd env) h) d rs live s Q env := rfl
theorem opS_mupd' (d : Option Nat) (g : Option (Nat × Bool)) (a : Bool) (sh : List SK) (x k v : Operand) (rs : List ROp) (live : Option (List Nat)) : opS P G n ⟨d, g, .simple (.mupd a sh x k v)⟩ rs live s Q env h = putS P G n (evOp (.mupd a sh x k v) (opnd env) h) d rs live s Q env := rfl
theorem opS_mkslice' (d : Option Nat) (g : Option (Nat × Bool)) (e sz b : Nat) (z : List D) (l c : Operand) (rs : List ROp) (live : Option (List Nat)) : opS P G n ⟨d, g, .simple (.mkslice e sz b z l c)⟩ rs live s Q env h = putS P G n (evOp (.mkslice e sz b z l c) (opnd env) h) d rs live s Q env := rfl
theorem opS_isNil' (d : Option Nat) (g : Option (Nat × Bool)) (k : Nat) (b : Bool) (x : Operand) (rs : List ROp) (live : Option (List Nat)) : opS P G n ⟨d, g, .simple (.isNil k b x)⟩ rs live s Q env h = putS P G n (evOp (.isNil k b x) (opnd env) h) d rs live s Q env := rfl
theorem opS_binB' (d : Option Nat) (g : Option (Nat × Bool)) (b : Bool) (x y : Operand) (rs : List ROp) (live : Option (List Nat)) : opS P G n ⟨d, g, .simple (.binB b x y)⟩ rs live s Q env h = putS P G n (evOp (.binB b x y) (opnd env) h) d rs live s Q env := rfl
theorem opS_binS' (d : Option Nat) (g : Option (Nat × Bool)) (b : BinOp) (x y : Operand) (rs : List ROp) (live : Option (List Nat)) : opS P G n ⟨d, g, .simple (.binS b x y)⟩ rs live s Q env h = putS P G n (evOp (.binS b x y) (opnd env) h) d rs live s Q env := rfl
theorem putS_some (p : DP) (v : V) (h' : Heap) (d : Option Nat) (rs : List ROp) (live : Option (List Nat)) : putS P G n (some (p, v, h')) d rs live s Q env = (p.P ∧ runR P G n rs live s Q (env.put d v) h') := rfl

theorem gdS_tup (w : Bool) (r : ROp) (rs : List ROp) (live : Option (List Nat)) : gdS P G n (.tup []) w r rs live s Q env h = runR P G n rs live s Q (env.put r.dst (.tup [])) h := rfl
theorem gdS_tt (r : ROp) (rs : List ROp) (live : Option (List Nat)) : gdS P G n (.d (.bool true)) true r rs live s Q env h = opS P G n r rs live s Q env h := by simp [gdS, guardB, brV]
theorem gdS_ff (r : ROp) (rs : List ROp) (live : Option (List Nat)) : gdS P G n (.d (.bool false)) false r rs live s Q env h = opS P G n r rs live s Q env h := by simp [gdS, guardB, brV]
theorem gdS_tf (r : ROp) (rs : List ROp) (live : Option (List Nat)) : gdS P G n (.d (.bool true)) false r rs live s Q env h = runR P G n rs live s Q (env.put r.dst (.tup [])) h := by simp [gdS, guardB, brV]
theorem gdS_ft (r : ROp) (rs : List ROp) (live : Option (List Nat)) : gdS P G n (.d (.bool false)) true r rs live s Q env h = runR P G n rs live s Q (env.put r.dst (.tup [])) h := by simp [gdS, guardB, brV]
theorem pkS_t (a b : V) (d : Option Nat) (rs : List ROp) (live : Option (List Nat)) : pkS P G n (.d (.bool true)) a b d rs live s Q env h = runR P G n rs live s Q (env.put d a) h := by simp [pkS, brV]
theorem pkS_f (a b : V) (d : Option Nat) (rs : List ROp) (live : Option (List Nat)) : pkS P G n (.d (.bool false)) a b d rs live s Q env h = runR P G n rs live s Q (env.put d b) h := by simp [pkS, brV]
theorem brS_t (a b : CCode) : brS P G n (.d (.bool true)) a b s Q env h = runC P G n a s Q env h := by simp [brS, brV]
theorem brS_f (a b : CCode) : brS P G n (.d (.bool false)) a b s Q env h = runC P G n b s Q env h := by simp [brS, brV]
theorem clS_d (g : FuncId) (args : List V) (d : Option Nat) (rs : List ROp) (live : Option (List Nat)) : clS P G n (.d (.fn (.func g))) args d rs live s Q env h = acS P G n g args d rs live s Q env h := rfl
theorem clS_fn (g : FuncId) (a c args : List V) (d : Option Nat) (rs : List ROp) (live : Option (List Nat)) :
    clS P G n (.fn (.func g) a c) args d rs live s Q env h = acS P G n g (a ++ args ++ c) d rs live s Q env h := rfl
theorem clS_yl (id : Nat) (args : List V) (d : Option Nat) (rs : List ROp) (live : Option (List Nat)) :
    clS P G n (.yl id) args d rs live s Q env h = AYield P id args h fun v h' => runR P G n rs live s Q (env.put d v) h' := rfl
theorem clX_d (g : FuncId) (args : List V) (d : Option Nat) (rs : List ROp) (live : Option (List Nat)) : clX P G n (.d (.fn (.func g))) args d rs live s Q env h = acX P G n g args d rs live s Q env h := rfl
theorem clX_fn (g : FuncId) (a c args : List V) (d : Option Nat) (rs : List ROp) (live : Option (List Nat)) :
    clX P G n (.fn (.func g) a c) args d rs live s Q env h = acX P G n g (a ++ args ++ c) d rs live s Q env h := rfl
theorem acX_of {g : FuncId} {args : List V} {d : Option Nat} {rs : List ROp} {live : Option (List Nat)} {R : V → Heap → Prop} (hc : ACalls P g args h R) (hk : ∀ v h', R v h' → HLe h h' ∧ runR P G n rs live s Q (env.put d v) h') :
    acX P G n g args d rs live s Q env h := hc.mono hk
theorem acX_pure {g : FuncId} {args : List V} {d : Option Nat} {rs : List ROp} {live : Option (List Nat)} {F : V} (hc : ACalls P g args h (fun v h' => v = F ∧ h' = h)) (hk : runR P G n rs live s Q (env.put d F) h) :
    acX P G n g args d rs live s Q env h := hc.mono fun v h' e => by rw [e.1, e.2]; exact ⟨HLe.refl _, hk⟩

/-! What is not decided is split by hand. -/
theorem gdS_split {b : Bool} {w : Bool} {r : ROp} {rs : List ROp} {live : Option (List Nat)} (h1 : b = w → opS P G n r rs live s Q env h) (h2 : b = (!w) → runR P G n rs live s Q (env.put r.dst (.tup [])) h) :
    gdS P G n (.d (.bool b)) w r rs live s Q env h := by
  unfold gdS guardB
  cases w with
  | true => exact ⟨h1, h2⟩
  | false => exact ⟨h2, h1⟩
theorem gdS_splitT {b : Bool} {r : ROp} {rs : List ROp} {live : Option (List Nat)} (h1 : b = true → opS P G n r rs live s Q env h) (h2 : b = false → runR P G n rs live s Q (env.put r.dst (.tup [])) h) :
    gdS P G n (.d (.bool b)) true r rs live s Q env h := gdS_split h1 h2
theorem gdS_splitF {b : Bool} {r : ROp} {rs : List ROp} {live : Option (List Nat)} (h1 : b = false → opS P G n r rs live s Q env h) (h2 : b = true → runR P G n rs live s Q (env.put r.dst (.tup [])) h) :
    gdS P G n (.d (.bool b)) false r rs live s Q env h := gdS_split h1 h2
theorem pkS_split {b : Bool} {x y : V} {d : Option Nat} {rs : List ROp} {live : Option (List Nat)} (h1 : b = true → runR P G n rs live s Q (env.put d x) h) (h2 : b = false → runR P G n rs live s Q (env.put d y) h) :
    pkS P G n (.d (.bool b)) x y d rs live s Q env h := ⟨h1, h2⟩
theorem brS_split {b : Bool} {x y : CCode} (h1 : b = true → runC P G n x s Q env h) (h2 : b = false → runC P G n y s Q env h) : brS P G n (.d (.bool b)) x y s Q env h := ⟨h1, h2⟩
theorem acS_of {g : FuncId} {args : List V} {d : Option Nat} {rs : List ROp} {live : Option (List Nat)} {R : V → Heap → Prop} (hc : ACalls P g args h R) (hk : ∀ v h', R v h' → runR P G n rs live s Q (env.put d v) h') :
    acS P G n g args d rs live s Q env h := hc.mono hk
theorem acS_pure {g : FuncId} {args : List V} {d : Option Nat} {rs : List ROp} {live : Option (List Nat)} {F : V} (hc : ACalls P g args h (fun v h' => v = F ∧ h' = h)) (hk : runR P G n rs live s Q (env.put d F) h) :
    acS P G n g args d rs live s Q env h := hc.mono fun v h' e => by rw [e.1, e.2]; exact hk

/-- A loop, on the machine. -/
theorem lpS_rule {c : CCode} (I : Nat → Env → Heap → Prop) {m0 : Nat} (h0 : I m0 env h)
    (hstep : ∀ m env h, I m env h → ∀ Q', (∀ env' h' m', m' < m → I m' env' h' → Q' .normal env' h') → (∀ id env' h', retS P G n (.exit id) s Q env' h' → Q' (.exit id) env' h') → (∀ env' h', retS P G n .ret s Q env' h' → Q' .ret env' h') →
      runC P G n c [] Q' env h) : lpS P G n c s Q env h := by
  refine loop_rule I h0 (fun m env h hI => ?_)
  exact hstep m env h hI (fun e env' h' => match e with
      | .normal => ∃ m', m' < m ∧ I m' env' h'
      | .exit id => stkQ P G n s Q (.exit id) env' h'
      | .ret => stkQ P G n s Q .ret env' h') (fun env' h' m' hlt hI' => ⟨m', hlt, hI'⟩) (fun id env' h' hr => hr) (fun env' h' hr => hr)

/-- A function's contract, on the machine. -/
theorem acalls_run {f : FuncId} {fn : Func} {c : CCode} {cr : List CRes} {vs : List V} {R : V → Heap → Prop} (hf : P.funcs[f]? = some fn) (hc : fn.body.bind (compC P G) = some c)
    (hr : compRes P fn.results.toList = some cr) (hname : (fn.name == "runtime.NumGoroutine") = false) (hsz : fn.ntmps = G.sz) (hl : vs.length ≤ G.sz)
    (hk : ∀ Q, (∀ env' h', resV env' h' cr (fun vs => R (oneV vs) h') → Q .ret env' h') → (∀ env' h', resV env' h' cr (fun vs => R (oneV vs) h') → Q .normal env' h') → runC P G h.length c [] Q (envOf vs) h) : ACalls P f vs h R :=
  acalls_of hf hc hr hname hsz hl (hk (retQ cr R) (fun _ _ h => h) (fun _ _ h => h))

end
attribute [go_sem] runC_skip runC_seq runC_both runC_block runC_cond runC_loop runC_exit runC_ret runC_region retS_nil retS_seq retS_seq_exit retS_seq_ret retS_blk retS_blk_exit retS_blk_ret runR_nil runR_cons runR_guard opS_pick opS_call opS_callx opS_app opS_move' opS_alloc' opS_box' opS_build' opS_bslice' opS_load' opS_store' opS_bin' opS_un' opS_conv' opS_fieldAddr' opS_field' opS_indexS' opS_indexA' opS_extract' opS_nilCheck' opS_mkfn' opS_len' opS_lenStr' opS_lenArr' opS_min' opS_max' opS_sliceS' opS_append' opS_sliceA' opS_eqA' opS_mkmap' opS_lookup' opS_mupd' opS_mkslice' opS_isNil' opS_binB' opS_binS' putS_some gdS_tup gdS_tt gdS_ff gdS_tf gdS_ft pkS_t pkS_f brS_t brS_f clS_d clS_fn clX_d clX_fn
attribute [go_sem] evIsNil evNilS evNilP evNilM evNilF evBinB evBinS ev0 dAnd evEqA keyD findE okV evLk evUp evMk evSlA matchS matchSs eqD eqDs evOp evBin evUn evLoad evField evIdx evIdxA evFA evExt evConv evLen evLenStr minL maxL evApp evSlice lenOfSl inH conts elemAt partsV partsD fitL intsV opnd Env.get Env.put Env.keep_none Env.keep_some constV constD cellsV toDs fillL putAt Heap.cell Heap.cells Heap.put normV resV oneV rowOf envOf List.map_cons List.map_nil Option.map_some Option.map_none Option.bind_some Option.getD_some List.cons_append List.nil_append List.zipIdx_cons List.zipIdx_nil List.length_cons List.length_nil List.getElem?_cons_zero List.getElem?_cons_succ
attribute [go_sem] Nat.reduceEqDiff if_true if_false reduceIte true_and and_true eq_self Nat.reduceAdd Nat.zero_add

end Go.Proofs.Ytdnefcjbcieecaa
