/- The meaning of a small operation, and that the Go operation has it. -/
import Derived.Test.YtdnefcjbcieecaaCoreC
set_option linter.unusedVariables false
set_option linter.unusedSimpArgs false
namespace Go.Proofs.Ytdnefcjbcieecaa
open Go

def toDs : List V → Option (List D)
  | [] => some []
  | .d x :: xs => (toDs xs).map (x :: ·)
  | .fn f [] [] :: xs => (toDs xs).map (.fn f :: ·)
  | _ :: _ => none

def putAt {α : Type} (l : List α) (off : Nat) (xs : List α) : List α := l.take off ++ xs ++ l.drop (off + xs.length)

def arV (k : IntKind) (r : Int) (K : V → Prop) : Prop :=
  match k with
  | .i64 => (-9223372036854775808 ≤ r ∧ r ≤ 9223372036854775807) ∧ K (.d (.int .i64 r))
  | k => K (.d (.int k (k.wrap r)))

def bitsV (op : BinOp) (k : IntKind) (a b : Int) : Int :=
  let x := BitVec.ofInt k.bits a
  let y := BitVec.ofInt k.bits b
  k.wrap (match op with | .and => x &&& y | .or => x ||| y | .xor => x ^^^ y | _ => x &&& ~~~y).toNat

/-! The cases of a value, each a function that the simplifier enters only when it knows the value. -/
def onInts (x y : V) (f : IntKind → Int → IntKind → Int → Prop) : Prop :=
  match x, y with
  | .d (.int k a), .d (.int k' b) => f k a k' b
  | _, _ => False
@[congr] theorem onInts_congr {x x' y y' : V} {f : IntKind → Int → IntKind → Int → Prop} (h1 : x = x') (h2 : y = y') : onInts x y f = onInts x' y' f := by rw [h1, h2]
theorem onInts_mk (k : IntKind) (a : Int) (k' : IntKind) (b : Int) (f : IntKind → Int → IntKind → Int → Prop) : onInts (.d (.int k a)) (.d (.int k' b)) f = f k a k' b := rfl
def onBools (x : V) (f : Bool → Prop) : Prop :=
  match x with
  | .d (.bool b) => f b
  | _ => False
@[congr] theorem onBools_congr {x x' : V} {f : Bool → Prop} (h1 : x = x') : onBools x f = onBools x' f := by rw [h1]
theorem onBools_mk (b : Bool) (f : Bool → Prop) : onBools (.d (.bool b)) f = f b := rfl
def onInt (x : V) (f : IntKind → Int → Prop) : Prop :=
  match x with
  | .d (.int k a) => f k a
  | _ => False
@[congr] theorem onInt_congr {x x' : V} {f : IntKind → Int → Prop} (h1 : x = x') : onInt x f = onInt x' f := by rw [h1]
theorem onInt_mk (k : IntKind) (a : Int) (f : IntKind → Int → Prop) : onInt (.d (.int k a)) f = f k a := rfl
def onPtr (x : V) (f : Nat → Nat → Nat → Prop) (g : List D → Nat → Prop) : Prop :=
  match x with
  | .ptr id g off => f id g off
  | .rptr ds off => g ds off
  | _ => False
@[congr] theorem onPtr_congr {x x' : V} {f : Nat → Nat → Nat → Prop} {g : List D → Nat → Prop} (h1 : x = x') : onPtr x f g = onPtr x' f g := by rw [h1]
theorem onPtr_ptr (id ge off : Nat) (f : Nat → Nat → Nat → Prop) (g : List D → Nat → Prop) : onPtr (.ptr id ge off) f g = f id ge off := rfl
theorem onPtr_rptr (ds : List D) (off : Nat) (f : Nat → Nat → Nat → Prop) (g : List D → Nat → Prop) : onPtr (.rptr ds off) f g = g ds off := rfl
def onAgg (x : V) (f : List V → Prop) : Prop :=
  match x with
  | .agg cs => f cs
  | _ => False
@[congr] theorem onAgg_congr {x x' : V} {f : List V → Prop} (h1 : x = x') : onAgg x f = onAgg x' f := by rw [h1]
theorem onAgg_mk (cs : List V) (f : List V → Prop) : onAgg (.agg cs) f = f cs := rfl
def onTup (x : V) (f : List V → Prop) : Prop :=
  match x with
  | .tup cs => f cs
  | _ => False
@[congr] theorem onTup_congr {x x' : V} {f : List V → Prop} (h1 : x = x') : onTup x f = onTup x' f := by rw [h1]
theorem onTup_mk (cs : List V) (f : List V → Prop) : onTup (.tup cs) f = f cs := rfl
def onStr (x : V) (f : List UInt8 → Prop) : Prop :=
  match x with
  | .d (.str l) => f l
  | _ => False
@[congr] theorem onStr_congr {x x' : V} {f : List UInt8 → Prop} (h1 : x = x') : onStr x f = onStr x' f := by rw [h1]
theorem onStr_mk (l : List UInt8) (f : List UInt8 → Prop) : onStr (.d (.str l)) f = f l := rfl
def onSl (x : V) (f : Bool → Nat → List D → Prop) (g : Nat → Nat → Nat → Prop) (z : Prop) : Prop :=
  match x with
  | .d (.sl e len cs) => f e len cs
  | .own id ge len => g id ge len
  | .d .nils => z
  | _ => False
@[congr] theorem onSl_congr {x x' : V} {f : Bool → Nat → List D → Prop} {g : Nat → Nat → Nat → Prop} {z : Prop} (h1 : x = x') : onSl x f g z = onSl x' f g z := by rw [h1]
theorem onSl_sl (e : Bool) (len : Nat) (cs : List D) (f : Bool → Nat → List D → Prop) (g : Nat → Nat → Nat → Prop) (z : Prop) : onSl (.d (.sl e len cs)) f g z = f e len cs := rfl
theorem onSl_own (id ge len : Nat) (f : Bool → Nat → List D → Prop) (g : Nat → Nat → Nat → Prop) (z : Prop) : onSl (.own id ge len) f g z = g id ge len := rfl
theorem onSl_nils (f : Bool → Nat → List D → Prop) (g : Nat → Nat → Nat → Prop) (z : Prop) : onSl (.d .nils) f g z = z := rfl

def binI (op : BinOp) (K : V → Prop) (k : IntKind) (a : Int) (k' : IntKind) (b : Int) : Prop :=
    match op with
    | .add => k = k' ∧ arV k (a + b) K
    | .sub => k = k' ∧ arV k (a - b) K
    | .mul => k = k' ∧ arV k (a * b) K
    | .quo => k = k' ∧ b ≠ 0 ∧ arV k (a.tdiv b) K
    | .rem => k = k' ∧ b ≠ 0 ∧ K (.d (.int k (a.tmod b)))
    | .shl => 0 ≤ b ∧ arV k (a * 2 ^ (min b.toNat k.bits)) K
    | .shr => 0 ≤ b ∧ K (.d (.int k (a.fdiv (2 ^ (min b.toNat k.bits)))))
    | .and => k = k' ∧ K (.d (.int k (bitsV .and k a b)))
    | .or => k = k' ∧ K (.d (.int k (bitsV .or k a b)))
    | .xor => k = k' ∧ K (.d (.int k (bitsV .xor k a b)))
    | .andNot => k = k' ∧ K (.d (.int k (bitsV .andNot k a b)))
    | .eql => k = k' ∧ K (.d (.bool (a == b)))
    | .neq => k = k' ∧ K (.d (.bool (a != b)))
    | .lss => k = k' ∧ K (.d (.bool (decide (a < b))))
    | .leq => k = k' ∧ K (.d (.bool (decide (a ≤ b))))
    | .gtr => k = k' ∧ K (.d (.bool (decide (b < a))))
    | .geq => k = k' ∧ K (.d (.bool (decide (b ≤ a))))

def unV (op : UnOp) (x : V) (K : V → Prop) : Prop :=
  match op with
  | .not => onBools x fun b => K (.d (.bool (!b)))
  | .neg => onInt x fun k a => arV k (0 - a) K
  | _ => False

def natI (v : V) (K : Int → Prop) : Prop := onInt v fun _ i => K i

def Blk.gen : Blk → Nat
  | .row _ _ g _ => g
  | _ => 0
/-- The value at an address of the heap. -/
def Heap.cell (h : Heap) (id g off : Nat) : Option V :=
  match h[id]? with
  | some (some (.box cs)) => if g = 0 then cs[off]? else none
  | some (some (.row _ _ g' ds)) => if g = g' then (ds[off]?).map .d else none
  | _ => none
def Heap.cells (h : Heap) (id g off n : Nat) : Option (List V) :=
  match h[id]? with
  | some (some (.box cs)) => if g = 0 ∧ off + n ≤ cs.length then some ((cs.drop off).take n) else none
  | some (some (.row _ _ g' ds)) => if g = g' ∧ off + n ≤ ds.length then some (((ds.drop off).take n).map .d) else none
  | _ => none
def Heap.put (h : Heap) (id g off : Nat) (vs : List V) : Option Heap :=
  match h[id]? with
  | some (some (.box cs)) => if g = 0 ∧ off + vs.length ≤ cs.length then some (h.set id (some (.box (putAt cs off vs)))) else none
  | some (some (.row e sz g' ds)) => match toDs vs with
    | some xs => if g = g' ∧ off + vs.length ≤ ds.length then some (h.set id (some (.row e sz g' (putAt ds off xs)))) else none
    | none => none
  | _ => none

def elemAt (cs : List D) (sz i : Nat) : Option (List D) := if i * sz + sz ≤ cs.length then some ((cs.drop (i * sz)).take sz) else none

def minI (l : List Int) (K : Int → Prop) : Prop := match l with | [] => False | x :: xs => K (xs.foldl (fun a b => if b < a then b else a) x)
def maxI (l : List Int) (K : Int → Prop) : Prop := match l with | [] => False | x :: xs => K (xs.foldl (fun a b => if b > a then b else a) x)
def intsV : List V → Option (List Int)
  | [] => some []
  | .d (.int .i64 n) :: xs => (intsV xs).map (n :: ·)
  | _ => none

def partsV (ρ : Operand → V) : List (Nat × Nat × Operand) → Option (List (Nat × List V))
  | [] => some []
  | (off, sz, x) :: ps => match cellsV (ρ x) with
    | some cs => if cs.length = sz then (partsV ρ ps).map ((off, cs) :: ·) else none
    | none => none
def partsD (ρ : Operand → V) (sz : Nat) : List (Nat × Operand) → Option (List (Nat × List D))
  | [] => some []
  | (off, x) :: ps => match (cellsV (ρ x)).bind toDs with
    | some cs => if cs.length = sz then (partsD ρ sz ps).map ((off, cs) :: ·) else none
    | none => none
def fillL {α : Type} (l : List α) : List (Nat × List α) → List α
  | [] => l
  | (off, xs) :: ps => fillL (putAt l off xs) ps
def fitL {α : Type} (n : Nat) (ps : List (Nat × List α)) : Bool := ps.all fun p => p.1 + p.2.length ≤ n

/-- What a slice operand holds, and how many elements. -/
def conts (h : Heap) : V → Option (Nat × List D)
  | .d (.sl _ m cs) => some (m, cs)
  | .d .nils => some (0, [])
  | .own id g m => match h[id]? with
    | some (some (.row _ _ g' ds)) => if g = g' then some (m, ds) else none
    | _ => none
  | _ => none

/-- The value of an option, that must be there. -/
def optV {α : Type} (o : Option α) (K : α → Prop) : Prop := ∃ v, o = some v ∧ K v
@[congr] theorem optV_congr {α : Type} {o o' : Option α} {K : α → Prop} (h : o = o') : optV o K = optV o' K := by rw [h]
theorem optV_some {α : Type} (v : α) (K : α → Prop) : optV (some v) K = K v := by simp [optV]

@[congr] theorem arV_congr {k k' : IntKind} {r r' : Int} {K : V → Prop} (h1 : k = k') (h2 : r = r') : arV k r K = arV k' r' K := by rw [h1, h2]
@[congr] theorem natI_congr {x x' : V} {K : Int → Prop} (h1 : x = x') : natI x K = natI x' K := by rw [h1]
@[congr] theorem minI_congr {l l' : List Int} {K : Int → Prop} (h1 : l = l') : minI l K = minI l' K := by rw [h1]
@[congr] theorem maxI_congr {l l' : List Int} {K : Int → Prop} (h1 : l = l') : maxI l K = maxI l' K := by rw [h1]

/-- A branch on a bool. -/
def brV (v : V) (yes no : Prop) : Prop :=
  match v with
  | .d (.bool b) => (b = true → yes) ∧ (b = false → no)
  | _ => False
@[congr] theorem brV_congr {v v' : V} {yes no : Prop} (h : v = v') : brV v yes no = brV v' yes no := by rw [h]
theorem brV_true (yes no : Prop) : brV (.d (.bool true)) yes no = yes := by simp [brV]
theorem brV_false (yes no : Prop) : brV (.d (.bool false)) yes no = no := by simp [brV]
theorem brV_split {b : Bool} {yes no : Prop} (h1 : b = true → yes) (h2 : b = false → no) : brV (.d (.bool b)) yes no := ⟨h1, h2⟩

def appendV (own : Bool) (e sz bytes : Nat) (x : V) (h : Heap) (K : V → Heap → Prop) (q : Nat × List D) : Prop :=
  match own with
  | false => onSl x (fun ex n cs => (ex = true ∧ cs.length = n * sz ∧ n + q.1 ≤ 140737488355328 ∧ (n + q.1) * bytes ≤ 140737488355328) ∧ K (.d (.sl false (n + q.1) (cs ++ q.2))) h) (fun _ _ _ => False)
      ((q.1 ≤ 140737488355328 ∧ q.1 * bytes ≤ 140737488355328) ∧ K (.d (.sl false q.1 q.2)) h)
  | true => onSl x (fun ex n cs => if q.1 = 0 then K (.d (.sl ex n cs)) h else (ex = true ∧ cs.length = n * sz ∧ n + q.1 ≤ 140737488355328 ∧ (n + q.1) * bytes ≤ 140737488355328) ∧ K (.own h.length 0 (n + q.1)) (h ++ [some (.row e sz 0 (cs ++ q.2))])) (fun _ _ _ => False) ((q.1 ≤ 140737488355328 ∧ q.1 * bytes ≤ 140737488355328) ∧ K (.own h.length 0 q.1) (h ++ [some (.row e sz 0 q.2)]))

def sliceV (sz : Nat) (K : V → Prop) (len : Nat) (cs : List D) (hasHi : Bool) (l t : V) (mx : Option V) : Prop :=
  cs.length = len * sz ∧ natI l fun l => natI t fun t => match mx with
        | none => (0 ≤ l ∧ l ≤ t ∧ t ≤ len) ∧ K (.d (.sl false (t.toNat - l.toNat) ((cs.drop (l.toNat * sz)).take ((t.toNat - l.toNat) * sz))))
        | some m => natI m fun m => (0 ≤ l ∧ l ≤ t ∧ t = m ∧ m ≤ len ∧ hasHi = true) ∧ K (.d (.sl true (t.toNat - l.toNat) ((cs.drop (l.toNat * sz)).take ((t.toNat - l.toNat) * sz))))

/-! Structs compared; maps; made slices; a slice of an array. -/
def evEqA (neg : Bool) (sh : List SK) (x y : V) : Option V :=
  match x, y with
  | .agg cs, .agg cs' => match toDs cs, toDs cs' with
    | some ds, some es => if (matchSs sh ds && matchSs sh es) = true then some (.d (.bool (if neg then !(eqDs ds es) else eqDs ds es))) else none
    | _, _ => none
  | _, _ => none
def keyD (agg : Bool) (v : V) : Option (List D) :=
  match agg, v with
  | true, .agg cs => toDs cs
  | false, .d x => some [x]
  | _, _ => none
def findE (agg : Bool) (sh : List SK) (ds : List D) : List (V × V) → Nat → Option (Option Nat)
  | [], _ => some none
  | e :: es, i => match keyD agg e.1 with
    | some ds' => if matchSs sh ds' then if eqDs ds ds' then some (some i) else findE agg sh ds es (i + 1) else none
    | none => none
def okV (ok : Bool) (v : V) (b : Bool) : V := if ok then .tup [v, .d (.bool b)] else v
def evLk (agg : Bool) (sh : List SK) (zero : V) (ok : Bool) (x k : V) (h : Heap) : Option V :=
  match x with
  | .mp id => match h[id]?, keyD agg k with
    | some (some (.map es)), some ds => if matchSs sh ds then match findE agg sh ds es 0 with
        | some (some i) => (es[i]?).map fun e => okV ok e.2 true
        | some none => some (okV ok zero false)
        | none => none
      else none
    | _, _ => none
  | _ => none
def evUp (agg : Bool) (sh : List SK) (x k v : V) (h : Heap) : Option Heap :=
  match x with
  | .mp id => match h[id]?, keyD agg k with
    | some (some (.map es)), some ds => if matchSs sh ds then match findE agg sh ds es 0 with
        | some (some i) => some (h.set id (some (.map (es.set i (k, v)))))
        | some none => some (h.set id (some (.map (es ++ [(k, v)]))))
        | none => none
      else none
    | _, _ => none
  | _ => none
def evMk (e sz bytes : Nat) (zero : List D) (l c : V) (h : Heap) : Option (V × Heap) :=
  match l, c with
  | .d (.int _ l), .d (.int _ c) => if 0 ≤ l ∧ l ≤ c ∧ c ≤ 1048576 ∧ bytes * c.toNat ≤ 281474976710656 then
      some (.own h.length 0 l.toNat, h ++ [some (.row e sz 0 ((List.range (l.toNat * sz)).map fun k => zero.getD (k % sz) .any))]) else none
  | _, _ => none
def evSlA (len sz : Nat) (x l t : V) : Option V :=
  match x, l, t with
  | .rptr ds off, .d (.int _ l), .d (.int _ t) => if 0 ≤ l ∧ l ≤ t ∧ t ≤ len ∧ off + len * sz ≤ ds.length then
      some (.d (.sl false (t.toNat - l.toNat) ((ds.drop (off + l.toNat * sz)).take ((t.toNat - l.toNat) * sz)))) else none
  | _, _, _ => none

/-- A slice expression of no elements, and no room. -/
def ev0 (lim : Nat) (r l t : V) (mx : Option V) (hasHi : Bool) : Option V :=
  match l, t, mx with
  | .d (.int _ l), .d (.int _ t), some (.d (.int _ m)) => if 0 ≤ l ∧ l = t ∧ t = m ∧ m ≤ lim ∧ hasHi = true then some r else none
  | _, _, _ => none

def evNilS (x : V) (h : Heap) : Option Bool :=
  match x with
  | .d .nils => some true
  | .d (.sl _ _ cs) => if cs.isEmpty then none else some false
  | .own id g _ => match h[id]? with
    | some (some (.row _ _ g' ds)) => if g = g' ∧ ds.isEmpty = false then some false else none
    | _ => none
  | _ => none
def evNilP (x : V) : Option Bool :=
  match x with
  | .d .nilp => some true
  | .ptr _ _ _ => some false
  | .rptr _ _ => some false
  | _ => none
def evNilM (x : V) : Option Bool :=
  match x with
  | .mp _ => some false
  | _ => none
def evNilF (x : V) : Option Bool :=
  match x with
  | .d .nilf => some true
  | .d (.fn _) => some false
  | .fn _ _ _ => some false
  | _ => none
def evIsNil (k : Nat) (x : V) (h : Heap) : Option Bool :=
  match k with
  | 0 => evNilS x h
  | 1 => evNilP x
  | 2 => evNilM x
  | _ => evNilF x
def evBinB (neg : Bool) (x y : V) : Option V :=
  match x, y with
  | .d (.bool a), .d (.bool b) => some (.d (.bool (if neg then !(a == b) else a == b)))
  | _, _ => none
def evBinS (op : BinOp) (x y : V) : Option V :=
  match x, y with
  | .d (.str a), .d (.str b) => match op with
    | .eql => some (.d (.bool (a == b)))
    | .neq => some (.d (.bool !(a == b)))
    | .lss => some (.d (.bool (Op.bytesLess a b)))
    | .leq => some (.d (.bool (Op.bytesLess a b || a == b)))
    | .gtr => some (.d (.bool !(Op.bytesLess a b || a == b)))
    | .geq => some (.d (.bool !(Op.bytesLess a b)))
    | .add => if a.length + b.length ≤ 9223372036854775807 then some (.d (.str (a ++ b))) else none
    | _ => none
  | _, _ => none

def step (c : COp) (ρ : Operand → V) (h : Heap) (K : V → Heap → Prop) : Prop :=
  match c with
  | .move x => K (ρ x) h
  | .pick c a b => brV (ρ c) (K (ρ a) h) (K (ρ b) h)
  | .alloc z => K (.ptr h.length 0 0) (h ++ [some (.box z)])
  | .box true x => optV (cellsV (ρ x)) fun cs => K (.ptr h.length 0 0) (h ++ [some (.box cs)])
  | .box false x => match (cellsV (ρ x)).bind toDs with
    | some ds => K (.rptr ds 0) h
    | none => optV (cellsV (ρ x)) fun cs => K (.ptr h.length 0 0) (h ++ [some (.box cs)])
  | .build z ps => optV (partsV ρ ps) fun qs => fitL z.length qs = true ∧ K (.agg (fillL z qs)) h
  | .bslice true e sz len z ps => optV (partsD ρ sz ps) fun qs => fitL z.length qs = true ∧ K (.own h.length 0 len) (h ++ [some (.row e sz 0 (fillL z qs))])
  | .bslice false _ sz len z ps => optV (partsD ρ sz ps) fun qs => fitL z.length qs = true ∧ K (.d (.sl true len (fillL z qs))) h
  | .load none x => onPtr (ρ x) (fun id g off => optV (h.cell id g off) fun v => K v h) (fun ds off => optV ds[off]? fun v => K (.d v) h)
  | .load (some n) x => onPtr (ρ x) (fun id g off => optV (h.cells id g off n) fun vs => K (.agg vs) h) (fun ds off => off + n ≤ ds.length ∧ K (.agg (((ds.drop off).take n).map .d)) h)
  | .store n x v => onPtr (ρ x) (fun id g off => optV (cellsV (ρ v)) fun vs => vs.length = n ∧ optV (h.put id g off vs) fun h' => K .any h') (fun _ _ => False)
  | .bin op x y => onInts (ρ x) (ρ y) (binI op fun v => K v h)
  | .un op x => unV op (ρ x) fun v => K v h
  | .conv k x => onInt (ρ x) fun _ n => K (.d (.int k (k.wrap n))) h
  | .fieldAddr off x => onPtr (ρ x) (fun id g o => K (.ptr id g (o + off)) h) (fun ds o => K (.rptr ds (o + off)) h)
  | .field none off x => onAgg (ρ x) fun cs => optV cs[off]? fun v => K v h
  | .field (some n) off x => onAgg (ρ x) fun cs => off + n ≤ cs.length ∧ K (.agg ((cs.drop off).take n)) h
  | .indexS sz x i => natI (ρ i) fun i => onSl (ρ x) (fun _ len cs => (0 ≤ i ∧ i < len) ∧ optV (elemAt cs sz i.toNat) fun e => K (.rptr e 0) h)
      (fun id g len => (0 ≤ i ∧ i < len) ∧ (∃ vs, h.cells id g (i.toNat * sz) sz = some vs) ∧ K (.ptr id g (i.toNat * sz)) h) False
  | .indexA len sz x i => natI (ρ i) fun i => onPtr (ρ x) (fun id g o => (0 ≤ i ∧ i < len) ∧ K (.ptr id g (o + i.toNat * sz)) h) (fun ds o => (0 ≤ i ∧ i < len) ∧ K (.rptr ds (o + i.toNat * sz)) h)
  | .extract x k => onTup (ρ x) fun vs => optV vs[k]? fun v => K v h
  | .nilCheck x => onPtr (ρ x) (fun id g o => K (.ptr id g o) h) (fun ds o => K (.rptr ds o) h)
  | .mkfn f a c => K (.fn f (a.map ρ) (c.map ρ)) h
  | .len x => onSl (ρ x) (fun _ len _ => K (.d (.int .i64 len)) h) (fun _ _ len => K (.d (.int .i64 len)) h) (K (.d (.int .i64 0)) h)
  | .lenArr m => K (.d (.int .i64 m)) h
  | .lenStr x => onStr (ρ x) fun l => K (.d (.int .i64 l.length)) h
  | .append own e sz bytes x y => optV (conts h (ρ y)) fun q => q.2.length = q.1 * sz ∧ appendV own e sz bytes (ρ x) h K q
  | .min xs => optV (intsV (xs.map ρ)) fun l => minI l fun n => K (.d (.int .i64 n)) h
  | .max xs => optV (intsV (xs.map ρ)) fun l => maxI l fun n => K (.d (.int .i64 n)) h
  | .sliceS sz x lo hi mx => onSl (ρ x) (fun _ len cs => sliceV sz (fun v => K v h) len cs hi.isSome ((lo.map ρ).getD (.d (.int .i64 0))) ((hi.map ρ).getD (.d (.int .i64 len))) (mx.map ρ))
      (fun _ _ len => optV (ev0 len (.d (.sl true 0 [])) ((lo.map ρ).getD (.d (.int .i64 0))) ((hi.map ρ).getD (.d (.int .i64 0))) (mx.map ρ) hi.isSome) fun v => K v h)
      (optV (ev0 0 (.d .nils) ((lo.map ρ).getD (.d (.int .i64 0))) ((hi.map ρ).getD (.d (.int .i64 0))) (mx.map ρ) hi.isSome) fun v => K v h)
  | .isNil k neg x => optV (evIsNil k (ρ x) h) fun b => K (.d (.bool (if neg then !b else b))) h
  | .binB neg x y => optV (evBinB neg (ρ x) (ρ y)) fun v => K v h
  | .binS op x y => optV (evBinS op (ρ x) (ρ y)) fun v => K v h
  | .eqA neg sh x y => optV (evEqA neg sh (ρ x) (ρ y)) fun v => K v h
  | .mkmap => K (.mp h.length) (h ++ [some (.map [])])
  | .lookup agg sh z ok x k => optV (evLk agg sh z ok (ρ x) (ρ k) h) fun v => K v h
  | .mupd agg sh x k v => optV (evUp agg sh (ρ x) (ρ k) (ρ v) h) fun h' => K .any h'
  | .mkslice e sz b z l c => optV (evMk e sz b z (ρ l) (ρ c) h) fun q => K q.1 q.2
  | .sliceA len sz x lo hi => optV (evSlA len sz (ρ x) ((lo.map ρ).getD (.d (.int .i64 0))) ((hi.map ρ).getD (.d (.int .i64 len)))) fun v => K v h
  | _ => False

@[congr] theorem step_congr {c : COp} {ρ : Operand → V} {h h' : Heap} {K : V → Heap → Prop} (h1 : h = h') : step c ρ h K = step c ρ h' K := by rw [h1]

def Out (n : Nat) (M : Mem) (h : Heap) (w : World) (K : V → Heap → Prop) (r : Result Next) : Prop :=
  ∃ cv w' M' v h', (r = .ok (.value cv) w' ∨ (r = .ok .skip w' ∧ cv = undef)) ∧ Post n M h w M' h' w' ∧ (∀ x u, RepV M x u → RepV M' x u) ∧ RepV M' v cv ∧ K v h'

theorem Out.pure {n : Nat} {M : Mem} {h : Heap} {w : World} {K : V → Heap → Prop} {v : V} {cv : Value} (hs : Sim M h w) (hn : n ≤ h.length) (hv : RepV M v cv) (hk : K v h) {r : Result Next}
    (hr : r = .ok (.value cv) w) : Out n M h w K r :=
  ⟨cv, w, M, v, h, .inl hr, .refl hs hn, fun _ _ h => h, hv, hk⟩

section
variable {P : Program} {n : Nat} {o : Oper} {own : Bool} {ρV : Operand → V} {ρ : Operand → Value} {M : Mem} {h : Heap} {w : World} {K : V → Heap → Prop}

theorem RepV.dI {M : Mem} {x : D} {v : Value} (h : RepV M (.d x) v) : RepD M.ro x v := by cases h; assumption
theorem RepV.intI {M : Mem} {k : IntKind} {i : Int} {v : Value} (h : RepV M (.d (.int k i)) v) : v = .int k i := by cases h with | d _ _ h => cases h; rfl
theorem RepV.boolI {M : Mem} {b : Bool} {v : Value} (h : RepV M (.d (.bool b)) v) : v = .bool b := by cases h with | d _ _ h => cases h; rfl
theorem RepV.strI {M : Mem} {l : List UInt8} {v : Value} (h : RepV M (.d (.str l)) v) : v = .string ⟨l.toArray⟩ := by cases h with | d _ _ h => cases h; rfl
theorem RepV.ptrI {M : Mem} {id g off : Nat} {v : Value} (h : RepV M (.ptr id g off) v) : ∃ r b, M.mu id = some r ∧ g ≤ r.gen ∧ v = .pointer (some ⟨b, off, none⟩) ∧ (r.gen = g → r.blk = some b) := by
  cases h with | ptr _ _ _ r b h hg hv => exact ⟨r, b, h, hg, rfl, hv⟩
theorem RepV.aggI {M : Mem} {cs : List V} {v : Value} (h : RepV M (.agg cs) v) : ∃ arr : List Value, v = .agg arr.toArray ∧ RepL M cs arr := by
  cases h with | agg _ arr hl h => exact ⟨arr, rfl, hl, h⟩
theorem RepV.tupI {M : Mem} {cs : List V} {v : Value} (h : RepV M (.tup cs) v) : ∃ arr : List Value, v = .tuple arr.toArray ∧ RepL M cs arr := by
  cases h with | tup _ arr hl h => exact ⟨arr, rfl, hl, h⟩
theorem RepV.rptrI {M : Mem} {cs : List D} {off : Nat} {v : Value} (h : RepV M (.rptr cs off) v) : ∃ (b o : Nat) (vals : Nat → Value), v = .pointer (some ⟨b, o + off, none⟩) ∧
    (∀ k, k < cs.length → M.ro b (o + k) = some (vals k)) ∧ ∀ (k : Nat) c, cs[k]? = some c → RepD M.ro c (vals k) := by
  cases h with | rptr _ _ b o vals h1 h2 => exact ⟨b, o, vals, rfl, h1, h2⟩
theorem RepV.slI {M : Mem} {x : Bool} {len : Nat} {cs : List D} {v : Value} (h : RepV M (.d (.sl x len cs)) v) : ∃ (cap : Nat) (ao : Option Addr) (b off : Nat) (vals : Nat → Value), v = .slice ao len cap ∧ len ≤ cap ∧ cap ≤ maxLen ∧ (x = true → cap = len) ∧
    (cs = [] ∨ ao = some ⟨b, off, none⟩) ∧ (∀ k, k < cs.length → M.ro b (off + k) = some (vals k)) ∧ ∀ (k : Nat) c, cs[k]? = some c → RepD M.ro c (vals k) := by
  cases h with | d _ _ h => cases h with | sl _ _ cap _ ao b off vals h1 h2 h3 h4 h5 h6 => exact ⟨cap, ao, b, off, vals, rfl, h1, h2, h3, h4, h5, h6⟩
theorem RepV.ownI {M : Mem} {id g len : Nat} {v : Value} (h : RepV M (.own id g len) v) : ∃ r ao cap, M.mu id = some r ∧ g ≤ r.gen ∧ v = .slice ao len cap ∧ len ≤ cap ∧ cap ≤ maxLen ∧
    (r.gen = g → ao = r.blk.map (fun b => ⟨b, 0, none⟩) ∧ cap = r.cap) := by
  cases h with | own _ _ _ r ao cap h1 h2 h3 h4 h5 => exact ⟨r, ao, cap, h1, h2, rfl, h3, h4, h5⟩

theorem snd_move (x : Operand) (hop : o.op = .move x ∨ o.op = .assign x) (hx : RepV M (ρV x) (ρ x)) (hs : Sim M h w) (hn : n ≤ h.length) (hk : step (.move x) ρV h K) :
    Out n M h w K ((execOp ρ o).run P w) := by
  refine Out.pure hs hn hx hk ?_
  rcases hop with hop | hop <;> simp [execOp, hop]

theorem snd_pick (c a b : Operand) (hop : o.op = .pick c a b) (hc : RepV M (ρV c) (ρ c)) (ha : RepV M (ρV a) (ρ a)) (hb : RepV M (ρV b) (ρ b)) (hs : Sim M h w) (hn : n ≤ h.length)
    (hk : step (.pick c a b) ρV h K) : Out n M h w K ((execOp ρ o).run P w) := by
  simp only [step, brV] at hk
  split at hk
  · rename_i t e; rw [e] at hc
    cases t with
    | true => exact Out.pure hs hn ha (hk.1 rfl) (by simp [execOp, hop, hc.boolI, asBool])
    | false => exact Out.pure hs hn hb (hk.2 rfl) (by simp [execOp, hop, hc.boolI, asBool])
  · exact hk.elim

theorem Out.of_arV {k : IntKind} {r : Int} {res : Result Next} (hs : Sim M h w) (hn : n ≤ h.length) (hk : arV k r fun v => K v h)
    (hr : res = .ok (.value (.int k (k.wrap r))) w) : Out n M h w K res := by
  unfold arV at hk
  split at hk
  · obtain ⟨⟨h1, h2⟩, hk⟩ := hk
    have hw : IntKind.i64.wrap r = r := by
      unfold IntKind.wrap IntKind.signed IntKind.bits
      simp only
      split <;> rename_i hc <;> simp at hc <;> omega
    rw [hw] at hr
    exact Out.pure hs hn (.d _ _ (.int _ _)) hk hr
  · exact Out.pure hs hn (.d _ _ (.int _ _)) hk hr

theorem snd_bin (op : BinOp) (T T' : TypeId) (x y : Operand) (hop : o.op = .binOp op T x y T') (hx : RepV M (ρV x) (ρ x)) (hy : RepV M (ρV y) (ρ y)) (hs : Sim M h w) (hn : n ≤ h.length)
    (hk : step (.bin op x y) ρV h K) : Out n M h w K ((execOp ρ o).run P w) := by
  simp only [step, onInts, binI] at hk
  split at hk
  · rename_i k a k' b e1 e2
    rw [e1] at hx
    rw [e2] at hy
    have he : ∀ s : Sem Value, binOp op T (ρ x) (ρ y) = s → (execOp ρ o).run P w = (Functor.map (fun v => Next.value v) s).run P w := by
      intro s hs'
      simp only [execOp, hop, hx.intI, hy.intI] at hs' ⊢
      rw [← hs']
      cases op <;> simp [eqGuard]
    rw [hx.intI, hy.intI] at he
    have hd : ∀ z, (execOp ρ o).run P w = .ok (.value (.bool z)) w → K (.d (.bool z)) h → Out n M h w K ((execOp ρ o).run P w) :=
      fun z hz hkz => Out.pure hs hn (.d _ _ (.bool _)) hkz hz
    have hi : ∀ z, (execOp ρ o).run P w = .ok (.value (.int k z)) w → K (.d (.int k z)) h → Out n M h w K ((execOp ρ o).run P w) :=
      fun z hz hkz => Out.pure hs hn (.d _ _ (.int _ _)) hkz hz
    cases op
    case add => obtain ⟨rfl, hk⟩ := hk; exact Out.of_arV hs hn hk (by rw [he _ rfl]; simp [binOp, Op.intArith])
    case sub => obtain ⟨rfl, hk⟩ := hk; exact Out.of_arV hs hn hk (by rw [he _ rfl]; simp [binOp, Op.intArith])
    case mul => obtain ⟨rfl, hk⟩ := hk; exact Out.of_arV hs hn hk (by rw [he _ rfl]; simp [binOp, Op.intArith])
    case quo => obtain ⟨rfl, hb, hk⟩ := hk; exact Out.of_arV hs hn hk (by rw [he _ rfl]; simp [binOp, Op.intDiv, hb])
    case rem => obtain ⟨rfl, hb, hk⟩ := hk; exact hi _ (by rw [he _ rfl]; simp [binOp, Op.intDiv, hb]) hk
    case shl => obtain ⟨hb, hk⟩ := hk; exact Out.of_arV hs hn hk (by rw [he _ rfl]; simp [binOp, Op.shift, Int.not_lt.2 hb])
    case shr => obtain ⟨hb, hk⟩ := hk; exact hi _ (by rw [he _ rfl]; simp [binOp, Op.shift, Int.not_lt.2 hb]) hk
    case and => obtain ⟨rfl, hk⟩ := hk; exact hi _ (by rw [he _ rfl]; simp [binOp, Op.intBits, bitsV]) hk
    case or => obtain ⟨rfl, hk⟩ := hk; exact hi _ (by rw [he _ rfl]; simp [binOp, Op.intBits, bitsV]) hk
    case xor => obtain ⟨rfl, hk⟩ := hk; exact hi _ (by rw [he _ rfl]; simp [binOp, Op.intBits, bitsV]) hk
    case andNot => obtain ⟨rfl, hk⟩ := hk; exact hi _ (by rw [he _ rfl]; simp [binOp, Op.intBits, bitsV]) hk
    case eql => obtain ⟨rfl, hk⟩ := hk; exact hd _ (by rw [he _ rfl]; simp [binOp, Op.intCmp]) hk
    case neq => obtain ⟨rfl, hk⟩ := hk; exact hd _ (by rw [he _ rfl]; simp [binOp, Op.intCmp]) hk
    case lss => obtain ⟨rfl, hk⟩ := hk; exact hd _ (by rw [he _ rfl]; simp [binOp, Op.intCmp]) hk
    case leq => obtain ⟨rfl, hk⟩ := hk; exact hd _ (by rw [he _ rfl]; simp [binOp, Op.intCmp]) hk
    case gtr => obtain ⟨rfl, hk⟩ := hk; exact hd _ (by rw [he _ rfl]; simp [binOp, Op.intCmp]) hk
    case geq => obtain ⟨rfl, hk⟩ := hk; exact hd _ (by rw [he _ rfl]; simp [binOp, Op.intCmp]) hk
  · exact hk.elim

theorem snd_un (op : UnOp) (T : TypeId) (x : Operand) (hop : o.op = .unOp op T x) (hx : RepV M (ρV x) (ρ x)) (hs : Sim M h w) (hn : n ≤ h.length)
    (hk : step (.un op x) ρV h K) : Out n M h w K ((execOp ρ o).run P w) := by
  cases op with
  | not =>
    simp only [step, unV, onBools] at hk
    split at hk
    · rename_i e; rw [e] at hx
      exact Out.pure hs hn (.d _ _ (.bool _)) hk (by simp [execOp, hop, hx.boolI, Op.unary])
    · exact hk.elim
  | neg =>
    simp only [step, unV, onInt] at hk
    split at hk
    · rename_i e; rw [e] at hx
      exact Out.of_arV hs hn hk (by simp [execOp, hop, hx.intI, Op.unary, Op.intArith])
    · exact hk.elim
  | _ => exact hk.elim

theorem snd_conv (S T : TypeId) (k k0 : IntKind) (x : Operand) (hop : o.op = .convert S T x) (h1 : P.underlying S = some (.int k0)) (h2 : P.underlying T = some (.int k))
    (hx : RepV M (ρV x) (ρ x)) (hs : Sim M h w) (hn : n ≤ h.length)
    (hk : step (.conv k x) ρV h K) : Out n M h w K ((execOp ρ o).run P w) := by
  simp only [step, onInt] at hk
  split at hk
  · rename_i e; rw [e] at hx
    exact Out.pure hs hn (.d _ _ (.int _ _)) hk (by simp [execOp, hop, hx.intI, convert, run_underlying h1, run_underlying h2, Conv.intToInt])
  · exact hk.elim
end
end Go.Proofs.Ytdnefcjbcieecaa
