/- The small operations: what the Go operations compile to, and what each does to abstract values. -/
import Derived.Test.YtdnefcjbcieecaaCoreBe
set_option linter.unusedVariables false
set_option linter.unusedSimpArgs false
namespace Go.Proofs.Ytdnefcjbcieecaa
open Go

def constD : Value → D
  | .int k n => .int k n
  | .bool b => .bool b
  | .string s => .str s.data.toList
  | .slice none n c => if n = 0 ∧ c = 0 then .nils else .any
  | .nilFunc => .nilf
  | .pointer none => .nilp
  | .nilIface => .nili
  | _ => .any

def constV : Value → V
  | .agg cs => if cs.all (·.oneCell') then .agg (cs.toList.map fun c => .d (constD c)) else .any
  | .tuple vs => if vs.size = 0 then .tup [] else .any
  | v => .d (constD v)

theorem rep_nil (ro : Nat → Nat → Option Value) : RepD ro (.sl true 0 []) (.slice none 0 0) :=
  .sl true 0 0 [] none 0 0 (fun _ => undef) (Nat.le_refl _) (Nat.zero_le _) (fun _ => rfl) (.inl rfl) (fun k hk => by simp at hk) (fun k c hk => by simp at hk)

theorem constD_rep (ro : Nat → Nat → Option Value) (v : Value) (h1 : v.oneCell' = true) : RepD ro (constD v) v := by
  cases v with
  | int k n => exact .int _ _
  | bool b => exact .bool _
  | string s => exact .str _
  | slice a n c =>
    cases a with
    | none =>
      simp only [constD]
      split
      · rename_i h; obtain ⟨rfl, rfl⟩ := h; exact .nils
      · exact .any _ rfl
    | some a => exact .any _ rfl
  | pointer a =>
    cases a with
    | none => exact .nilp
    | some a => exact .any _ rfl
  | nilFunc => exact .nilf
  | nilIface => exact .nili
  | _ => exact .any _ h1

theorem constV_rep (M : Mem) (v : Value) : RepV M (constV v) v := by
  cases v with
  | agg cs =>
    obtain ⟨l⟩ := cs
    simp only [constV]
    split
    · rename_i hall
      have hall : ∀ u ∈ l, u.oneCell' = true := by simpa using hall
      refine .agg _ l (by simp) (fun k v c hv hc => ?_) hall
      simp only [List.getElem?_map, hc, Option.map_some, Option.some.injEq] at hv
      subst hv
      exact .d _ _ (constD_rep _ _ (hall _ (List.mem_of_getElem? hc)))
    · exact .any _
  | tuple vs =>
    simp only [constV]
    split
    · rename_i h
      obtain ⟨l⟩ := vs
      obtain rfl : l = [] := List.eq_nil_of_length_eq_zero (by simpa using h)
      exact .tup [] [] rfl (fun k v c hv => by simp at hv)
    · exact .any _
  | _ => exact .d _ _ (constD_rep _ _ rfl)

/-- The cells of a value whose number is known. -/
def cellsV : V → Option (List V)
  | .agg cs => some cs
  | .any => none
  | .tup _ => none
  | v => some [v]

theorem RepD.one {ro : Nat → Nat → Option Value} {x : D} {v : Value} (h : RepD ro x v) : v.oneCell' = true := by cases h <;> first | rfl | assumption
theorem cells_one {v : Value} (h : v.oneCell' = true) : v.cells = #[v] := by cases v <;> first | rfl | (simp [Value.oneCell'] at h)
theorem RepL.single {M : Mem} {x : V} {v : Value} (h : RepV M x v) : RepL M [x] [v] := by
  refine ⟨rfl, fun k a c ha hc => ?_⟩
  cases k with
  | zero => simp at ha hc; subst ha; subst hc; exact h
  | succ k => simp at ha

theorem RepV.oneOf {M : Mem} {x : V} {v : Value} (h : RepV M x v) (hx : cellsV x = some [x]) (hna : ∀ cs, x ≠ .agg cs) : v.oneCell' = true := by
  cases h with
  | d x v hd => exact hd.one
  | any v => cases hx
  | agg cs => exact absurd rfl (hna _)
  | tup => cases hx
  | _ => rfl

theorem cellsV_rep {M : Mem} {x : V} {v : Value} {cs : List V} (h : RepV M x v) (hc : cellsV x = some cs) : RepL M cs v.cells.toList ∧ ∀ u ∈ v.cells.toList, u.oneCell' = true := by
  have one : v.oneCell' = true → cs = [x] → RepL M cs v.cells.toList ∧ ∀ u ∈ v.cells.toList, u.oneCell' = true := by
    rintro h1 rfl
    rw [cells_one h1]
    exact ⟨RepL.single h, fun u hu => by simp at hu; subst hu; exact h1⟩
  cases x with
  | any => cases hc
  | tup vs => cases hc
  | agg vs =>
    cases hc
    cases h with | agg _ arr hl h h1 => exact ⟨⟨by simpa [Value.cells] using hl, by simpa [Value.cells] using h⟩, by simpa [Value.cells] using h1⟩
  | _ => exact one (h.oneOf rfl (fun _ e => by cases e)) (by cases hc; rfl)

def aggOf (P : Program) (T : TypeId) : Option (Option Nat) :=
  match P.info? T, P.underlying T with
  | some i, some (.struct _) => if i.size = 0 then none else some (some i.size)
  | some i, some (.array _ _) => if i.size = 0 then none else some (some i.size)
  | some i, some _ => if i.size = 1 then some none else none
  | _, _ => none

def zeroCells? (P : Program) (T : TypeId) : Option (List D) := ((P.info? T).bind (·.zero)).bind fun z => if z.cells.toList.all (·.oneCell') then some (z.cells.toList.map constD) else none

def placeOf (P : Program) (T : TypeId) : Option (Nat → Option (Nat × Nat)) :=
  match P.underlying T with
  | some (.struct fs) => (fs.toList.mapM fun f => (P.info? f.type).map fun i => (f.offset, i.size)).map fun pl i => pl[i]?
  | some (.array _ e) => (P.info? e).map fun ie i => some (i * ie.size, ie.size)
  | _ => none
def partsOf (pl : Nat → Option (Nat × Nat)) : List (Nat × Operand) → Option (List (Nat × Nat × Operand))
  | [] => some []
  | p :: ps => match pl p.1, partsOf pl ps with
    | some q, some r => some ((q.1, q.2, p.2) :: r)
    | _, _ => none

def listO : Option Operand → List Operand
  | none => []
  | some x => [x]

def appOf (P : Program) : List TypeId → List Operand → Option (Nat × Nat × Nat × Operand × Operand)
  | [t, t'], [x, y] => if t = t' then
      match P.underlying t with
      | some (.slice e) => (P.info? e).bind fun i => if 0 < i.size ∧ (i.zero.map fun z => z.cells.size) = some i.size then some (e, i.size, i.bytes, x, y) else none
      | _ => none
    else none
  | _, _ => none

/-- The comparison of two structs or arrays. -/
def eqAOf (P : Program) (op : BinOp) (T : TypeId) (x y : Operand) : Option COp :=
  if P.eqGuardType P.depth T then none else match op, shapeOf P 8 T with
    | .eql, some sh => some (.eqA false sh x y)
    | .neq, some sh => some (.eqA true sh x y)
    | _, _ => none

def isNilC : Operand → Bool
  | .const (.slice none 0 0) => true
  | .const (.pointer none) => true
  | .const (.map none) => true
  | .const .nilFunc => true
  | _ => false
/-- The comparison with nil. -/
def nilOf (P : Program) (op : BinOp) (T : TypeId) (x y : Operand) : Option COp :=
  match P.underlying T, y with
  | some (.slice _), .const (.slice none 0 0) => match op with | .eql => some (.isNil 0 false x) | .neq => some (.isNil 0 true x) | _ => none
  | some (.pointer _), .const (.pointer none) => match op with | .eql => some (.isNil 1 false x) | .neq => some (.isNil 1 true x) | _ => none
  | some (.map _ _), .const (.map none) => match op with | .eql => some (.isNil 2 false x) | .neq => some (.isNil 2 true x) | _ => none
  | some (.func _ _ _), .const .nilFunc => match op with | .eql => some (.isNil 3 false x) | .neq => some (.isNil 3 true x) | _ => none
  | some .bool, y => match op with | .eql => some (.binB false x y) | .neq => some (.binB true x y) | _ => none
  | some .string, y => some (.binS op x y)
  | _, _ => none
def compOp (P : Program) (own : Bool) : Op → Option COp
  | .move x => some (.move x)
  | .assign x => some (.move x)
  | .pick c a b => some (.pick c a b)
  | .alloc T => (zeroCells? P T).map fun z => .alloc (z.map V.d)
  | .box _ x => some (.box own x)
  | .build T parts =>
    match placeOf P T, zeroCells? P T with
    | some pl, some z => (partsOf pl parts.toList).map (.build (z.map V.d))
    | _, _ => none
  | .buildSlice T len parts =>
    match P.underlying T with
    | some (.slice e) => (P.info? e).bind fun i => (zeroCells? P e).bind fun z =>
        if 0 < i.size ∧ z.length = i.size ∧ len * i.size ≤ 2 ^ 24 then some (.bslice own e i.size len ((List.range (len * i.size)).map fun j => z.getD (j % z.length) .any) (parts.toList.map fun p => (p.1 * i.size, p.2))) else none
    | _ => none
  | .load T x => (aggOf P T).map (.load · x)
  | .store T x v => (P.info? T).map fun i => .store i.size x v
  | .binOp op T x y _ => if aggT P T then eqAOf P op T x y else match nilOf P op T x y with
    | some c => some c
    | none => some (.bin op x y)
  | .makeMap _ none => some .mkmap
  | .lookup t x k ok =>
    match P.underlying t with
    | some (.map kt et) => (shapeOf P 8 kt).bind fun sh => ((P.info? et).bind (·.zero)).map fun z => .lookup (aggT P kt) sh (constV z) ok x k
    | _ => none
  | .mapUpdate t x k v =>
    match P.underlying t with
    | some (.map kt _) => (shapeOf P 8 kt).map fun sh => .mupd (aggT P kt) sh x k v
    | _ => none
  | .insert t x k v =>
    match P.underlying t with
    | some (.map kt _) => (shapeOf P 8 kt).map fun sh => .mupd (aggT P kt) sh x k v
    | _ => none
  | .makeSlice t l c =>
    match P.underlying t with
    | some (.slice e) => (P.info? e).bind fun i => (zeroCells? P e).bind fun z => if z.length = i.size ∧ 0 < i.size then some (.mkslice e i.size i.bytes z l c) else none
    | _ => none
  | .unOp op _ x => some (.un op x)
  | .convert S T x =>
    match P.underlying S, P.underlying T with
    | some (.int _), some (.int k) => some (.conv k x)
    | _, _ => none
  | .fieldAddr S x f =>
    match P.underlying S with
    | some (.struct fs) => (fs[f]?).bind fun fl => (P.info? fl.type).bind fun i => if i.size = 0 then none else some (.fieldAddr fl.offset x)
    | _ => none
  | .field S x f =>
    match P.underlying S with
    | some (.struct fs) => (fs[f]?).bind fun fl => (aggOf P fl.type).map (.field · fl.offset x)
    | _ => none
  | .indexAddr T x i =>
    match P.underlying T with
    | some (.slice e) => (P.info? e).bind fun inf => if inf.size = 0 then none else some (.indexS inf.size x i)
    | some (.array n e) => (P.info? e).bind fun inf => if inf.size = 0 then none else some (.indexA n inf.size x i)
    | _ => none
  | .extract x k => some (.extract x k)
  | .nilCheck x => some (.nilCheck x)
  | .makeFunc f first caps => some (.mkfn f first.toList caps.toList)
  | .slice T x lo hi mx =>
    match P.underlying T with
    | some (.slice e) => (P.info? e).bind fun inf => if inf.size = 0 then none else some (.sliceS inf.size x lo hi mx)
    | some (.array n e) => if mx.isSome then none else (P.info? e).bind fun inf => if inf.size = 0 ∨ 1048576 < n then none else some (.sliceA n inf.size x lo hi)
    | some (.pointer arr) => match P.underlying arr with
      | some (.array n e) => if mx.isSome then none else (P.info? e).bind fun inf => if inf.size = 0 ∨ 1048576 < n then none else some (.sliceA n inf.size x lo hi)
      | _ => none
    | _ => none
  | .panic x => some (.panic x)
  | .call c =>
    match c.callee with
    | .value _ => none
    | .builtin .len =>
      match (c.argTypes[0]?).bind P.underlying, c.args.toList with
      | some (.slice _), [x] => some (.len x)
      | some .string, [x] => some (.lenStr x)
      | some (.array n _), [_] => some (.lenArr n)
      | _, _ => none
    | .builtin .min => some (.min c.args.toList)
    | .builtin .max => some (.max c.args.toList)
    | .builtin .append => match appOf P c.argTypes.toList c.args.toList with
      | some (e, sz, bytes, x, y) => some (.append own e sz bytes x y)
      | none => none
    | _ => none
  | _ => none

end Go.Proofs.Ytdnefcjbcieecaa
