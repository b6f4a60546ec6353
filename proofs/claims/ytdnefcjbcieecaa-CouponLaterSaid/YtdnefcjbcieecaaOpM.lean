/- The data of the company, and how they lie in cells. -/
import Derived.Test.YtdnefcjbcieecaaOpL
set_option linter.unusedVariables false
set_option linter.unusedSimpArgs false
namespace Go.Proofs.Ytdnefcjbcieecaa
open Go

structure Rng where
  lo : Int
  hi : Int
structure Trd where
  seller : Int
  buyer : Int
  shares : Int
  sold : Rng
  deliv : Rng
structure Dvd where
  ex : Int
  record : Int
  pence : Int
structure Spl where
  day : Int
  num : Int
  den : Int
structure Cmp where
  houses : Int
  held : List Int
  trades : List Trd
  divs : List Dvd
  splits : List Spl
  closed : List Rng
structure Tru where
  sold : List Int
  deliv : List Int
instance : Inhabited Rng := ⟨⟨0, 0⟩⟩
instance : Inhabited Trd := ⟨⟨0, 0, 0, ⟨0, 0⟩, ⟨0, 0⟩⟩⟩
instance : Inhabited Dvd := ⟨⟨0, 0, 0⟩⟩
instance : Inhabited Spl := ⟨⟨0, 0, 0⟩⟩

def vi (n : Int) : V := .d (.int .i64 n)
def vb (b : Bool) : V := .d (.bool b)
def eI (n : Int) : List D := [.int .i64 n]
def eR (r : Rng) : List D := [.int .i64 r.lo, .int .i64 r.hi]
def eT (t : Trd) : List D := [.int .i64 t.seller, .int .i64 t.buyer, .int .i64 t.shares, .int .i64 t.sold.lo, .int .i64 t.sold.hi, .int .i64 t.deliv.lo, .int .i64 t.deliv.hi]
def eV (d : Dvd) : List D := [.int .i64 d.ex, .int .i64 d.record, .int .i64 d.pence]
def eS (s : Spl) : List D := [.int .i64 s.day, .int .i64 s.num, .int .i64 s.den]
/-- The cells of a list. -/
def enc {α : Type} (f : α → List D) (l : List α) : List D := l.flatMap f
def dsl {α : Type} (f : α → List D) (l : List α) : D := .sl false l.length (enc f l)
def vsl {α : Type} (f : α → List D) (l : List α) : V := .d (dsl f l)
def Cv (c : Cmp) : V := .agg [.d (.int .i64 c.houses), .d (.sl false c.held.length (enc eI c.held)), .d (.sl false c.trades.length (enc eT c.trades)), .d (.sl false c.divs.length (enc eV c.divs)), .d (.sl false c.splits.length (enc eS c.splits)), .d (.sl false c.closed.length (enc eR c.closed))]
def Rv (r : Rng) : V := .agg [.d (.int .i64 r.lo), .d (.int .i64 r.hi)]
def Tv (t : Trd) : V := .agg [.d (.int .i64 t.seller), .d (.int .i64 t.buyer), .d (.int .i64 t.shares), .d (.int .i64 t.sold.lo), .d (.int .i64 t.sold.hi), .d (.int .i64 t.deliv.lo), .d (.int .i64 t.deliv.hi)]
def Dv (d : Dvd) : V := .agg [.d (.int .i64 d.ex), .d (.int .i64 d.record), .d (.int .i64 d.pence)]
def Sv (s : Spl) : V := .agg [.d (.int .i64 s.day), .d (.int .i64 s.num), .d (.int .i64 s.den)]
def Uv (t : Tru) : V := .agg [.d (.sl false t.sold.length (enc eI t.sold)), .d (.sl false t.deliv.length (enc eI t.deliv))]

/-! Reading them back. -/
def D.toI : D → Int
  | .int _ n => n
  | _ => 0
def dec {α : Type} (sz : Nat) (g : List D → α) : Nat → List D → List α
  | 0, _ => []
  | n + 1, ds => g (ds.take sz) :: dec sz g n (ds.drop sz)
def atI (ds : List D) (k : Nat) : Int := ((ds[k]?).getD .nils).toI
def gI (ds : List D) : Int := atI ds 0
def gR (ds : List D) : Rng := ⟨atI ds 0, atI ds 1⟩
def gT (ds : List D) : Trd := ⟨atI ds 0, atI ds 1, atI ds 2, ⟨atI ds 3, atI ds 4⟩, ⟨atI ds 5, atI ds 6⟩⟩
def gV (ds : List D) : Dvd := ⟨atI ds 0, atI ds 1, atI ds 2⟩
def gS (ds : List D) : Spl := ⟨atI ds 0, atI ds 1, atI ds 2⟩
theorem dec_enc {α : Type} {sz : Nat} {f : α → List D} {g : List D → α} (hf : ∀ x, (f x).length = sz) (hg : ∀ x, g (f x) = x) : ∀ l : List α, dec sz g l.length (enc f l) = l
  | [] => rfl
  | x :: l => by
    have h1 : (enc f (x :: l)).take sz = f x := by
      show (f x ++ enc f l).take sz = f x
      rw [← hf x, List.take_left]
    have h2 : (enc f (x :: l)).drop sz = enc f l := by
      show (f x ++ enc f l).drop sz = enc f l
      rw [← hf x, List.drop_left]
    show g ((enc f (x :: l)).take sz) :: dec sz g l.length ((enc f (x :: l)).drop sz) = x :: l
    rw [h1, h2, hg, dec_enc hf hg l]
@[simp] theorem dec_I (l : List Int) : dec 1 gI l.length (enc eI l) = l := dec_enc (sz := 1) (f := eI) (g := gI) (fun _ => rfl) (fun _ => rfl) l
@[simp] theorem dec_R (l : List Rng) : dec 2 gR l.length (enc eR l) = l := dec_enc (sz := 2) (f := eR) (g := gR) (fun _ => rfl) (fun _ => rfl) l
@[simp] theorem dec_T (l : List Trd) : dec 7 gT l.length (enc eT l) = l := dec_enc (sz := 7) (f := eT) (g := gT) (fun _ => rfl) (fun _ => rfl) l
@[simp] theorem dec_V (l : List Dvd) : dec 3 gV l.length (enc eV l) = l := dec_enc (sz := 3) (f := eV) (g := gV) (fun _ => rfl) (fun _ => rfl) l
@[simp] theorem dec_S (l : List Spl) : dec 3 gS l.length (enc eS l) = l := dec_enc (sz := 3) (f := eS) (g := gS) (fun _ => rfl) (fun _ => rfl) l
/-- The company that lies in some cells. -/
def dC (hs : Int) (n1 : Nat) (d1 : List D) (n2 : Nat) (d2 : List D) (n3 : Nat) (d3 : List D) (n4 : Nat) (d4 : List D) (n5 : Nat) (d5 : List D) : Cmp :=
  ⟨hs, dec 1 gI n1 d1, dec 7 gT n2 d2, dec 3 gV n3 d3, dec 3 gS n4 d4, dec 2 gR n5 d5⟩
def dU (n1 : Nat) (d1 : List D) (n2 : Nat) (d2 : List D) : Tru := ⟨dec 1 gI n1 d1, dec 1 gI n2 d2⟩
@[simp] theorem dC_enc (c : Cmp) : dC c.houses c.held.length (enc eI c.held) c.trades.length (enc eT c.trades) c.divs.length (enc eV c.divs) c.splits.length (enc eS c.splits) c.closed.length (enc eR c.closed) = c := by
  simp [dC]
@[simp] theorem dU_enc (t : Tru) : dU t.sold.length (enc eI t.sold) t.deliv.length (enc eI t.deliv) = t := by
  simp [dU]
theorem enc_append {α : Type} (f : α → List D) (a b : List α) : enc f (a ++ b) = enc f a ++ enc f b := by simp [enc]
@[simp] theorem enc_nil {α : Type} (f : α → List D) : enc f [] = [] := rfl
theorem enc_one {α : Type} (f : α → List D) (a : α) : enc f [a] = f a := by simp [enc]
theorem enc_len {α : Type} {sz : Nat} {f : α → List D} (hf : ∀ x, (f x).length = sz) : ∀ l : List α, (enc f l).length = l.length * sz
  | [] => by simp
  | x :: l => by
    show (f x ++ enc f l).length = _
    rw [List.length_append, enc_len hf l, hf, List.length_cons, Nat.add_mul]
    omega
@[simp] theorem len_I (l : List Int) : (enc eI l).length = l.length * 1 := enc_len (sz := 1) (f := eI) (fun _ => rfl) l
@[simp] theorem len_R (l : List Rng) : (enc eR l).length = l.length * 2 := enc_len (sz := 2) (f := eR) (fun _ => rfl) l
@[simp] theorem len_T (l : List Trd) : (enc eT l).length = l.length * 7 := enc_len (sz := 7) (f := eT) (fun _ => rfl) l
@[simp] theorem len_V (l : List Dvd) : (enc eV l).length = l.length * 3 := enc_len (sz := 3) (f := eV) (fun _ => rfl) l
@[simp] theorem len_S (l : List Spl) : (enc eS l).length = l.length * 3 := enc_len (sz := 3) (f := eS) (fun _ => rfl) l

/-- An element by a number. -/
def lat {α : Type} [Inhabited α] (l : List α) (i : Int) : α := l.getD i.toNat default
theorem enc_get {α : Type} {sz : Nat} {f : α → List D} (hf : ∀ x, (f x).length = sz) : ∀ (l : List α) (k j : Nat), j < sz → (enc f l)[k * sz + j]? = (l[k]?).bind fun x => (f x)[j]?
  | [], k, j, _ => by simp
  | x :: l, 0, j, hj => by
    show (f x ++ enc f l)[0 * sz + j]? = _
    rw [List.getElem?_append_left (by rw [hf]; omega)]
    simp
  | x :: l, k + 1, j, hj => by
    show (f x ++ enc f l)[(k + 1) * sz + j]? = _
    rw [List.getElem?_append_right (by rw [hf, Nat.add_mul]; omega), hf]
    have : (k + 1) * sz + j - sz = k * sz + j := by rw [Nat.add_mul]; omega
    rw [this, enc_get hf l k j hj]
    rfl
theorem elemAt_enc {α : Type} {sz : Nat} {f : α → List D} (hf : ∀ x, (f x).length = sz) : ∀ (l : List α) (k : Nat), k < l.length → elemAt (enc f l) sz k = (l[k]?).map f
  | [], k, h => by simp at h
  | x :: l, 0, _ => by
    have hl : ((enc f (x :: l)).drop (0 * sz)).take sz = f x := by
      show ((f x ++ enc f l).drop (0 * sz)).take sz = f x
      rw [Nat.zero_mul, List.drop_zero, ← hf x, List.take_left]
    unfold elemAt
    rw [if_pos (by rw [enc_len hf]; simp [Nat.add_mul]), hl]
    rfl
  | x :: l, k + 1, h => by
    have ih := elemAt_enc hf l k (by simpa using h)
    have hl : ((enc f (x :: l)).drop ((k + 1) * sz)).take sz = ((enc f l).drop (k * sz)).take sz := by
      show ((f x ++ enc f l).drop ((k + 1) * sz)).take sz = _
      have : (k + 1) * sz = (f x).length + k * sz := by rw [hf, Nat.add_mul]; omega
      rw [this, ← List.drop_drop, List.drop_left]
    unfold elemAt at ih ⊢
    rw [enc_len hf] at ih ⊢
    rw [if_pos (by rw [← Nat.succ_mul]; exact Nat.mul_le_mul_right _ h)]
    rw [if_pos (by rw [← Nat.succ_mul]; exact Nat.mul_le_mul_right _ (by simp at h; omega))] at ih
    rw [hl]
    exact ih
theorem lat_get {α : Type} [Inhabited α] {l : List α} {i : Int} (h : i.toNat < l.length) : l[i.toNat]? = some (lat l i) := by
  simp [lat, h]
theorem cI_enc {α : Type} [Inhabited α] {sz : Nat} {f : α → List D} (hf : ∀ x, (f x).length = sz) (l : List α) (i : Int) (j : Nat) (hj : j < sz) (g : α → Int) (hg : ∀ x, (f x)[j]? = some (.int .i64 (g x))) (hd : g default = 0) : cI (enc f l) sz i j = g (lat l i) := by
  unfold cI
  rw [enc_get hf l _ j hj]
  cases h : l[i.toNat]? with
  | none =>
    have : lat l i = default := by simp [lat, List.getD_eq_getElem?_getD, h]
    rw [this, hd]
    rfl
  | some x =>
    have : lat l i = x := by simp [lat, List.getD_eq_getElem?_getD, h]
    rw [this]
    simp only [Option.bind_some, hg]
@[simp] theorem cI_I (l : List Int) (i : Int) : cI (enc eI l) 1 i 0 = lat l i := cI_enc (sz := 1) (f := eI) (fun _ => rfl) l i 0 (by decide) (fun x => x) (fun _ => rfl) rfl
@[simp] theorem cI_R0 (l : List Rng) (i : Int) : cI (enc eR l) 2 i 0 = (lat l i).lo := cI_enc (sz := 2) (f := eR) (fun _ => rfl) l i 0 (by decide) (fun x => x.lo) (fun _ => rfl) rfl
@[simp] theorem cI_R1 (l : List Rng) (i : Int) : cI (enc eR l) 2 i 1 = (lat l i).hi := cI_enc (sz := 2) (f := eR) (fun _ => rfl) l i 1 (by decide) (fun x => x.hi) (fun _ => rfl) rfl
@[simp] theorem cI_T0 (l : List Trd) (i : Int) : cI (enc eT l) 7 i 0 = (lat l i).seller := cI_enc (sz := 7) (f := eT) (fun _ => rfl) l i 0 (by decide) (fun x => x.seller) (fun _ => rfl) rfl
@[simp] theorem cI_T1 (l : List Trd) (i : Int) : cI (enc eT l) 7 i 1 = (lat l i).buyer := cI_enc (sz := 7) (f := eT) (fun _ => rfl) l i 1 (by decide) (fun x => x.buyer) (fun _ => rfl) rfl
@[simp] theorem cI_T2 (l : List Trd) (i : Int) : cI (enc eT l) 7 i 2 = (lat l i).shares := cI_enc (sz := 7) (f := eT) (fun _ => rfl) l i 2 (by decide) (fun x => x.shares) (fun _ => rfl) rfl
@[simp] theorem cI_T3 (l : List Trd) (i : Int) : cI (enc eT l) 7 i 3 = (lat l i).sold.lo := cI_enc (sz := 7) (f := eT) (fun _ => rfl) l i 3 (by decide) (fun x => x.sold.lo) (fun _ => rfl) rfl
@[simp] theorem cI_T4 (l : List Trd) (i : Int) : cI (enc eT l) 7 i 4 = (lat l i).sold.hi := cI_enc (sz := 7) (f := eT) (fun _ => rfl) l i 4 (by decide) (fun x => x.sold.hi) (fun _ => rfl) rfl
@[simp] theorem cI_T5 (l : List Trd) (i : Int) : cI (enc eT l) 7 i 5 = (lat l i).deliv.lo := cI_enc (sz := 7) (f := eT) (fun _ => rfl) l i 5 (by decide) (fun x => x.deliv.lo) (fun _ => rfl) rfl
@[simp] theorem cI_T6 (l : List Trd) (i : Int) : cI (enc eT l) 7 i 6 = (lat l i).deliv.hi := cI_enc (sz := 7) (f := eT) (fun _ => rfl) l i 6 (by decide) (fun x => x.deliv.hi) (fun _ => rfl) rfl
@[simp] theorem cI_V0 (l : List Dvd) (i : Int) : cI (enc eV l) 3 i 0 = (lat l i).ex := cI_enc (sz := 3) (f := eV) (fun _ => rfl) l i 0 (by decide) (fun x => x.ex) (fun _ => rfl) rfl
@[simp] theorem cI_V1 (l : List Dvd) (i : Int) : cI (enc eV l) 3 i 1 = (lat l i).record := cI_enc (sz := 3) (f := eV) (fun _ => rfl) l i 1 (by decide) (fun x => x.record) (fun _ => rfl) rfl
@[simp] theorem cI_V2 (l : List Dvd) (i : Int) : cI (enc eV l) 3 i 2 = (lat l i).pence := cI_enc (sz := 3) (f := eV) (fun _ => rfl) l i 2 (by decide) (fun x => x.pence) (fun _ => rfl) rfl
@[simp] theorem cI_S0 (l : List Spl) (i : Int) : cI (enc eS l) 3 i 0 = (lat l i).day := cI_enc (sz := 3) (f := eS) (fun _ => rfl) l i 0 (by decide) (fun x => x.day) (fun _ => rfl) rfl
@[simp] theorem cI_S1 (l : List Spl) (i : Int) : cI (enc eS l) 3 i 1 = (lat l i).num := cI_enc (sz := 3) (f := eS) (fun _ => rfl) l i 1 (by decide) (fun x => x.num) (fun _ => rfl) rfl
@[simp] theorem cI_S2 (l : List Spl) (i : Int) : cI (enc eS l) 3 i 2 = (lat l i).den := cI_enc (sz := 3) (f := eS) (fun _ => rfl) l i 2 (by decide) (fun x => x.den) (fun _ => rfl) rfl
theorem okEl_enc {α : Type} [Inhabited α] {sz : Nat} {f : α → List D} (hf : ∀ x, (f x).length = sz) {ks : List Nat} {l : List α} {i : Int} (he : elDs ks (enc f l) sz i 0 = f (lat l i)) (h : i.toNat < l.length) : okEl ks (enc f l) sz i := by
  unfold okEl
  rw [elemAt_enc hf l _ h, lat_get h, he]
  rfl
theorem ok_I {l : List Int} {i : Int} (h : i.toNat < l.length) : okEl [0] (enc eI l) 1 i := okEl_enc (sz := 1) (f := eI) (fun _ => rfl) (by simp [elDs, elD, eI]) h
theorem ok_R {l : List Rng} {i : Int} (h : i.toNat < l.length) : okEl [0, 0] (enc eR l) 2 i := okEl_enc (sz := 2) (f := eR) (fun _ => rfl) (by simp [elDs, elD, eR]) h
theorem ok_T {l : List Trd} {i : Int} (h : i.toNat < l.length) : okEl [0, 0, 0, 0, 0, 0, 0] (enc eT l) 7 i := okEl_enc (sz := 7) (f := eT) (fun _ => rfl) (by simp [elDs, elD, eT]) h
theorem ok_V {l : List Dvd} {i : Int} (h : i.toNat < l.length) : okEl [0, 0, 0] (enc eV l) 3 i := okEl_enc (sz := 3) (f := eV) (fun _ => rfl) (by simp [elDs, elD, eV]) h
theorem ok_S {l : List Spl} {i : Int} (h : i.toNat < l.length) : okEl [0, 0, 0] (enc eS l) 3 i := okEl_enc (sz := 3) (f := eS) (fun _ => rfl) (by simp [elDs, elD, eS]) h
/-! The same with a bound on the number itself. -/
theorem lt_of_nat {i : Int} {n : Nat} (h0 : 0 ≤ i) (h : i < n) : i.toNat < n := by omega

@[simp] theorem dp_P (p : Prop) [d : Decidable p] : (dp p).P = p := rfl
theorem VLe.of_eq {x y : V} (h : x = y) : VLe x y := h ▸ .refl x
def inR (n lo hi : Int) : Bool := decide (lo ≤ n ∧ n ≤ hi)
def isDay (n : Int) : Bool := inR n 0 11
def Rng.days (r : Rng) : Bool := decide (0 ≤ r.lo ∧ r.lo ≤ r.hi ∧ r.hi ≤ 11)
def Rng.short (r : Rng) : Bool := decide (0 ≤ r.lo ∧ r.lo ≤ r.hi ∧ r.hi ≤ 11 ∧ r.hi - r.lo ≤ 2)
def Rng.has (r : Rng) (n : Int) : Bool := inR n r.lo r.hi
def okTr (hs : Int) (t : Trd) : Bool := decide (0 ≤ t.seller ∧ t.seller < hs ∧ 0 ≤ t.buyer ∧ t.buyer < hs ∧ t.seller ≠ t.buyer ∧ 1 ≤ t.shares ∧ t.shares ≤ 100) && t.sold.short && t.deliv.short
def okDv (d : Dvd) : Bool := decide (0 ≤ d.ex ∧ d.ex ≤ d.record ∧ d.record ≤ 11 ∧ 0 ≤ d.pence ∧ d.pence ≤ 50)

/-! Tables of what calls yield. -/
abbrev Ent := List V → Heap → Option (Prop × V × Option Heap)
def EntOk (P : Program) (f : FuncId) (e : Ent) : Prop := ∀ args h p v ho, e args h = some (p, v, ho) → p → ACalls P f args h fun v1 h1 => v1 = v ∧ h1 = heapO h ho
abbrev Spec := FuncId → List V → Heap → Option (Prop × V × Option Heap)
def spNil : Spec := fun _ _ _ => none
def spAdd (f : Nat) (e : Ent) (r : Spec) : Spec := fun g args h => bif Nat.beq g f then e args h else r g args h
def spOr (a b : Spec) : Spec := fun g args h => match a g args h with
  | some x => some x
  | none => b g args h
theorem spNil_ok (P : Program) : SpOk P spNil := fun _ _ _ _ _ _ h => by cases h
theorem spAdd_ok {P : Program} {f : Nat} {e : Ent} {r : Spec} (he : EntOk P f e) (hr : SpOk P r) : SpOk P (spAdd f e r) := by
  intro g args h p v h' hs hp
  unfold spAdd at hs
  cases hb : Nat.beq g f with
  | true => rw [hb] at hs; rw [Nat.eq_of_beq_eq_true hb]; exact he args h p v h' hs hp
  | false => rw [hb] at hs; exact hr g args h p v h' hs hp
theorem spOr_ok {P : Program} {a b : Spec} (ha : SpOk P a) (hb : SpOk P b) : SpOk P (spOr a b) := by
  intro g args h p v h' hs hp
  unfold spOr at hs
  cases hx : a g args h with
  | some x => rw [hx] at hs; cases hs; exact ha g args h p v h' hx hp
  | none => rw [hx] at hs; exact hb g args h p v h' hs hp
def shI : Nat → List Nat := fun n => List.replicate n 0
/-- Calls by a table; loads as they are; all elements are numbers. -/
def mkX (s : Spec) : Sx := { sp := s, md := fun _ => 0, sh := shI }
/-- A value that a function yields at every heap. -/
def Yields (P : Program) (f : FuncId) (args : List V) (v : V) : Prop := ∀ h, ACalls P f args h fun v1 h1 => v1 = v ∧ h1 = h
theorem Yields.of {P : Program} {f : FuncId} {args : List V} {v : V} (ha : args.all (bel2 0) = true) (hv : bel2 0 v = true) (hc : ACalls P f args [] fun v1 _ => VLe v1 v) : Yields P f args v := by
  intro h
  have h2 : ACalls P f args [] fun v1 h1 => bel2 ([] : Heap).length v1 = true ∧ (h1.take ([] : Heap).length).all (blkBel ([] : Heap).length) = true ∧ v1 = v :=
    hc.result fun v1 h1 hl => ⟨v, hl, hv, by simp, rfl⟩
  exact (ACalls.more (R := fun v1 _ => v1 = v) ha rfl h2 h).mono fun v1 h1 ⟨k, hk, hR, e⟩ => ⟨hR, by rw [e]; cases k with | nil => rfl | cons => simp at hk⟩
/-- What is known of a function. -/
def FunIs (P : Program) (f : FuncId) (G : Cfg) (c : CCode) (cr : List CRes) : Prop :=
  ∃ fn, P.funcs[f]? = some fn ∧ fn.body.bind (compC P G) = some c ∧ compRes P fn.results.toList = some cr ∧ (fn.name == "runtime.NumGoroutine") = false ∧ fn.ntmps = G.sz
theorem FunIs.calls {P : Program} {G : Cfg} {X : Sx} (hX : SpOk P X.sp) {f : FuncId} {c : CCode} {cr : List CRes} (hq : FunIs P f G c cr) {vs : List V} {h : Heap} {R : V → Heap → Prop} {T : Tr} (hl : Nat.ble vs.length G.sz = true)
    (ht : sx X c [] (doneK cr) (envOf vs) [] h = T) (hh : holds P G h.length (retQ cr R) R T) : ACalls P f vs h R := by
  obtain ⟨fn, h1, h2, h3, h4, h5⟩ := hq
  exact acalls_tree hX h1 h2 h3 h4 h5 (ble_le hl) ht hh
theorem FunIs.callsF {P : Program} {G : Cfg} {X : Sx} (hX : SpOk P X.sp) {f : FuncId} {c : CCode} {cr : List CRes} (hq : FunIs P f G c cr) {vs : List V} {h : Heap} {R : V → Heap → Prop} {T : Tr} (hl : Nat.ble vs.length G.sz = true)
    (ht : sx X c [] (doneF h.length cr) (envOf vs) [] h = T) (hh : holds P G h.length (retQ cr fun v h1 => R (finX h.length v h1).1 (finX h.length v h1).2) R T) : ACalls P f vs h R := by
  obtain ⟨fn, h1, h2, h3, h4, h5⟩ := hq
  exact acalls_treeF hX h1 h2 h3 h4 h5 (ble_le hl) ht hh
theorem FunIs.yields {P : Program} {G : Cfg} {X : Sx} (hX : SpOk P X.sp) {f : FuncId} {c : CCode} {cr : List CRes} (hq : FunIs P f G c cr) {args : List V} {v : V} {T : Tr} (hl : Nat.ble args.length G.sz = true)
    (ha : args.all (bel2 0) = true) (hv : bel2 0 v = true) (ht : sx X c [] (doneF 0 cr) (envOf args) [] [] = T)
    (hh : holds P G 0 (retQ cr fun v1 h1 => VLe (finX 0 v1 h1).1 v) (fun v1 _ => VLe v1 v) T) : Yields P f args v :=
  .of ha hv (hq.callsF hX (h := []) hl ht hh)
theorem FunIs.yieldsK {P : Program} {G : Cfg} {X : Sx} (hX : SpOk P X.sp) {f : FuncId} {c : CCode} {cr : List CRes} (hq : FunIs P f G c cr) {args : List V} {v : V} {T : Tr} (hl : Nat.ble args.length G.sz = true)
    (ha : args.all (bel2 0) = true) (hv : bel2 0 v = true) (ht : sx X c [] (doneK cr) (envOf args) [] [] = T)
    (hh : holds P G 0 (retQ cr fun v1 _ => VLe v1 v) (fun v1 _ => VLe v1 v) T) : Yields P f args v :=
  .of ha hv (hq.calls hX (h := []) hl ht hh)
theorem dec_len {α : Type} (sz : Nat) (g : List D → α) : ∀ (n : Nat) (ds : List D), (dec sz g n ds).length = n
  | 0, _ => rfl
  | n + 1, ds => by simp [dec, dec_len sz g n]
/-- Some cells are those of a list. -/
def okL {α : Type} (f : α → List D) (sz : Nat) (g : List D → α) (n : Nat) (ds : List D) : Prop := enc f (dec sz g n ds) = ds ∧ n ≤ 140737488355328
theorem okL_vsl {α : Type} {f : α → List D} {sz : Nat} {g : List D → α} {n : Nat} {ds : List D} (h : okL f sz g n ds) : V.d (.sl false n ds) = vsl f (dec sz g n ds) := by
  unfold vsl dsl
  rw [h.1, dec_len]
@[simp] theorem okL_I (l : List Int) : okL eI 1 gI l.length (enc eI l) ↔ l.length ≤ 140737488355328 := by simp [okL]
@[simp] theorem okL_R (l : List Rng) : okL eR 2 gR l.length (enc eR l) ↔ l.length ≤ 140737488355328 := by simp [okL]
@[simp] theorem okL_T (l : List Trd) : okL eT 7 gT l.length (enc eT l) ↔ l.length ≤ 140737488355328 := by simp [okL]
@[simp] theorem okL_V (l : List Dvd) : okL eV 3 gV l.length (enc eV l) ↔ l.length ≤ 140737488355328 := by simp [okL]
@[simp] theorem okL_S (l : List Spl) : okL eS 3 gS l.length (enc eS l) ↔ l.length ≤ 140737488355328 := by simp [okL]
/-- The company out of its own cells. -/
abbrev dCe (c : Cmp) : Cmp := dC c.houses c.held.length (enc eI c.held) c.trades.length (enc eT c.trades) c.divs.length (enc eV c.divs) c.splits.length (enc eS c.splits) c.closed.length (enc eR c.closed)
abbrev dUe (t : Tru) : Tru := dU t.sold.length (enc eI t.sold) t.deliv.length (enc eI t.deliv)
/-- Cells. -/
def Cds (c : Cmp) : List D := [.int .i64 c.houses, dsl eI c.held, dsl eT c.trades, dsl eV c.divs, dsl eS c.splits, dsl eR c.closed]
def Uds (t : Tru) : List D := [dsl eI t.sold, dsl eI t.deliv]
theorem FunIs.yieldsX {P : Program} {G : Cfg} {X : Sx} (hX : SpOk P X.sp) {f : FuncId} {c : CCode} {cr : List CRes} (hq : FunIs P f G c cr) {args : List V} {v : V} {T : Tr} (hl : Nat.ble args.length G.sz = true)
    (ha : args.all (bel2 0) = true) (hv : bel2 0 v = true) (ht : sx X c [] (doneK cr) (envOf args) [] [] = T)
    (hh : holds P G 0 (retQ cr fun v1 h1 => VLe (finX 0 v1 h1).1 v) (fun v1 h1 => VLe (finX 0 v1 h1).1 v) T) : Yields P f args v :=
  .of ha hv (ACalls.fin (hq.calls hX (h := []) (R := fun v1 h1 => VLe (finX 0 v1 h1).1 v) hl ht hh))
theorem FunIs.yieldsP {P : Program} {G : Cfg} {X : Sx} (hX : SpOk P X.sp) {f : FuncId} {c : CCode} {cr : List CRes} (hq : FunIs P f G c cr) {args : List V} {v : V} {T : Tr} (hl : Nat.ble args.length G.sz = true)
    (ha : args.all (bel2 0) = true) (hv : bel2 0 v = true) (ht : sx X c [] (doneP cr) (envOf args) [] [] = T)
    (hh : holds P G 0 (retQ cr fun v1 _ => VLe v1 v) (fun v1 _ => VLe v1 v) T) : Yields P f args v := by
  obtain ⟨fn, h1, h2, h3, h4, h5⟩ := hq
  exact .of ha hv (acalls_treeP hX (h := []) h1 h2 h3 h4 h5 (ble_le hl) ht hh)
end Go.Proofs.Ytdnefcjbcieecaa
