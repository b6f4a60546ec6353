/- Companies: what is valid. -/
import Derived.Test.YtdnefcjbcieecaaOp2
set_option linter.unusedVariables false
set_option linter.unusedSimpArgs false
namespace Go.Proofs.Ytdnefcjbcieecaa
open Go Go.Proofs
noncomputable section
theorem q84 : FunIs Try.prog 84 G84 c84 r84 := ⟨Try.f84, Try.func84, k84, e84, by kernel_rfl, by kernel_rfl⟩
theorem q86 : FunIs Try.prog 86 G86 c86 r86 := ⟨Try.f86, Try.func86, k86, e86, by kernel_rfl, by kernel_rfl⟩
theorem q87 : FunIs Try.prog 87 G87 c87 r87 := ⟨Try.f87, Try.func87, k87, e87, by kernel_rfl, by kernel_rfl⟩
theorem q90 : FunIs Try.prog 90 G90 c90 r90 := ⟨Try.f90, Try.func90, k90, e90, by kernel_rfl, by kernel_rfl⟩
theorem q108 : FunIs Try.prog 108 G108 c108 r108 := ⟨Try.f108, Try.func108, k108, e108, by kernel_rfl, by kernel_rfl⟩
theorem q103 : FunIs Try.prog 103 G103 c103 r103 := ⟨Try.f103, Try.func103, k103, e103, by kernel_rfl, by kernel_rfl⟩
theorem q105 : FunIs Try.prog 105 G105 c105 r105 := ⟨Try.f105, Try.func105, k105, e105, by kernel_rfl, by kernel_rfl⟩
theorem q107 : FunIs Try.prog 107 G107 c107 r107 := ⟨Try.f107, Try.func107, k107, e107, by kernel_rfl, by kernel_rfl⟩
theorem q110 : FunIs Try.prog 110 G110 c110 r110 := ⟨Try.f110, Try.func110, k110, e110, by kernel_rfl, by kernel_rfl⟩
theorem q119 : FunIs Try.prog 119 G119 c119 r119 := ⟨Try.f119, Try.func119, k119, e119, by kernel_rfl, by kernel_rfl⟩
theorem q109 : FunIs Try.prog 109 G109 c109 r109 := ⟨Try.f109, Try.func109, k109, e109, by kernel_rfl, by kernel_rfl⟩
theorem q89 : FunIs Try.prog 89 G89 c89 r89 := ⟨Try.f89, Try.func89, k89, e89, by kernel_rfl, by kernel_rfl⟩
theorem q52 : FunIs Try.prog 52 G52 c52 r52 := ⟨Try.f52, Try.func52, k52, e52, by kernel_rfl, by kernel_rfl⟩
def ent100 : Ent := fun args h => match args with
  | [x, .d (.int .i64 n)] => match asC x with
    | some c => some (Cv c = x ∧ 1 ≤ c.houses ∧ c.houses ≤ 9223372036854775807, vb (inR n 0 (c.houses - 1)), none)
    | none => none
  | _ => none
theorem ent100_ok : EntOk Try.prog 100 ent100 := by
  intro args h p v h' he hp
  unfold ent100 at he
  split at he
  · split at he
    · cases he
      rw [← hp.1]
      exact y100 _ _ hp.2.1 hp.2.2 h
    · cases he
  · cases he
def ent101 := entR fun r => vb r.short
theorem ent101_ok : EntOk Try.prog 101 ent101 := entR_ok y101
/-- A dividend. -/
def ent88 : Ent := fun args h => match args with
  | [.agg [.d (.int .i64 a), .d (.int .i64 b), .d (.int .i64 c)]] => some (True, vb (okDv ⟨a, b, c⟩), none)
  | _ => none
theorem ent88_ok : EntOk Try.prog 88 ent88 := by
  intro args h p v h' he hp
  unfold ent88 at he
  split at he
  · cases he; exact y88 ⟨_, _, _⟩ h
  · cases he
def tab4 : Spec := (spAdd 88 ent88 (spAdd 101 ent101 (spAdd 100 ent100 tab3)))
theorem tab4_ok : SpOk Try.prog tab4 := (spAdd_ok ent88_ok (spAdd_ok ent101_ok (spAdd_ok ent100_ok tab3_ok)))
def X4 : Sx := mkX tab4
theorem X4_ok : SpOk Try.prog X4.sp := tab4_ok
theorem w83 (c : Cmp) (t : Trd) (hc : 1 ≤ c.houses) (hc2 : c.houses ≤ 9223372036854775807) : sx X4 c83 [] (doneK r83) (envOf [Cv c, Tv t]) [] [] =
    Tr.need (Cv (dCe c) = Cv c ∧ (1 : Int) ≤ Cmp.houses (dCe c) ∧ Cmp.houses (dCe c) ≤ (9223372036854775807 : Int)) (Tr.br (inR (Trd.seller t) (0 : Int) (Cmp.houses (dCe c) - (1 : Int))) (Tr.need (Cv (dCe c) = Cv c ∧ (1 : Int) ≤ Cmp.houses (dCe c) ∧ Cmp.houses (dCe c) ≤ (9223372036854775807 : Int)) (Tr.br (inR (Trd.buyer t) (0 : Int) (Cmp.houses (dCe c) - (1 : Int))) (Tr.br (Trd.seller t != Trd.buyer t) (Tr.need True (Tr.br (inR (Trd.shares t) (1 : Int) (100 : Int)) (Tr.need True (Tr.br (Rng.short { lo := Rng.lo (Trd.sold t), hi := Rng.hi (Trd.sold t) }) (Tr.need True (Tr.done (V.d (D.bool (Rng.short { lo := Rng.lo (Trd.deliv t), hi := Rng.hi (Trd.deliv t) }))) [])) (Tr.done (V.d (D.bool false)) []))) (Tr.done (V.d (D.bool false)) []))) (Tr.done (V.d (D.bool false)) [])) (Tr.done (V.d (D.bool false)) []))) (Tr.done (V.d (D.bool false)) [])) := by kernel_rfl

theorem y83 (c : Cmp) (t : Trd) (hc : 1 ≤ c.houses) (hc2 : c.houses ≤ 9223372036854775807) : Yields Try.prog 83 [Cv c, Tv t] (vb (okTr c.houses t)) := by
  refine q83.yieldsK X4_ok rfl rfl rfl (w83 c t hc hc2) ?_
  simp only [holds]
  simp only [dC_enc]
  refine ⟨⟨trivial, hc, hc2⟩, ?_⟩
  grind [VLe.of_eq, okTr, Rng.short, inR, vb, Cv]
def ent83 : Ent := fun args h => match args with
  | [x, .agg [.d (.int .i64 a), .d (.int .i64 b), .d (.int .i64 e), .d (.int .i64 s1), .d (.int .i64 s2), .d (.int .i64 d1), .d (.int .i64 d2)]] => match asC x with
    | some c => some (Cv c = x ∧ 1 ≤ c.houses ∧ c.houses ≤ 9223372036854775807, vb (okTr c.houses ⟨a, b, e, ⟨s1, s2⟩, ⟨d1, d2⟩⟩), none)
    | none => none
  | _ => none
theorem ent83_ok : EntOk Try.prog 83 ent83 := by
  intro args h p v h' he hp
  unfold ent83 at he
  split at he
  · split at he
    · cases he
      rw [← hp.1]
      exact y83 _ ⟨_, _, _, ⟨_, _⟩, ⟨_, _⟩⟩ hp.2.1 hp.2.2 h
    · cases he
  · cases he
def tab5 : Spec := (spAdd 83 ent83 tab4)
theorem tab5_ok : SpOk Try.prog tab5 := (spAdd_ok ent83_ok tab4_ok)
def X5 : Sx := mkX tab5
theorem X5_ok : SpOk Try.prog X5.sp := tab5_ok

theorem found_all {α : Type} [Inhabited α] {l : List α} {p : α → Bool} {H : Nat → Heap} {v : V} {h' : Heap} (hf : Found l.length (fun k => !(p (lat l (k : Nat)))) H (fun _ => vb true) (vb false) v h') : v = .d (.bool (!(l.all p))) := by
  obtain ⟨m, hm, hA, ⟨h1, rfl, rfl⟩ | ⟨h1, h2, rfl, rfl⟩⟩ := hf
  · have : l.all p = true := by
      rw [List.all_eq_true]
      intro x hx
      obtain ⟨j, hj, rfl⟩ := List.getElem_of_mem hx
      have := hA j (by omega)
      simpa [lat, hj] using this
    rw [this]; rfl
  · have : l.all p = false := by
      rw [List.all_eq_false]
      exact ⟨lat l (m : Nat), by simp [lat, h1], by simpa using h2⟩
    rw [this]; rfl

def h103 (r : Rng) : Heap := [some (.box [.fn (.func 85) [Rv r] []])]
theorem w103 (r : Rng) (x : Int) : sx X5 c103 [] (doneK r103) (envOf [vi x, .ptr 0 0 0]) [] (h103 r) =
    Tr.need True (Tr.done (V.d (D.bool !Rng.has { lo := Rng.lo r, hi := Rng.hi r } x)) [some (Blk.box [V.fn (Fn.func (85)) [V.agg [V.d (D.int IntKind.i64 (Rng.lo r)), V.d (D.int IntKind.i64 (Rng.hi r))]] []])]) := by kernel_rfl

theorem cl103 (r : Rng) (x : Int) : ACalls Try.prog 103 [vi x, .ptr 0 0 0] (h103 r) fun v h' => v = vb (!(r.has x)) ∧ h' = h103 r :=
  q103.calls X5_ok (h := h103 r) rfl (w103 r x) (by simp only [holds]; exact ⟨trivial, rfl, rfl⟩)
theorem w84 (l : List Int) (r : Rng) : sx (XB 7) c84 [] (doneK r84) (envOf [vsl eI l, .fn (.func 85) [Rv r] []]) [] [] =
    Tr.clB false (V.d (D.fn (Fn.func (102)))) [V.d (D.sl false (List.length l) (enc eI l)), V.fn (Fn.func (103)) [] [V.ptr (0) (0) (0)]] [some (Blk.box [V.fn (Fn.func (85)) [V.agg [V.d (D.int IntKind.i64 (Rng.lo r)), V.d (D.int IntKind.i64 (Rng.hi r))]] []])] fun b h' => Tr.done (V.d (D.bool !b)) h' := by kernel_rfl

theorem y84 (l : List Int) (r : Rng) (hl : l.length ≤ 140737488355328) : Yields Try.prog 84 [vsl eI l, .fn (.func 85) [Rv r] []] (vb (l.all r.has)) := by
  refine q84.yieldsK (XB_ok 7) rfl rfl rfl (w84 l r) ?_
  simp only [holds]
  refine callV_holds ?_ (i102 l 103 [] [.ptr 0 0 0] (fun _ => h103 r) (fun k => !(r.has (lat l (k : Nat)))) hl (fun _ => ⟨rfl, rfl⟩) rfl (fun k hk _ => cl103 r _))
  intro v h' hf
  exact ⟨_, found_all hf, fun e => (by cases e), .of_eq (by rw [Bool.not_not]; rfl)⟩

def h105 (c : Cmp) : Heap := [some (.box [.fn (.func 83) [Cv c] []])]
theorem w105 (c : Cmp) (t : Trd) : sx X5 c105 [] (doneK r105) (envOf [Tv t, .ptr 0 0 0]) [] (h105 c) =
    Tr.need (Cv (dCe c) = Cv c ∧ (1 : Int) ≤ Cmp.houses (dCe c) ∧ Cmp.houses (dCe c) ≤ (9223372036854775807 : Int)) (Tr.done (V.d (D.bool !okTr (Cmp.houses (dCe c)) { seller := Trd.seller t, buyer := Trd.buyer t, shares := Trd.shares t, sold := { lo := Rng.lo (Trd.sold t), hi := Rng.hi (Trd.sold t) }, deliv := { lo := Rng.lo (Trd.deliv t), hi := Rng.hi (Trd.deliv t) } })) [some (Blk.box [V.fn (Fn.func (83)) [Cv c] []])]) := by kernel_rfl

theorem cl105 (c : Cmp) (t : Trd) (hc : 1 ≤ c.houses) (hc2 : c.houses ≤ 9223372036854775807) : ACalls Try.prog 105 [Tv t, .ptr 0 0 0] (h105 c) fun v h' => v = vb (!(okTr c.houses t)) ∧ h' = h105 c :=
  q105.calls X5_ok (h := h105 c) rfl (w105 c t) (by simp only [holds, dC_enc]; exact ⟨⟨trivial, hc, hc2⟩, rfl, rfl⟩)
theorem w86 (l : List Trd) (c : Cmp) : sx (XB 7) c86 [] (doneK r86) (envOf [vsl eT l, .fn (.func 83) [Cv c] []]) [] [] =
    Tr.clB false (V.d (D.fn (Fn.func (104)))) [V.d (D.sl false (List.length l) (enc eT l)), V.fn (Fn.func (105)) [] [V.ptr (0) (0) (0)]] [some (Blk.box [V.fn (Fn.func (83)) [Cv c] []])] fun b h' => Tr.done (V.d (D.bool !b)) h' := by kernel_rfl

theorem y86 (l : List Trd) (c : Cmp) (hc : 1 ≤ c.houses) (hc2 : c.houses ≤ 9223372036854775807) (hl : l.length ≤ 140737488355328) : Yields Try.prog 86 [vsl eT l, .fn (.func 83) [Cv c] []] (vb (l.all (okTr c.houses))) := by
  refine q86.yieldsK (XB_ok 7) rfl rfl rfl (w86 l c) ?_
  simp only [holds]
  refine callV_holds ?_ (i104 l 105 [] [.ptr 0 0 0] (fun _ => h105 c) (fun k => !(okTr c.houses (lat l (k : Nat)))) hl (fun _ => ⟨rfl, rfl⟩) rfl (fun k hk _ => cl105 c _ hc hc2))
  intro v h' hf
  exact ⟨_, found_all hf, fun e => (by cases e), .of_eq (by rw [Bool.not_not]; rfl)⟩

def h107 : Heap := [some (.box [.d (.fn (.func 88))])]
theorem w107 (t : Dvd) : sx X5 c107 [] (doneK r107) (envOf [Dv t, .ptr 0 0 0]) [] h107 =
    Tr.need True (Tr.done (V.d (D.bool !okDv { ex := Dvd.ex t, record := Dvd.record t, pence := Dvd.pence t })) [some (Blk.box [V.d (D.fn (Fn.func (88)))])]) := by kernel_rfl

theorem cl107 (t : Dvd) : ACalls Try.prog 107 [Dv t, .ptr 0 0 0] h107 fun v h' => v = vb (!(okDv t)) ∧ h' = h107 :=
  q107.calls X5_ok (h := h107) rfl (w107 t) (by simp only [holds]; exact ⟨trivial, rfl, rfl⟩)
theorem w87 (l : List Dvd) : sx (XB 7) c87 [] (doneK r87) (envOf [vsl eV l, .d (.fn (.func 88))]) [] [] =
    Tr.clB false (V.d (D.fn (Fn.func (106)))) [V.d (D.sl false (List.length l) (enc eV l)), V.fn (Fn.func (107)) [] [V.ptr (0) (0) (0)]] [some (Blk.box [V.d (D.fn (Fn.func (88)))])] fun b h' => Tr.done (V.d (D.bool !b)) h' := by kernel_rfl

theorem y87 (l : List Dvd) (hl : l.length ≤ 140737488355328) : Yields Try.prog 87 [vsl eV l, .d (.fn (.func 88))] (vb (l.all okDv)) := by
  refine q87.yieldsK (XB_ok 7) rfl rfl rfl (w87 l) ?_
  simp only [holds]
  refine callV_holds ?_ (i106 l 107 [] [.ptr 0 0 0] (fun _ => h107) (fun k => !(okDv (lat l (k : Nat)))) hl (fun _ => ⟨rfl, rfl⟩) rfl (fun k hk _ => cl107 _))
  intro v h' hf
  exact ⟨_, found_all hf, fun e => (by cases e), .of_eq (by rw [Bool.not_not]; rfl)⟩

def h110 : Heap := [some (.box [.d (.fn (.func 91))])]
theorem w110 (t : Rng) : sx X5 c110 [] (doneK r110) (envOf [Rv t, .ptr 0 0 0]) [] h110 =
    Tr.need True (Tr.done (V.d (D.bool !Rng.days { lo := Rng.lo t, hi := Rng.hi t })) [some (Blk.box [V.d (D.fn (Fn.func (91)))])]) := by kernel_rfl

theorem cl110 (t : Rng) : ACalls Try.prog 110 [Rv t, .ptr 0 0 0] h110 fun v h' => v = vb (!(t.days)) ∧ h' = h110 :=
  q110.calls X5_ok (h := h110) rfl (w110 t) (by simp only [holds]; exact ⟨trivial, rfl, rfl⟩)
theorem w90 (l : List Rng) : sx (XB 7) c90 [] (doneK r90) (envOf [vsl eR l, .d (.fn (.func 91))]) [] [] =
    Tr.clB false (V.d (D.fn (Fn.func (98)))) [V.d (D.sl false (List.length l) (enc eR l)), V.fn (Fn.func (110)) [] [V.ptr (0) (0) (0)]] [some (Blk.box [V.d (D.fn (Fn.func (91)))])] fun b h' => Tr.done (V.d (D.bool !b)) h' := by kernel_rfl

theorem y90 (l : List Rng) (hl : l.length ≤ 140737488355328) : Yields Try.prog 90 [vsl eR l, .d (.fn (.func 91))] (vb (l.all Rng.days)) := by
  refine q90.yieldsK (XB_ok 7) rfl rfl rfl (w90 l) ?_
  simp only [holds]
  refine callV_holds ?_ (i98 l 110 [] [.ptr 0 0 0] (fun _ => h110) (fun k => !((lat l (k : Nat)).days)) hl (fun _ => ⟨rfl, rfl⟩) rfl (fun k hk _ => cl110 _))
  intro v h' hf
  exact ⟨_, found_all hf, fun e => (by cases e), .of_eq (by rw [Bool.not_not]; rfl)⟩

/-! Splits: the last one's day is remembered. -/
def okSp (last : Int) (s : Spl) : Bool := decide (last + 1 ≤ s.day ∧ s.day ≤ 11 ∧ 1 ≤ s.num ∧ s.num ≤ 6 ∧ 1 ≤ s.den ∧ s.den ≤ 4)
def okSs : Int → List Spl → Bool
  | _, [] => true
  | last, s :: l => okSp last s && okSs s.day l
def lastAt (l : List Spl) (k : Nat) : Int := if k = 0 then -1 else (lat l ((k : Int) - 1)).day
def h109 (last : Int) : Heap := [some (.box [vi last]), some (.box [.fn (.func 109) [] [.ptr 0 0 0]])]
theorem w109 (s : Spl) (last : Int) (rest : Heap) : sx X5 c109 [] (doneK r109) (envOf [Sv s, .ptr 0 0 0]) [] (some (.box [vi last]) :: rest) =
    Tr.need ((-9223372036854775808 : Int) ≤ last + (1 : Int) ∧ last + (1 : Int) ≤ (9223372036854775807 : Int)) (Tr.need True (Tr.br (inR (Spl.day s) (last + (1 : Int)) (11 : Int)) (Tr.need True (Tr.br (inR (Spl.num s) (1 : Int) (6 : Int)) (Tr.need True (Tr.done (V.d (D.bool (inR (Spl.den s) (1 : Int) (4 : Int)))) (some (Blk.box [V.d (D.int IntKind.i64 (Spl.day s))]) :: rest))) (Tr.done (V.d (D.bool false)) (some (Blk.box [V.d (D.int IntKind.i64 (Spl.day s))]) :: rest)))) (Tr.done (V.d (D.bool false)) (some (Blk.box [V.d (D.int IntKind.i64 (Spl.day s))]) :: rest)))) := by kernel_rfl

theorem cl109 (s : Spl) (last : Int) (h1 : -1 ≤ last) (h2 : last ≤ 11) (rest : Heap) : ACalls Try.prog 109 [Sv s, .ptr 0 0 0] (some (.box [vi last]) :: rest) fun v h' => v = vb (okSp last s) ∧ h' = some (.box [vi s.day]) :: rest :=
  q109.calls X5_ok (h := some (.box [vi last]) :: rest) rfl (w109 s last rest) (by simp only [holds]; grind [okSp, inR, vb, vi])
/-- The closure of the splits. -/
def ent109 : Ent := fun args h => match args, h with
  | [.agg [.d (.int .i64 a), .d (.int .i64 b), .d (.int .i64 c)], .ptr 0 0 0], some (.box [.d (.int .i64 last)]) :: rest => some (-1 ≤ last ∧ last ≤ 11, vb (okSp last ⟨a, b, c⟩), some (some (.box [vi a]) :: rest))
  | _, _ => none
theorem ent109_ok : EntOk Try.prog 109 ent109 := by
  intro args h p v h' he hp
  unfold ent109 at he
  split at he
  · cases he; exact cl109 ⟨_, _, _⟩ _ hp.1 hp.2 _
  · cases he
def tab109 : Spec := (spAdd 109 ent109 spNil)
theorem tab109_ok : SpOk Try.prog tab109 := (spAdd_ok ent109_ok (spNil_ok _))
def X109 : Sx := mkX tab109
theorem X109_ok : SpOk Try.prog X109.sp := tab109_ok
theorem w119 (s : Spl) (last : Int) : sx X109 c119 [] (doneK r119) (envOf [Sv s, .ptr 1 0 0]) [] (h109 last) =
    Tr.need ((-1 : Int) ≤ last ∧ last ≤ (11 : Int)) (Tr.done (V.d (D.bool !okSp last { day := Spl.day s, num := Spl.num s, den := Spl.den s })) [some (Blk.box [V.d (D.int IntKind.i64 (Spl.day s))]), some (Blk.box [V.fn (Fn.func (109)) [] [V.ptr (0) (0) (0)]])]) := by kernel_rfl

theorem cl119 (s : Spl) (last : Int) (h1 : -1 ≤ last) (h2 : last ≤ 11) : ACalls Try.prog 119 [Sv s, .ptr 1 0 0] (h109 last) fun v h' => v = vb (!(okSp last s)) ∧ h' = h109 s.day :=
  q119.calls X109_ok (h := h109 last) rfl (w119 s last) (by simp only [holds]; exact ⟨⟨h1, h2⟩, rfl, rfl⟩)
theorem w108 (l : List Spl) (last : Int) : sx (XB 7) c108 [] (doneK r108) (envOf [vsl eS l, .fn (.func 109) [] [.ptr 0 0 0]]) [] [some (.box [vi last])] =
    Tr.clB false (V.d (D.fn (Fn.func (118)))) [V.d (D.sl false (List.length l) (enc eS l)), V.fn (Fn.func (119)) [] [V.ptr (1) (0) (0)]] [some (Blk.box [V.d (D.int IntKind.i64 last)]), some (Blk.box [V.fn (Fn.func (109)) [] [V.ptr (0) (0) (0)]])] fun b h' => Tr.done (V.d (D.bool !b)) h' := by kernel_rfl

theorem lastAt_succ (l : List Spl) (k : Nat) : lastAt l (k + 1) = (lat l (k : Nat)).day := by
  unfold lastAt
  rw [if_neg (by omega)]
  congr 2
  omega
theorem okSs_iff (l : List Spl) (last : Int) : okSs last l = true ↔ ∀ k : Nat, k < l.length → okSp (if k = 0 then last else (lat l ((k : Int) - 1)).day) (lat l (k : Nat)) = true := by
  induction l generalizing last with
  | nil => simp [okSs]
  | cons s l ih =>
    simp only [okSs, Bool.and_eq_true, ih]
    constructor
    · rintro ⟨h1, h2⟩ k hk
      cases k with
      | zero => simpa [lat] using h1
      | succ k =>
        have := h2 k (by simpa using hk)
        rw [if_neg (by omega)]
        have e1 : lat (s :: l) ((k + 1 : Nat) : Int) = lat l (k : Nat) := by simp only [lat, Int.toNat_natCast, List.getD_cons_succ]
        rw [e1]
        have e2 : ((k + 1 : Nat) : Int) - 1 = (k : Nat) := by omega
        rw [e2]
        cases k with
        | zero => simpa [lat] using this
        | succ k =>
          rw [if_neg (by omega)] at this
          have e3 : lat (s :: l) ((k + 1 : Nat) : Int) = lat l (((k + 1 : Nat) : Int) - 1) := by
            have : (((k + 1 : Nat) : Int) - 1).toNat = k := by omega
            simp only [lat, this, Int.toNat_natCast, List.getD_cons_succ]
          rw [e3]; exact this
    · intro h
      refine ⟨by simpa [lat] using h 0 (by simp), fun k hk => ?_⟩
      have := h (k + 1) (by simpa using hk)
      rw [if_neg (by omega)] at this
      have e1 : lat (s :: l) ((k + 1 : Nat) : Int) = lat l (k : Nat) := by simp only [lat, Int.toNat_natCast, List.getD_cons_succ]
      rw [e1] at this
      have e2 : ((k + 1 : Nat) : Int) - 1 = (k : Nat) := by omega
      rw [e2] at this
      cases k with
      | zero => simpa [lat] using this
      | succ k =>
        rw [if_neg (by omega)]
        have e3 : lat (s :: l) ((k + 1 : Nat) : Int) = lat l (((k + 1 : Nat) : Int) - 1) := by
          have : (((k + 1 : Nat) : Int) - 1).toNat = k := by omega
          simp only [lat, this, Int.toNat_natCast, List.getD_cons_succ]
        rw [← e3]; exact this
theorem lastAt_in (l : List Spl) (k : Nat) (h : ∀ j, j < k → (!(okSp (lastAt l j) (lat l (j : Nat)))) = false) : -1 ≤ lastAt l k ∧ lastAt l k ≤ 11 := by
  induction k with
  | zero => exact ⟨by simp [lastAt], by simp [lastAt]⟩
  | succ k ih =>
    have h1 := ih fun j hj => h j (by omega)
    have h2 := h k (by omega)
    rw [lastAt_succ]
    simp only [Bool.not_eq_false', okSp, decide_eq_true_eq] at h2
    omega
theorem y108 (l : List Spl) (hl : l.length ≤ 140737488355328) : ACalls Try.prog 108 [vsl eS l, .fn (.func 109) [] [.ptr 0 0 0]] [some (.box [vi (-1)])] fun v h' => v = vb (okSs (-1) l) := by
  refine q108.calls (XB_ok 7) (h := [some (.box [vi (-1)])]) rfl (w108 l (-1)) ?_
  simp only [holds]
  refine callV_holds ?_ (i118 l 119 [] [.ptr 1 0 0] (fun k => h109 (lastAt l k)) (fun k => !(okSp (lastAt l k) (lat l (k : Nat)))) hl (fun _ => ⟨rfl, rfl⟩) rfl (fun k hk hA => ?_))
  · rintro v h' ⟨m, hm, hA, ⟨h1, rfl, rfl⟩ | ⟨h1, h2, rfl, rfl⟩⟩
    · refine ⟨_, rfl, fun e => (by cases e), ?_⟩
      have : okSs (-1) l = true := by
        rw [okSs_iff]
        intro k hk
        simpa [lastAt] using hA k (by omega)
      rw [this]; rfl
    · refine ⟨_, rfl, fun e => (by cases e), ?_⟩
      have : okSs (-1) l = false := by
        cases hs : okSs (-1) l with
        | false => rfl
        | true =>
          rw [okSs_iff] at hs
          have := hs m h1
          simp only [lastAt, Bool.not_eq_true'] at h2
          rw [h2] at this; cases this
      rw [this]; rfl
  · have hb := lastAt_in l k hA
    rw [lastAt_succ]
    exact cl119 _ _ hb.1 hb.2
theorem w89 (c : Cmp) : sx (XB 7) c89 [] (doneK r89) (envOf [Cv c]) [] [] =
    Tr.clB false (V.d (D.fn (Fn.func (108)))) [V.d (D.sl false (List.length (Cmp.splits c)) (enc eS (Cmp.splits c))), V.fn (Fn.func (109)) [] [V.ptr (0) (0) (0)]] [some (Blk.box [V.d (D.int IntKind.i64 (-1 : Int))])] fun b h' => Tr.done (V.d (D.bool b)) h' := by kernel_rfl

theorem y89 (c : Cmp) (hl : c.splits.length ≤ 140737488355328) : Yields Try.prog 89 [Cv c] (vb (okSs (-1) c.splits)) := by
  refine q89.yieldsK (XB_ok 7) rfl rfl rfl (w89 c) ?_
  simp only [holds]
  refine callV_holds ?_ (y108 c.splits hl)
  rintro v h' rfl
  exact ⟨_, rfl, fun e => (by cases e), .refl _⟩
def ent84 : Ent := fun args h => match args with
  | [.d (.sl false n cs), .fn (.func 85) [.agg [.d (.int .i64 a), .d (.int .i64 b)]] []] => some (okL eI 1 gI n cs, vb ((dec 1 gI n cs).all (Rng.has ⟨a, b⟩)), none)
  | _ => none
theorem ent84_ok : EntOk Try.prog 84 ent84 := by
  intro args h p v h' he hp
  unfold ent84 at he
  split at he
  · cases he; rw [okL_vsl hp]; exact y84 _ ⟨_, _⟩ (by rw [dec_len]; exact hp.2) h
  · cases he
def ent86 : Ent := fun args h => match args with
  | [.d (.sl false n cs), .fn (.func 83) [x] []] => match asC x with
    | some c => some (okL eT 7 gT n cs ∧ Cv c = x ∧ 1 ≤ c.houses ∧ c.houses ≤ 9223372036854775807, vb ((dec 7 gT n cs).all (okTr c.houses)), none)
    | none => none
  | _ => none
theorem ent86_ok : EntOk Try.prog 86 ent86 := by
  intro args h p v h' he hp
  unfold ent86 at he
  split at he
  · split at he
    · cases he; rw [okL_vsl hp.1, ← hp.2.1]; exact y86 _ _ hp.2.2.1 hp.2.2.2 (by rw [dec_len]; exact hp.1.2) h
    · cases he
  · cases he
def ent87 : Ent := fun args h => match args with
  | [.d (.sl false n cs), .d (.fn (.func 88))] => some (okL eV 3 gV n cs, vb ((dec 3 gV n cs).all okDv), none)
  | _ => none
theorem ent87_ok : EntOk Try.prog 87 ent87 := by
  intro args h p v h' he hp
  unfold ent87 at he
  split at he
  · cases he; rw [okL_vsl hp]; exact y87 _ (by rw [dec_len]; exact hp.2) h
  · cases he
def ent90 : Ent := fun args h => match args with
  | [.d (.sl false n cs), .d (.fn (.func 91))] => some (okL eR 2 gR n cs, vb ((dec 2 gR n cs).all Rng.days), none)
  | _ => none
theorem ent90_ok : EntOk Try.prog 90 ent90 := by
  intro args h p v h' he hp
  unfold ent90 at he
  split at he
  · cases he; rw [okL_vsl hp]; exact y90 _ (by rw [dec_len]; exact hp.2) h
  · cases he
def ent89 : Ent := fun args h => match args with
  | [x] => match asC x with
    | some c => some (Cv c = x ∧ c.splits.length ≤ 140737488355328, vb (okSs (-1) c.splits), none)
    | none => none
  | _ => none
theorem ent89_ok : EntOk Try.prog 89 ent89 := by
  intro args h p v h' he hp
  unfold ent89 at he
  split at he
  · split at he
    · cases he; rw [← hp.1]; exact y89 _ hp.2 h
    · cases he
  · cases he
def tab6 : Spec := (spAdd 89 ent89 (spAdd 90 ent90 (spAdd 87 ent87 (spAdd 86 ent86 (spAdd 84 ent84 tab5)))))
theorem tab6_ok : SpOk Try.prog tab6 := (spAdd_ok ent89_ok (spAdd_ok ent90_ok (spAdd_ok ent87_ok (spAdd_ok ent86_ok (spAdd_ok ent84_ok tab5_ok)))))
def X6 : Sx := mkX tab6
theorem X6_ok : SpOk Try.prog X6.sp := tab6_ok
/-- The error of a company. -/
def faultM (c : Cmp) : Int :=
  if 4 < c.houses ∨ 4 < c.trades.length ∨ 3 < c.divs.length ∨ 2 < c.splits.length ∨ 2 < c.closed.length then 3
  else if 1 ≤ c.houses ∧ (c.held.length : Int) = c.houses ∧ c.held.all (Rng.has ⟨0, 100⟩) = true ∧ c.trades.all (okTr c.houses) = true ∧ c.divs.all okDv = true ∧ okSs (-1) c.splits = true ∧ c.closed.all Rng.days = true then 0 else 1
theorem w52 (c : Cmp) : sx X6 c52 [] (doneK r52) (envOf [Cv c]) [] [] =
    let x1_ := (List.length (Cmp.trades c))
    let x2_ := (List.length (Cmp.divs c))
    let x3_ := (List.length (Cmp.closed c))
    let x4_ := (List.length (Cmp.held c))
    Tr.br (decide ((4 : Int) < Cmp.houses c)) (Tr.done (V.d (D.int IntKind.i64 (3 : Int))) []) (Tr.br (decide ((4 : Int) < Int.ofNat x1_)) (Tr.done (V.d (D.int IntKind.i64 (3 : Int))) []) (Tr.br (decide ((3 : Int) < Int.ofNat x2_)) (Tr.done (V.d (D.int IntKind.i64 (3 : Int))) []) (Tr.br (decide ((2 : Int) < Int.ofNat (List.length (Cmp.splits c)))) (Tr.done (V.d (D.int IntKind.i64 (3 : Int))) []) (Tr.br (decide ((2 : Int) < Int.ofNat x3_)) (Tr.done (V.d (D.int IntKind.i64 (3 : Int))) []) (Tr.br (decide (Cmp.houses c < (1 : Int))) (Tr.done (V.d (D.int IntKind.i64 (1 : Int))) []) (Tr.br (Int.ofNat x4_ != Cmp.houses c) (Tr.done (V.d (D.int IntKind.i64 (1 : Int))) []) (Tr.need (okL eI (1 : Nat) gI x4_ (enc eI (Cmp.held c))) (Tr.br (!List.all (dec (1 : Nat) gI x4_ (enc eI (Cmp.held c))) (Rng.has { lo := (0 : Int), hi := (100 : Int) })) (Tr.done (V.d (D.int IntKind.i64 (1 : Int))) []) (Tr.need (okL eT (7 : Nat) gT x1_ (enc eT (Cmp.trades c)) ∧ Cv (dCe c) = Cv c ∧ (1 : Int) ≤ Cmp.houses (dCe c) ∧ Cmp.houses (dCe c) ≤ (9223372036854775807 : Int)) (Tr.br (!List.all (dec (7 : Nat) gT x1_ (enc eT (Cmp.trades c))) (okTr (Cmp.houses (dCe c)))) (Tr.done (V.d (D.int IntKind.i64 (1 : Int))) []) (Tr.need (okL eV (3 : Nat) gV x2_ (enc eV (Cmp.divs c))) (Tr.br (!List.all (dec (3 : Nat) gV x2_ (enc eV (Cmp.divs c))) okDv) (Tr.done (V.d (D.int IntKind.i64 (1 : Int))) []) (Tr.need (Cv (dCe c) = Cv c ∧ List.length (Cmp.splits (dCe c)) ≤ (140737488355328 : Nat)) (Tr.br (!okSs (-1 : Int) (Cmp.splits (dCe c))) (Tr.done (V.d (D.int IntKind.i64 (1 : Int))) []) (Tr.need (okL eR (2 : Nat) gR x3_ (enc eR (Cmp.closed c))) (Tr.br (!List.all (dec (2 : Nat) gR x3_ (enc eR (Cmp.closed c))) Rng.days) (Tr.done (V.d (D.int IntKind.i64 (1 : Int))) []) (Tr.done (V.d (D.int IntKind.i64 (0 : Int))) []))))))))))))))))) := by kernel_rfl

theorem y52 (c : Cmp) : Yields Try.prog 52 [Cv c] (vi (faultM c)) := by
  refine q52.yieldsK X6_ok rfl rfl rfl (w52 c) ?_
  simp only [holds, dCe, dC_enc, okL_I, okL_T, okL_V, okL_R, dec_I, dec_T, dec_V, dec_R, true_and]
  repeat' (first | (refine And.intro ?_ ?_) | (refine fun (_ : _ = _) => ?_))
  all_goals grind [VLe.of_eq, faultM, vi, Cv]
end
end Go.Proofs.Ytdnefcjbcieecaa
