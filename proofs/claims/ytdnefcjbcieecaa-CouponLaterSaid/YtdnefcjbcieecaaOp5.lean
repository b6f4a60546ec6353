/- The reference's errors. -/
import Derived.Test.YtdnefcjbcieecaaOp4
set_option linter.unusedVariables false
set_option linter.unusedSimpArgs false
namespace Go.Proofs.Ytdnefcjbcieecaa
open Go Go.Proofs
noncomputable section
theorem q69 : FunIs Try.prog 69 G69 c69 r69 := ⟨Try.f69, Try.func69, k69, e69, by kernel_rfl, by kernel_rfl⟩
theorem q34 : FunIs Try.prog 34 G34 c34 r34 := ⟨Try.f34, Try.func34, k34, e34, by kernel_rfl, by kernel_rfl⟩
theorem q56 : FunIs Try.prog 56 G56 c56 r56 := ⟨Try.f56, Try.func56, k56, e56, by kernel_rfl, by kernel_rfl⟩
theorem q20 : FunIs Try.prog 20 G20 c20 r20 := ⟨Try.f20, Try.func20, k20, e20, by kernel_rfl, by kernel_rfl⟩
def ent49 := entCI (fun c n => -9223372036854775808 ≤ n ∧ c.closed.length ≤ 140737488355328) (fun c n => vi (regR c.closed n))
theorem ent49_ok : EntOk Try.prog 49 ent49 := entCI_ok fun c n h => y49 c n h.1 h.2
def ent50 := entCI (fun _ _ => True) (fun c n => .tup [vi (regN c n), vi (regE c n)])
theorem ent50_ok : EntOk Try.prog 50 ent50 := entCI_ok fun c n _ => y50 c n
def tab9 : Spec := (spAdd 50 ent50 (spAdd 49 ent49 tab8))
theorem tab9_ok : SpOk Try.prog tab9 := (spAdd_ok ent50_ok (spAdd_ok ent49_ok tab8_ok))
def X9 : Sx := mkX tab9
theorem X9_ok : SpOk Try.prog X9.sp := tab9_ok
theorem all_false {α : Type} [Inhabited α] {l : List α} {p : α → Bool} {k : Nat} (hk : k < l.length) (h : p (lat l (k : Nat)) = false) : l.all p = false := by
  rw [List.all_eq_false]; exact ⟨lat l (k : Nat), by simp [lat, hk], by rw [h]; decide⟩
theorem all_true {α : Type} [Inhabited α] {l : List α} {p : α → Bool} (h : ∀ j : Nat, j < l.length → p (lat l j) = true) : l.all p = true := by
  rw [List.all_eq_true]
  intro x hx
  obtain ⟨j, hj, rfl⟩ := List.getElem_of_mem hx
  have := h j hj
  simpa [lat, hj] using this
theorem step_all {k : Nat} {A : Nat → Prop} (hA : ∀ j, j < k → A j) (h : A k) : ∀ j, j < k + 1 → A j := fun j hj => by
  rcases Nat.lt_or_ge j k with h1 | h1
  · exact hA j h1
  · have : j = k := by omega
    rw [this]; exact h
/-- The errors are 1, or what comes behind. -/
abbrev Q69 (n : Int) : CExit → Env → Heap → Prop := retQ r69 fun v _ => VLe v (vi n)
theorem w69 (c : Cmp) : sx X9 c69 [] (doneK r69) (envOf [Cv c]) [] [] =
    Tr.br (decide ((4 : Int) < Cmp.houses c)) (Tr.done (V.d (D.int IntKind.i64 (3 : Int))) []) (Tr.br (decide ((4 : Int) < Int.ofNat (List.length (Cmp.trades c)))) (Tr.done (V.d (D.int IntKind.i64 (3 : Int))) []) (Tr.br (decide ((3 : Int) < Int.ofNat (List.length (Cmp.divs c)))) (Tr.done (V.d (D.int IntKind.i64 (3 : Int))) []) (Tr.br (decide ((2 : Int) < Int.ofNat (List.length (Cmp.splits c)))) (Tr.done (V.d (D.int IntKind.i64 (3 : Int))) []) (Tr.br (decide ((2 : Int) < Int.ofNat (List.length (Cmp.closed c)))) (Tr.done (V.d (D.int IntKind.i64 (3 : Int))) []) (Tr.br (decide (Cmp.houses c < (1 : Int))) (Tr.done (V.d (D.int IntKind.i64 (1 : Int))) []) (Tr.br (Int.ofNat (List.length (Cmp.held c)) != Cmp.houses c) (Tr.done (V.d (D.int IntKind.i64 (1 : Int))) []) (Tr.lp (CCode.at c69 [(1 : Nat), (1 : Nat), (1 : Nat), (0 : Nat), (1 : Nat), (0 : Nat), (0 : Nat)]) [Fr.blk (0), Fr.seq (CCode.at c69 [(1 : Nat), (1 : Nat), (1 : Nat), (1 : Nat)])] [(1, V.rptr (Cds c) (0)), (3, V.d (D.int IntKind.i64 (0 : Int)))] []))))))) := by kernel_rfl

theorem b69a (c : Cmp) (k : Nat) : sx X9 (CCode.at c69 [1,1,1,0,1,0,0]) [] (bodyK r69) [(1, .rptr (Cds c) 0), (3, vi k)] [] [] =
    Tr.br (decide (Int.ofNat k < Cmp.houses c)) (Tr.need ((0 : Int) ≤ Int.ofNat k ∧ Int.ofNat k < Int.ofNat (List.length (Cmp.held c)) ∧ okEl [0] (enc eI (Cmp.held c)) (1 : Nat) (Int.ofNat k)) (Tr.need True (Tr.br (!inR (cI (enc eI (Cmp.held c)) (1 : Nat) (Int.ofNat k) (0 : Nat)) (0 : Int) (100 : Int)) (Tr.done (V.d (D.int IntKind.i64 (1 : Int))) []) (Tr.need ((-9223372036854775808 : Int) ≤ Int.ofNat k + (1 : Int) ∧ Int.ofNat k + (1 : Int) ≤ (9223372036854775807 : Int)) (Tr.leaf CExit.normal [(1, V.rptr (Cds c) (0)), (3, V.d (D.int IntKind.i64 (Int.ofNat k + (1 : Int))))] []))))) (Tr.leaf (CExit.exit (0)) [(1, V.rptr (Cds c) (0)), (3, V.d (D.int IntKind.i64 (Int.ofNat k))), (53, V.d (D.bool (decide (Int.ofNat k < Cmp.houses c))))] []) := by kernel_rfl

theorem x69a (c : Cmp) (v w : V) : sS X9 (doneK r69) [Fr.blk 0, Fr.seq (CCode.at c69 [1,1,1,1])] (.exit 0) [(1, .rptr (Cds c) 0), (3, v), (53, w)] [] [] =
    Tr.lp (CCode.at c69 [(1 : Nat), (1 : Nat), (1 : Nat), (1 : Nat), (0 : Nat), (1 : Nat), (0 : Nat), (0 : Nat)]) [Fr.blk (2), Fr.seq (CCode.at c69 [(1 : Nat), (1 : Nat), (1 : Nat), (1 : Nat), (1 : Nat)])] [(1, V.rptr (Cds c) (0)), (4, V.d (D.int IntKind.i64 (0 : Int)))] [] := by kernel_rfl

theorem b69b (c : Cmp) (k : Nat) : sx X9 (CCode.at c69 [1,1,1,1,0,1,0,0]) [] (bodyK r69) [(1, .rptr (Cds c) 0), (4, vi k)] [] [] =
    let x1_ := (List.length (Cmp.trades c))
    let x2_ := (decide (Int.ofNat k < Int.ofNat x1_))
    let x3_ := ((-9223372036854775808 : Int) ≤ Cmp.houses c - (1 : Int) ∧ Cmp.houses c - (1 : Int) ≤ (9223372036854775807 : Int))
    let x4_ := (cI (enc eT (Cmp.trades c)) (7 : Nat) (Int.ofNat k) (0 : Nat))
    let x5_ := (Cmp.houses c - (1 : Int))
    let x6_ := (cI (enc eT (Cmp.trades c)) (7 : Nat) (Int.ofNat k) (1))
    let x7_ := (cI (enc eT (Cmp.trades c)) (7 : Nat) (Int.ofNat k) (2))
    Tr.br x2_ (Tr.need ((0 : Int) ≤ Int.ofNat k ∧ Int.ofNat k < Int.ofNat x1_ ∧ okEl [0, 0, 0, 0, 0, 0, 0] (enc eT (Cmp.trades c)) (7 : Nat) (Int.ofNat k)) (Tr.need x3_ (Tr.need True (Tr.br (!inR x4_ (0 : Int) x5_) (Tr.done (V.d (D.int IntKind.i64 (1 : Int))) []) (Tr.need x3_ (Tr.need True (Tr.br (!inR x6_ (0 : Int) x5_) (Tr.done (V.d (D.int IntKind.i64 (1 : Int))) []) (Tr.br (cI (enc eT (Cmp.trades c)) (7 : Nat) (Int.ofNat k) (0 : Nat) == cI (enc eT (Cmp.trades c)) (7 : Nat) (Int.ofNat k) (1)) (Tr.done (V.d (D.int IntKind.i64 (1 : Int))) []) (Tr.need True (Tr.br (!inR x7_ (1 : Int) (100 : Int)) (Tr.done (V.d (D.int IntKind.i64 (1 : Int))) []) (Tr.need True (Tr.br (!Rng.days { lo := cI (enc eT (Cmp.trades c)) (7 : Nat) (Int.ofNat k) (3), hi := cI (enc eT (Cmp.trades c)) (7 : Nat) (Int.ofNat k) (4) }) (Tr.done (V.d (D.int IntKind.i64 (1 : Int))) []) (Tr.need True (Tr.br (!Rng.days { lo := cI (enc eT (Cmp.trades c)) (7 : Nat) (Int.ofNat k) (5), hi := cI (enc eT (Cmp.trades c)) (7 : Nat) (Int.ofNat k) (6) }) (Tr.done (V.d (D.int IntKind.i64 (1 : Int))) []) (Tr.need ((-9223372036854775808 : Int) ≤ cI (enc eT (Cmp.trades c)) (7 : Nat) (Int.ofNat k) (4) - cI (enc eT (Cmp.trades c)) (7 : Nat) (Int.ofNat k) (3) ∧ cI (enc eT (Cmp.trades c)) (7 : Nat) (Int.ofNat k) (4) - cI (enc eT (Cmp.trades c)) (7 : Nat) (Int.ofNat k) (3) ≤ (9223372036854775807 : Int)) (Tr.br (decide ((2 : Int) < cI (enc eT (Cmp.trades c)) (7 : Nat) (Int.ofNat k) (4) - cI (enc eT (Cmp.trades c)) (7 : Nat) (Int.ofNat k) (3))) (Tr.done (V.d (D.int IntKind.i64 (1 : Int))) []) (Tr.need ((-9223372036854775808 : Int) ≤ cI (enc eT (Cmp.trades c)) (7 : Nat) (Int.ofNat k) (6) - cI (enc eT (Cmp.trades c)) (7 : Nat) (Int.ofNat k) (5) ∧ cI (enc eT (Cmp.trades c)) (7 : Nat) (Int.ofNat k) (6) - cI (enc eT (Cmp.trades c)) (7 : Nat) (Int.ofNat k) (5) ≤ (9223372036854775807 : Int)) (Tr.br (decide ((2 : Int) < cI (enc eT (Cmp.trades c)) (7 : Nat) (Int.ofNat k) (6) - cI (enc eT (Cmp.trades c)) (7 : Nat) (Int.ofNat k) (5))) (Tr.done (V.d (D.int IntKind.i64 (1 : Int))) []) (Tr.need ((-9223372036854775808 : Int) ≤ Int.ofNat k + (1 : Int) ∧ Int.ofNat k + (1 : Int) ≤ (9223372036854775807 : Int)) (Tr.leaf CExit.normal [(1, V.rptr (Cds c) (0)), (4, V.d (D.int IntKind.i64 (Int.ofNat k + (1 : Int))))] [some (Blk.box [V.d (D.int IntKind.i64 x4_), V.d (D.int IntKind.i64 x6_), V.d (D.int IntKind.i64 x7_), V.d (D.int IntKind.i64 (cI (enc eT (Cmp.trades c)) (7 : Nat) (Int.ofNat k) (3))), V.d (D.int IntKind.i64 (cI (enc eT (Cmp.trades c)) (7 : Nat) (Int.ofNat k) (4))), V.d (D.int IntKind.i64 (cI (enc eT (Cmp.trades c)) (7 : Nat) (Int.ofNat k) (5))), V.d (D.int IntKind.i64 (cI (enc eT (Cmp.trades c)) (7 : Nat) (Int.ofNat k) (6)))])])))))))))))))))))))) (Tr.leaf (CExit.exit (2)) [(1, V.rptr (Cds c) (0)), (4, V.d (D.int IntKind.i64 (Int.ofNat k))), (67, V.d (D.bool x2_))] []) := by kernel_rfl

theorem x69b (c : Cmp) (v w : V) : sS X9 (doneK r69) [Fr.blk 2, Fr.seq (CCode.at c69 [1,1,1,1,1])] (.exit 2) [(1, .rptr (Cds c) 0), (4, v), (67, w)] [] [] =
    Tr.lp (CCode.at c69 [(1 : Nat), (1 : Nat), (1 : Nat), (1 : Nat), (1 : Nat), (0 : Nat), (1 : Nat), (0 : Nat), (0 : Nat)]) [Fr.blk (4), Fr.seq (CCode.at c69 [(1 : Nat), (1 : Nat), (1 : Nat), (1 : Nat), (1 : Nat), (1 : Nat)])] [(1, V.rptr (Cds c) (0)), (6, V.d (D.int IntKind.i64 (0 : Int)))] [] := by kernel_rfl

theorem b69c (c : Cmp) (k : Nat) : sx X9 (CCode.at c69 [1,1,1,1,1,0,1,0,0]) [] (bodyK r69) [(1, .rptr (Cds c) 0), (6, vi k)] [] [] =
    Tr.br (decide (Int.ofNat k < Int.ofNat (List.length (Cmp.divs c)))) (Tr.need ((0 : Int) ≤ Int.ofNat k ∧ Int.ofNat k < Int.ofNat (List.length (Cmp.divs c)) ∧ okEl [0, 0, 0] (enc eV (Cmp.divs c)) (3 : Nat) (Int.ofNat k)) (Tr.need True (Tr.br (!Rng.days { lo := cI (enc eV (Cmp.divs c)) (3 : Nat) (Int.ofNat k) (0 : Nat), hi := cI (enc eV (Cmp.divs c)) (3 : Nat) (Int.ofNat k) (1) }) (Tr.done (V.d (D.int IntKind.i64 (1 : Int))) []) (Tr.need True (Tr.br (!inR (cI (enc eV (Cmp.divs c)) (3 : Nat) (Int.ofNat k) (2)) (0 : Int) (50 : Int)) (Tr.done (V.d (D.int IntKind.i64 (1 : Int))) []) (Tr.need ((-9223372036854775808 : Int) ≤ Int.ofNat k + (1 : Int) ∧ Int.ofNat k + (1 : Int) ≤ (9223372036854775807 : Int)) (Tr.leaf CExit.normal [(1, V.rptr (Cds c) (0)), (6, V.d (D.int IntKind.i64 (Int.ofNat k + (1 : Int))))] [some (Blk.box [V.d (D.int IntKind.i64 (cI (enc eV (Cmp.divs c)) (3 : Nat) (Int.ofNat k) (0 : Nat))), V.d (D.int IntKind.i64 (cI (enc eV (Cmp.divs c)) (3 : Nat) (Int.ofNat k) (1))), V.d (D.int IntKind.i64 (cI (enc eV (Cmp.divs c)) (3 : Nat) (Int.ofNat k) (2)))])]))))))) (Tr.leaf (CExit.exit (4)) [(1, V.rptr (Cds c) (0)), (6, V.d (D.int IntKind.i64 (Int.ofNat k))), (140, V.d (D.bool (decide (Int.ofNat k < Int.ofNat (List.length (Cmp.divs c))))))] []) := by kernel_rfl

theorem x69c (c : Cmp) (v w : V) : sS X9 (doneK r69) [Fr.blk 4, Fr.seq (CCode.at c69 [1,1,1,1,1,1])] (.exit 4) [(1, .rptr (Cds c) 0), (6, v), (140, w)] [] [] =
    Tr.lp (CCode.at c69 [(1 : Nat), (1 : Nat), (1 : Nat), (1 : Nat), (1 : Nat), (1 : Nat), (1 : Nat), (0 : Nat), (1 : Nat), (0 : Nat), (0 : Nat)]) [Fr.blk (6), Fr.seq (CCode.at c69 [(1 : Nat), (1 : Nat), (1 : Nat), (1 : Nat), (1 : Nat), (1 : Nat), (1 : Nat), (1 : Nat)])] [(1, V.rptr (Cds c) (0)), (8, V.d (D.int IntKind.i64 (-1 : Int))), (9, V.d (D.int IntKind.i64 (0 : Int)))] [] := by kernel_rfl

theorem b69d (c : Cmp) (last : Int) (k : Nat) : sx X9 (CCode.at c69 [1,1,1,1,1,1,1,0,1,0,0]) [] (bodyK r69) [(1, .rptr (Cds c) 0), (8, vi last), (9, vi k)] [] [] =
    let x1_ := (List.length (Cmp.splits c))
    let x2_ := (decide (Int.ofNat k < Int.ofNat x1_))
    let x3_ := (cI (enc eS (Cmp.splits c)) (3 : Nat) (Int.ofNat k) (0 : Nat))
    let x4_ := (cI (enc eS (Cmp.splits c)) (3 : Nat) (Int.ofNat k) (1))
    let x5_ := (cI (enc eS (Cmp.splits c)) (3 : Nat) (Int.ofNat k) (2))
    Tr.br x2_ (Tr.need ((0 : Int) ≤ Int.ofNat k ∧ Int.ofNat k < Int.ofNat x1_ ∧ okEl [0, 0, 0] (enc eS (Cmp.splits c)) (3 : Nat) (Int.ofNat k)) (Tr.need ((-9223372036854775808 : Int) ≤ last + (1 : Int) ∧ last + (1 : Int) ≤ (9223372036854775807 : Int)) (Tr.need True (Tr.br (!inR x3_ (last + (1 : Int)) (11 : Int)) (Tr.done (V.d (D.int IntKind.i64 (1 : Int))) []) (Tr.need True (Tr.br (!inR x4_ (1 : Int) (6 : Int)) (Tr.done (V.d (D.int IntKind.i64 (1 : Int))) []) (Tr.need True (Tr.br (!inR x5_ (1 : Int) (4 : Int)) (Tr.done (V.d (D.int IntKind.i64 (1 : Int))) []) (Tr.need ((-9223372036854775808 : Int) ≤ Int.ofNat k + (1 : Int) ∧ Int.ofNat k + (1 : Int) ≤ (9223372036854775807 : Int)) (Tr.leaf CExit.normal [(1, V.rptr (Cds c) (0)), (8, V.d (D.int IntKind.i64 x3_)), (9, V.d (D.int IntKind.i64 (Int.ofNat k + (1 : Int))))] [some (Blk.box [V.d (D.int IntKind.i64 x3_), V.d (D.int IntKind.i64 x4_), V.d (D.int IntKind.i64 x5_)])])))))))))) (Tr.leaf (CExit.exit (6)) [(1, V.rptr (Cds c) (0)), (8, V.d (D.int IntKind.i64 last)), (9, V.d (D.int IntKind.i64 (Int.ofNat k))), (165, V.d (D.bool x2_))] []) := by kernel_rfl

theorem x69d (c : Cmp) (u v w : V) : sS X9 (doneK r69) [Fr.blk 6, Fr.seq (CCode.at c69 [1,1,1,1,1,1,1,1])] (.exit 6) [(1, .rptr (Cds c) 0), (8, u), (9, v), (165, w)] [] [] =
    Tr.lp (CCode.at c69 [(1 : Nat), (1 : Nat), (1 : Nat), (1 : Nat), (1 : Nat), (1 : Nat), (1 : Nat), (1 : Nat), (0 : Nat), (1 : Nat), (0 : Nat), (0 : Nat)]) [Fr.blk (8), Fr.seq (CCode.at c69 [(1 : Nat), (1 : Nat), (1 : Nat), (1 : Nat), (1 : Nat), (1 : Nat), (1 : Nat), (1 : Nat), (1 : Nat)])] [(1, V.rptr (Cds c) (0)), (11, V.d (D.int IntKind.i64 (0 : Int)))] [] := by kernel_rfl

theorem b69e (c : Cmp) (k : Nat) : sx X9 (CCode.at c69 [1,1,1,1,1,1,1,1,0,1,0,0]) [] (bodyK r69) [(1, .rptr (Cds c) 0), (11, vi k)] [] [] =
    Tr.br (decide (Int.ofNat k < Int.ofNat (List.length (Cmp.closed c)))) (Tr.need ((0 : Int) ≤ Int.ofNat k ∧ Int.ofNat k < Int.ofNat (List.length (Cmp.closed c)) ∧ okEl [0, 0] (enc eR (Cmp.closed c)) (2 : Nat) (Int.ofNat k)) (Tr.need True (Tr.br (!Rng.days { lo := cI (enc eR (Cmp.closed c)) (2 : Nat) (Int.ofNat k) (0 : Nat), hi := cI (enc eR (Cmp.closed c)) (2 : Nat) (Int.ofNat k) (1) }) (Tr.done (V.d (D.int IntKind.i64 (1 : Int))) []) (Tr.need ((-9223372036854775808 : Int) ≤ Int.ofNat k + (1 : Int) ∧ Int.ofNat k + (1 : Int) ≤ (9223372036854775807 : Int)) (Tr.leaf CExit.normal [(1, V.rptr (Cds c) (0)), (11, V.d (D.int IntKind.i64 (Int.ofNat k + (1 : Int))))] []))))) (Tr.leaf (CExit.exit (8)) [(1, V.rptr (Cds c) (0)), (11, V.d (D.int IntKind.i64 (Int.ofNat k))), (197, V.d (D.bool (decide (Int.ofNat k < Int.ofNat (List.length (Cmp.closed c))))))] []) := by kernel_rfl

theorem x69e (c : Cmp) (v w : V) : sS X9 (doneK r69) [Fr.blk 8, Fr.seq (CCode.at c69 [1,1,1,1,1,1,1,1,1])] (.exit 8) [(1, .rptr (Cds c) 0), (11, v), (197, w)] [] [] =
    Tr.done (V.d (D.int IntKind.i64 (0 : Int))) [] := by kernel_rfl

theorem l69e (c : Cmp) (n : Int) (hl : c.closed.length ≤ 7) (hf : c.closed.all (Rng.days) = false → n = 1)
    (hx : c.closed.all (Rng.days) = true → n = 0) :
    lpS Try.prog G69 0 (CCode.at c69 [1, 1, 1, 1, 1, 1, 1, 1, 0, 1, 0, 0]) [Fr.blk 8, Fr.seq (CCode.at c69 [1, 1, 1, 1, 1, 1, 1, 1, 1])] (Q69 n) [(1, .rptr (Cds c) 0), (11, vi 0)] [] := by
  refine lp_countK X9_ok rfl (c.closed.length) (fun k => ∀ j : Nat, j < k → (Rng.days) (lat c.closed j) = true) (fun k => [(1, .rptr (Cds c) 0), (11, vi k)]) (fun _ => []) rfl rfl (fun j hj => by omega) (fun k _ => ⟨rfl, rfl, rfl⟩) ?_
  intro k hk hA Q' hn he
  rw [b69e]
  simp only [holds, Int.ofNat_eq_natCast, cI_R0, cI_R1, true_and]
  refine ⟨fun h1 => ?_, fun h1 => ?_⟩
  · have hlt : k < c.closed.length := by have := of_decide_eq_true h1; omega
    have hf1 : (Rng.days) (lat c.closed (k : Nat)) = false → VLe (V.d (.int .i64 1)) (vi n) := fun h => .of_eq (congrArg vi (hf (all_false hlt h)).symm)
    have hn1 : (Rng.days) (lat c.closed (k : Nat)) = true → ∀ J, Q' .normal [(1, .rptr (Cds c) 0), (11, vi (k + 1 : Nat))] ([] ++ J) := fun h J => hn J hlt (step_all hA h)
    repeat' (first | (refine And.intro ?_ ?_) | (refine fun (_ : _ = _) => ?_))
    all_goals first
      | omega
      | exact ok_R (by simpa using hlt)
      | exact hf1 (by grind [Rng.days])
      | exact hn1 (by grind [Rng.days]) _
      | grind [Rng.days]
  · have hge : k = c.closed.length := by have := of_decide_eq_false h1; omega
    refine he _ _ _ (ret_tree X9_ok (doneK_ok rfl) (x69e _ _ _) ?_)
    simp only [holds]
    exact .of_eq (congrArg vi (hx (all_true fun j hj => hA j (by omega))).symm)
theorem l69d (c : Cmp) (n : Int) (hl : c.splits.length ≤ 7) (hf : okSs (-1) c.splits = false → n = 1) (hx : okSs (-1) c.splits = true → lpS Try.prog G69 0 (CCode.at c69 [1, 1, 1, 1, 1, 1, 1, 1, 0, 1, 0, 0]) [Fr.blk 8, Fr.seq (CCode.at c69 [1, 1, 1, 1, 1, 1, 1, 1, 1])] (Q69 n) [(1, .rptr (Cds c) 0), (11, vi 0)] []) : lpS Try.prog G69 0 (CCode.at c69 [1, 1, 1, 1, 1, 1, 1, 0, 1, 0, 0]) [Fr.blk 6, Fr.seq (CCode.at c69 [1, 1, 1, 1, 1, 1, 1, 1])] (Q69 n) [(1, .rptr (Cds c) 0), (8, vi (-1)), (9, vi 0)] [] := by
  refine lp_countK X9_ok rfl (c.splits.length) (fun k => ∀ j : Nat, j < k → okSp (lastAt c.splits j) (lat c.splits j) = true) (fun k => [(1, .rptr (Cds c) 0), (8, vi (lastAt c.splits k)), (9, vi k)]) (fun _ => []) (by rw [lastAt, if_pos rfl]; rfl) rfl (fun j hj => by omega) (fun k _ => ⟨rfl, rfl, rfl⟩) ?_
  intro k hk hA Q' hn he
  rw [b69d]
  simp only [holds, Int.ofNat_eq_natCast, cI_S0, cI_S1, cI_S2, true_and]
  have hb := lastAt_in c.splits k fun j hj => by rw [hA j hj]; rfl
  refine ⟨fun h1 => ?_, fun h1 => ?_⟩
  · have hlt : k < c.splits.length := by have := of_decide_eq_true h1; omega
    have hf1 : okSp (lastAt c.splits k) (lat c.splits (k : Nat)) = false → VLe (V.d (.int .i64 1)) (vi n) := fun h => .of_eq (congrArg vi (hf (by
      cases hs : okSs (-1) c.splits with
      | false => rfl
      | true =>
        have := (okSs_iff _ _).1 hs k hlt
        simp only [lastAt] at h
        rw [h] at this; cases this)).symm)
    have hn1 : okSp (lastAt c.splits k) (lat c.splits (k : Nat)) = true → ∀ J, Q' .normal [(1, .rptr (Cds c) 0), (8, vi (lat c.splits (k : Nat)).day), (9, vi (k + 1 : Nat))] ([] ++ J) := fun h J => by
      have := hn J hlt (step_all hA h)
      rw [lastAt_succ] at this
      exact this
    repeat' (first | (refine And.intro ?_ ?_) | (refine fun (_ : _ = _) => ?_))
    all_goals first
      | omega
      | exact ok_S (by simpa using hlt)
      | exact hf1 (by grind [okSp, inR])
      | exact hn1 (by grind [okSp, inR]) _
      | grind [okSp, inR]
  · have hge : k = c.splits.length := by have := of_decide_eq_false h1; omega
    refine he _ _ _ (ret_tree X9_ok (doneK_ok rfl) (x69d _ _ _ _) ?_)
    simp only [holds]
    exact hx ((okSs_iff _ _).2 fun j hj => by have := hA j (by omega); simpa only [lastAt] using this)
theorem l69c (c : Cmp) (n : Int) (hl : c.divs.length ≤ 7) (hf : c.divs.all (okDv) = false → n = 1)
    (hx : c.divs.all (okDv) = true → lpS Try.prog G69 0 (CCode.at c69 [1, 1, 1, 1, 1, 1, 1, 0, 1, 0, 0]) [Fr.blk 6, Fr.seq (CCode.at c69 [1, 1, 1, 1, 1, 1, 1, 1])] (Q69 n) [(1, .rptr (Cds c) 0), (8, vi (-1)), (9, vi 0)] []) :
    lpS Try.prog G69 0 (CCode.at c69 [1, 1, 1, 1, 1, 0, 1, 0, 0]) [Fr.blk 4, Fr.seq (CCode.at c69 [1, 1, 1, 1, 1, 1])] (Q69 n) [(1, .rptr (Cds c) 0), (6, vi 0)] [] := by
  refine lp_countK X9_ok rfl (c.divs.length) (fun k => ∀ j : Nat, j < k → (okDv) (lat c.divs j) = true) (fun k => [(1, .rptr (Cds c) 0), (6, vi k)]) (fun _ => []) rfl rfl (fun j hj => by omega) (fun k _ => ⟨rfl, rfl, rfl⟩) ?_
  intro k hk hA Q' hn he
  rw [b69c]
  simp only [holds, Int.ofNat_eq_natCast, cI_V0, cI_V1, cI_V2, true_and]
  refine ⟨fun h1 => ?_, fun h1 => ?_⟩
  · have hlt : k < c.divs.length := by have := of_decide_eq_true h1; omega
    have hf1 : (okDv) (lat c.divs (k : Nat)) = false → VLe (V.d (.int .i64 1)) (vi n) := fun h => .of_eq (congrArg vi (hf (all_false hlt h)).symm)
    have hn1 : (okDv) (lat c.divs (k : Nat)) = true → ∀ J, Q' .normal [(1, .rptr (Cds c) 0), (6, vi (k + 1 : Nat))] ([] ++ J) := fun h J => hn J hlt (step_all hA h)
    repeat' (first | (refine And.intro ?_ ?_) | (refine fun (_ : _ = _) => ?_))
    all_goals first
      | omega
      | exact ok_V (by simpa using hlt)
      | exact hf1 (by grind [okDv, Rng.days, inR])
      | exact hn1 (by grind [okDv, Rng.days, inR]) _
      | grind [okDv, Rng.days, inR]
  · have hge : k = c.divs.length := by have := of_decide_eq_false h1; omega
    refine he _ _ _ (ret_tree X9_ok (doneK_ok rfl) (x69c _ _ _) ?_)
    simp only [holds]
    exact hx (all_true fun j hj => hA j (by omega))
theorem l69b (c : Cmp) (n : Int) (hh : 1 ≤ c.houses) (hh2 : c.houses ≤ 4) (hl : c.trades.length ≤ 7) (hf : c.trades.all (okTr c.houses) = false → n = 1)
    (hx : c.trades.all (okTr c.houses) = true → lpS Try.prog G69 0 (CCode.at c69 [1, 1, 1, 1, 1, 0, 1, 0, 0]) [Fr.blk 4, Fr.seq (CCode.at c69 [1, 1, 1, 1, 1, 1])] (Q69 n) [(1, .rptr (Cds c) 0), (6, vi 0)] []) :
    lpS Try.prog G69 0 (CCode.at c69 [1, 1, 1, 1, 0, 1, 0, 0]) [Fr.blk 2, Fr.seq (CCode.at c69 [1, 1, 1, 1, 1])] (Q69 n) [(1, .rptr (Cds c) 0), (4, vi 0)] [] := by
  refine lp_countK X9_ok rfl (c.trades.length) (fun k => ∀ j : Nat, j < k → (okTr c.houses) (lat c.trades j) = true) (fun k => [(1, .rptr (Cds c) 0), (4, vi k)]) (fun _ => []) rfl rfl (fun j hj => by omega) (fun k _ => ⟨rfl, rfl, rfl⟩) ?_
  intro k hk hA Q' hn he
  rw [b69b]
  simp only [holds, Int.ofNat_eq_natCast, cI_T0, cI_T1, cI_T2, cI_T3, cI_T4, cI_T5, cI_T6, true_and]
  refine ⟨fun h1 => ?_, fun h1 => ?_⟩
  · have hlt : k < c.trades.length := by have := of_decide_eq_true h1; omega
    have hf1 : (okTr c.houses) (lat c.trades (k : Nat)) = false → VLe (V.d (.int .i64 1)) (vi n) := fun h => .of_eq (congrArg vi (hf (all_false hlt h)).symm)
    have hn1 : (okTr c.houses) (lat c.trades (k : Nat)) = true → ∀ J, Q' .normal [(1, .rptr (Cds c) 0), (4, vi (k + 1 : Nat))] ([] ++ J) := fun h J => hn J hlt (step_all hA h)
    repeat' (first | (refine And.intro ?_ ?_) | (refine fun (_ : _ = _) => ?_))
    all_goals first
      | omega
      | exact ok_T (by simpa using hlt)
      | exact hf1 (by grind [okTr, Rng.days, Rng.short, inR])
      | exact hn1 (by grind [okTr, Rng.days, Rng.short, inR]) _
      | grind [okTr, Rng.days, Rng.short, inR]
  · have hge : k = c.trades.length := by have := of_decide_eq_false h1; omega
    refine he _ _ _ (ret_tree X9_ok (doneK_ok rfl) (x69b _ _ _) ?_)
    simp only [holds]
    exact hx (all_true fun j hj => hA j (by omega))
theorem l69a (c : Cmp) (n : Int) (hh : (c.held.length : Int) = c.houses) (hl : c.held.length ≤ 7) (hf : c.held.all (Rng.has ⟨0, 100⟩) = false → n = 1)
    (hx : c.held.all (Rng.has ⟨0, 100⟩) = true → lpS Try.prog G69 0 (CCode.at c69 [1, 1, 1, 1, 0, 1, 0, 0]) [Fr.blk 2, Fr.seq (CCode.at c69 [1, 1, 1, 1, 1])] (Q69 n) [(1, .rptr (Cds c) 0), (4, vi 0)] []) :
    lpS Try.prog G69 0 (CCode.at c69 [1, 1, 1, 0, 1, 0, 0]) [Fr.blk 0, Fr.seq (CCode.at c69 [1, 1, 1, 1])] (Q69 n) [(1, .rptr (Cds c) 0), (3, vi 0)] [] := by
  refine lp_countK X9_ok rfl (c.held.length) (fun k => ∀ j : Nat, j < k → (Rng.has ⟨0, 100⟩) (lat c.held j) = true) (fun k => [(1, .rptr (Cds c) 0), (3, vi k)]) (fun _ => []) rfl rfl (fun j hj => by omega) (fun k _ => ⟨rfl, rfl, rfl⟩) ?_
  intro k hk hA Q' hn he
  rw [b69a]
  simp only [holds, Int.ofNat_eq_natCast, cI_I, true_and]
  refine ⟨fun h1 => ?_, fun h1 => ?_⟩
  · have hlt : k < c.held.length := by have := of_decide_eq_true h1; omega
    have hf1 : (Rng.has ⟨0, 100⟩) (lat c.held (k : Nat)) = false → VLe (V.d (.int .i64 1)) (vi n) := fun h => .of_eq (congrArg vi (hf (all_false hlt h)).symm)
    have hn1 : (Rng.has ⟨0, 100⟩) (lat c.held (k : Nat)) = true → ∀ J, Q' .normal [(1, .rptr (Cds c) 0), (3, vi (k + 1 : Nat))] ([] ++ J) := fun h J => hn J hlt (step_all hA h)
    repeat' (first | (refine And.intro ?_ ?_) | (refine fun (_ : _ = _) => ?_))
    all_goals first
      | omega
      | exact ok_I (by simpa using hlt)
      | exact hf1 (by grind [Rng.has, inR])
      | exact hn1 (by grind [Rng.has, inR]) _
      | grind [Rng.has, inR]
  · have hge : k = c.held.length := by have := of_decide_eq_false h1; omega
    refine he _ _ _ (ret_tree X9_ok (doneK_ok rfl) (x69a _ _ _) ?_)
    simp only [holds]
    exact hx (all_true fun j hj => hA j (by omega))
theorem y69 (c : Cmp) : Yields Try.prog 69 [Cv c] (vi (faultM c)) := by
  refine q69.yieldsK X9_ok rfl rfl rfl (w69 c) ?_
  simp only [holds, Int.ofNat_eq_natCast]
  by_cases hbig : 4 < c.houses ∨ 4 < c.trades.length ∨ 3 < c.divs.length ∨ 2 < c.splits.length ∨ 2 < c.closed.length
  · have h3 : faultM c = 3 := by unfold faultM; rw [if_pos hbig]
    rw [h3]
    repeat' (first | (refine And.intro ?_ ?_) | (refine fun (_ : _ = _) => ?_))
    all_goals first
      | exact .refl _
      | grind
  · have hm : faultM c = if 1 ≤ c.houses ∧ (c.held.length : Int) = c.houses ∧ c.held.all (Rng.has ⟨0, 100⟩) = true ∧ c.trades.all (okTr c.houses) = true ∧ c.divs.all okDv = true ∧ okSs (-1) c.splits = true ∧ c.closed.all Rng.days = true then 0 else 1 := by
      unfold faultM; rw [if_neg hbig]
    refine ⟨fun h => by grind, fun _ => ⟨fun h => by grind, fun _ => ⟨fun h => by grind, fun _ => ⟨fun h => by grind, fun _ => ⟨fun h => by grind, fun _ => ⟨fun h => ?_, fun h => ⟨fun h2 => ?_, fun h2 => ?_⟩⟩⟩⟩⟩⟩⟩
    · exact .of_eq (congrArg vi (by grind))
    · exact .of_eq (congrArg vi (by grind))
    · refine l69a c _ (by grind) (by grind) (fun h => by grind) (fun g1 => ?_)
      refine l69b c _ (by grind) (by grind) (by grind) (fun h => by grind) (fun g2 => ?_)
      refine l69c c _ (by grind) (fun h => by grind) (fun g3 => ?_)
      refine l69d c _ (by grind) (fun h => by grind) (fun g4 => ?_)
      exact l69e c _ (by grind) (fun h => by grind) (fun g5 => by grind)
def ent69 := entC (fun _ => True) (fun c => vi (faultM c))
theorem ent69_ok : EntOk Try.prog 69 ent69 := entC_ok fun c _ => y69 c
def tab10 : Spec := (spAdd 69 ent69 tab9)
theorem tab10_ok : SpOk Try.prog tab10 := (spAdd_ok ent69_ok tab9_ok)
def X10 : Sx := mkX tab10
theorem X10_ok : SpOk Try.prog X10.sp := tab10_ok
theorem w34 (c : Cmp) : sx X10 c34 [] (doneF 0 r34) (envOf [Cv c]) [] [] =
    Tr.need (Cv (dCe c) = Cv c ∧ True) (Tr.done (V.d (D.int IntKind.i64 (faultM (dCe c)))) []) := by kernel_rfl

theorem y34 (c : Cmp) : Yields Try.prog 34 [Cv c] (vi (faultM c)) := by
  refine q34.yields X10_ok rfl rfl rfl (w34 c) ?_
  simp only [holds]
  simp only [dCe, dC_enc]
  exact ⟨⟨trivial, trivial⟩, .refl _⟩
end
end Go.Proofs.Ytdnefcjbcieecaa
