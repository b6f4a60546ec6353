/- A part of the proof. -/
import Derived.Test.YtdnefcjbcieecaaPart8
import Derived.Test.YtdnefcjbcieecaaProg
import Derived.KernelRfl
import Derived.ProofKit
import Derived.OpenShut
import Derived.ReadAgain
import Derived.ChangeBook
import Derived.ChangeOld
import Derived.ChangeArms
import Derived.Deep.Slices
set_option linter.unusedVariables false
set_option linter.unusedSimpArgs false
namespace Go.Proofs.Ytdnefcjbcieecaa
open Go Go.Proofs
noncomputable section
theorem q62 : FunIs Try.prog 62 G62 c62 r62 := ⟨Try.f62, Try.func62, k62, e62, by kernel_rfl, by kernel_rfl⟩
theorem q63 : FunIs Try.prog 63 G63 c63 r63 := ⟨Try.f63, Try.func63, k63, e63, by kernel_rfl, by kernel_rfl⟩
def E62 (c : Cmp) (t : Tru) (k : Nat) : Env := [(2, .rptr (Cds c) 0), (3, .rptr (Uds t) 0), (5, vi k)]
theorem w62 (c : Cmp) (t : Tru) : sx X13 c62 [] (doneK r62) (envOf [Cv c, Uv t]) [] [] =
    Tr.br (Int.ofNat (List.length (Tru.sold t)) != Int.ofNat (List.length (Cmp.trades c))) (Tr.done (V.d (D.bool false)) []) (Tr.br (Int.ofNat (List.length (Tru.deliv t)) != Int.ofNat (List.length (Cmp.trades c))) (Tr.done (V.d (D.bool false)) []) (Tr.lp (CCode.at c62 [(1 : Nat), (1 : Nat), (0 : Nat), (1 : Nat), (0 : Nat), (0 : Nat)]) [Fr.blk (0), Fr.seq (CCode.at c62 [(1 : Nat), (1 : Nat), (1 : Nat)])] [(2, V.rptr (Cds c) (0)), (3, V.rptr (Uds t) (0)), (5, V.d (D.int IntKind.i64 (0 : Int)))] [])) := by kernel_rfl
theorem b62 (c : Cmp) (t : Tru) (k : Nat) : sx X13 (CCode.at c62 [1,1,0,1,0,0]) [] (bodyK r62) (E62 c t k) [] [] =
    let x1_ := (List.length (Cmp.trades c))
    let x2_ := (decide (Int.ofNat k < Int.ofNat x1_))
    let x3_ := ((0 : Int) ≤ Int.ofNat k ∧ Int.ofNat k < Int.ofNat (List.length (Tru.sold t)) ∧ okEl [0] (enc eI (Tru.sold t)) (1 : Nat) (Int.ofNat k))
    let x4_ := (cI (enc eT (Cmp.trades c)) (7 : Nat) (Int.ofNat k) (3))
    let x5_ := (cI (enc eT (Cmp.trades c)) (7 : Nat) (Int.ofNat k) (4))
    let x6_ := ((0 : Int) ≤ Int.ofNat k ∧ Int.ofNat k < Int.ofNat (List.length (Tru.deliv t)) ∧ okEl [0] (enc eI (Tru.deliv t)) (1 : Nat) (Int.ofNat k))
    let x7_ := (cI (enc eT (Cmp.trades c)) (7 : Nat) (Int.ofNat k) (5))
    let x8_ := (cI (enc eT (Cmp.trades c)) (7 : Nat) (Int.ofNat k) (6))
    Tr.br x2_ (Tr.need ((0 : Int) ≤ Int.ofNat k ∧ Int.ofNat k < Int.ofNat x1_ ∧ okEl [0, 0, 0, 0, 0, 0, 0] (enc eT (Cmp.trades c)) (7 : Nat) (Int.ofNat k)) (Tr.need x3_ (Tr.need True (Tr.br (!inR (cI (enc eI (Tru.sold t)) (1 : Nat) (Int.ofNat k) (0 : Nat)) x4_ x5_) (Tr.done (V.d (D.bool false)) []) (Tr.need x6_ (Tr.need True (Tr.br (!inR (cI (enc eI (Tru.deliv t)) (1 : Nat) (Int.ofNat k) (0 : Nat)) x7_ x8_) (Tr.done (V.d (D.bool false)) []) (Tr.need x6_ (Tr.need x3_ (Tr.br (decide (cI (enc eI (Tru.deliv t)) (1 : Nat) (Int.ofNat k) (0 : Nat) < cI (enc eI (Tru.sold t)) (1 : Nat) (Int.ofNat k) (0 : Nat))) (Tr.done (V.d (D.bool false)) []) (Tr.need ((-9223372036854775808 : Int) ≤ Int.ofNat k + (1 : Int) ∧ Int.ofNat k + (1 : Int) ≤ (9223372036854775807 : Int)) (Tr.leaf CExit.normal [(2, V.rptr (Cds c) (0)), (3, V.rptr (Uds t) (0)), (5, V.d (D.int IntKind.i64 (Int.ofNat k + (1 : Int))))] [some (Blk.box [V.d (D.int IntKind.i64 (cI (enc eT (Cmp.trades c)) (7 : Nat) (Int.ofNat k) (0 : Nat))), V.d (D.int IntKind.i64 (cI (enc eT (Cmp.trades c)) (7 : Nat) (Int.ofNat k) (1))), V.d (D.int IntKind.i64 (cI (enc eT (Cmp.trades c)) (7 : Nat) (Int.ofNat k) (2))), V.d (D.int IntKind.i64 x4_), V.d (D.int IntKind.i64 x5_), V.d (D.int IntKind.i64 x7_), V.d (D.int IntKind.i64 x8_)])])))))))))))) (Tr.leaf (CExit.exit (0)) [(2, V.rptr (Cds c) (0)), (3, V.rptr (Uds t) (0)), (5, V.d (D.int IntKind.i64 (Int.ofNat k))), (27, V.d (D.bool x2_))] []) := by kernel_rfl
theorem x62 (u v x y : V) : sS X13 (doneK r62) [Fr.blk 0, Fr.seq (CCode.at c62 [1,1,1])] (.exit 0) [(2, u), (3, v), (5, x), (27, y)] [] [] =
    Tr.done (V.d (D.bool true)) [] := by kernel_rfl
theorem y62 (c : Cmp) (t : Tru) (hl : c.trades.length ≤ 1000000) : Yields Try.prog 62 [Cv c, Uv t] (vb (datedB c t)) := by
  refine q62.yieldsK X13_ok rfl rfl rfl (w62 c t) ?_
  simp only [holds, Int.ofNat_eq_natCast]
  have hno : datedB c t = false → VLe (V.d (.bool false)) (vb (datedB c t)) := fun h => .of_eq (congrArg vb h.symm)
  refine ⟨fun h => hno ?_, fun h1 => ⟨fun h => hno ?_, fun h2 => ?_⟩⟩
  · simp [datedB]; intro h2; simp [h2] at h
  · simp [datedB]; intro _ h2; simp [h2] at h
  have l1 : t.sold.length = c.trades.length := by simp at h1; omega
  have l2 : t.deliv.length = c.trades.length := by simp at h2; omega
  refine lp_countK X13_ok rfl c.trades.length (fun k => ∀ j, j < k → datK c t j = true) (E62 c t) (fun _ => []) rfl rfl (fun j hj => by omega) (fun k _ => ⟨rfl, rfl, rfl⟩) ?_
  intro k hk hA Q' hn he
  rw [b62]
  simp only [holds, Int.ofNat_eq_natCast, cI_I, cI_T3, cI_T4, cI_T5, cI_T6, true_and]
  refine ⟨fun h1 => ?_, fun h1 => ?_⟩
  · have hlt : k < c.trades.length := by have := of_decide_eq_true h1; omega
    have hf1 : datK c t k = false → VLe (V.d (.bool false)) (vb (datedB c t)) := fun h => hno (by
      simp only [datedB, decide_eq_false_iff_not]
      intro ⟨_, _, h4⟩
      rw [h4 k hlt] at h; cases h)
    have hn1 : datK c t k = true → ∀ J, _ := fun h J => hn J hlt (step_all hA h)
    have o1 : okEl [0, 0, 0, 0, 0, 0, 0] (enc eT c.trades) 7 (k : Nat) := ok_T (by simpa using hlt)
    have o2 : okEl [0] (enc eI t.deliv) 1 (k : Nat) := ok_I (by simp; omega)
    have o3 : okEl [0] (enc eI t.sold) 1 (k : Nat) := ok_I (by simp; omega)
    repeat' (first | (refine And.intro ?_ ?_) | (refine fun (_ : _ = _) => ?_))
    all_goals first
      | omega
      | assumption
      | exact hf1 (by simp_all [datK, Rng.has])
      | exact hn1 (by simp_all [datK, Rng.has]) _
  · have hge : k = c.trades.length := by have := of_decide_eq_false h1; omega
    refine he _ _ _ (ret_tree X13_ok (doneK_ok rfl) (x62 _ _ _ _) ?_)
    simp only [holds]
    refine .of_eq (congrArg vb ?_)
    simp only [datedB]
    exact (decide_eq_true ⟨l1, l2, fun j hj => hA j (by omega)⟩).symm
def innK (l : List Spl) (d n : Int) : Nat → Int
  | 0 => n
  | k + 1 => if (lat l (k : Nat)).day = d then (innK l d n k * (lat l (k : Nat)).num).tdiv (lat l (k : Nat)).den else innK l d n k
theorem tdiv_mul {a d s : Int} (hd : d ≠ 0) (h : d ∣ a) : (s * a).tdiv d = s * a.tdiv d := by
  obtain ⟨k, rfl⟩ := h
  have e : s * (d * k) = d * (s * k) := by rw [← Int.mul_assoc, ← Int.mul_assoc, Int.mul_comm s d]
  rw [e, Int.mul_tdiv_cancel_left _ hd, Int.mul_tdiv_cancel_left _ hd]
theorem split_dvd1 {x : Spl} (h : 1 ≤ x.den ∧ x.den ≤ 4) : x.den ∣ 720 * x.num ∧ x.den ∣ 720 := by
  have h2 : x.den ∣ 720 := by
    have : x.den = 1 ∨ x.den = 2 ∨ x.den = 3 ∨ x.den = 4 := by omega
    rcases this with e | e | e | e <;> rw [e] <;> decide
  exact ⟨Int.dvd_trans h2 ⟨x.num, rfl⟩, h2⟩
theorem split_dvd2 {x : Spl} {y : Spl} (h : 1 ≤ x.den ∧ x.den ≤ 4) (hy : 1 ≤ y.den ∧ y.den ≤ 4) : y.den ∣ (720 * x.num).tdiv x.den * y.num := by
  have hx : ∃ q, (720 * x.num).tdiv x.den = q * x.num ∧ y.den ∣ q := by
    have h1 : x.den = 1 ∨ x.den = 2 ∨ x.den = 3 ∨ x.den = 4 := by omega
    have h2 : y.den = 1 ∨ y.den = 2 ∨ y.den = 3 ∨ y.den = 4 := by omega
    have key : ∀ (q d : Int), d ≠ 0 → (720 : Int) = d * q → (720 * x.num).tdiv d = q * x.num := fun q d hd he => by
      rw [he, Int.mul_assoc, Int.mul_tdiv_cancel_left _ hd]
    rcases h1 with e | e | e | e
    · exact ⟨720, by rw [e]; exact key 720 1 (by decide) (by decide), by rcases h2 with e | e | e | e <;> rw [e] <;> decide⟩
    · exact ⟨360, by rw [e]; exact key 360 2 (by decide) (by decide), by rcases h2 with e | e | e | e <;> rw [e] <;> decide⟩
    · exact ⟨240, by rw [e]; exact key 240 3 (by decide) (by decide), by rcases h2 with e | e | e | e <;> rw [e] <;> decide⟩
    · exact ⟨180, by rw [e]; exact key 180 4 (by decide) (by decide), by rcases h2 with e | e | e | e <;> rw [e] <;> decide⟩
  obtain ⟨q, hq, hd⟩ := hx
  rw [hq]
  exact Int.dvd_trans hd ⟨x.num * y.num, by rw [Int.mul_assoc]⟩
theorem inn_fac {l : List Spl} (hv : okSs (-1) l = true) (hl : l.length ≤ 2) (s a d : Int) (ha : a < d) : innK l d (s * facM l a (d - 1)) l.length = s * facM l a d := by
  match l, hl with
  | [], _ => rfl
  | [x], _ =>
    have hx := split_ok _ _ hv x (by simp)
    simp only [List.length_cons, List.length_nil, innK, facM, List.foldl_cons, List.foldl_nil, facS, lat, Int.toNat_natCast, List.getD_cons_zero]
    have h1 := tdiv_mul (s := s) (show x.den ≠ 0 by omega) (split_dvd1 ⟨hx.2.2.1, hx.2.2.2⟩).1
    by_cases e1 : x.day = d
    · rw [if_pos e1, if_neg (by omega), if_pos (by omega), Int.mul_assoc, h1]
    · rw [if_neg e1]
      by_cases e2 : a < x.day ∧ x.day ≤ d - 1
      · rw [if_pos e2, if_pos (by omega)]
      · rw [if_neg e2, if_neg (by omega)]
  | [x, y], _ =>
    have hx := split_ok _ _ hv x (by simp)
    have hy := split_ok _ _ hv y (by simp)
    have hxy : x.day < y.day := by
      simp only [okSs, okSp, Bool.and_eq_true, decide_eq_true_eq] at hv
      omega
    have h1 := tdiv_mul (s := s) (show x.den ≠ 0 by omega) (split_dvd1 ⟨hx.2.2.1, hx.2.2.2⟩).1
    have h2 := tdiv_mul (s := s) (show y.den ≠ 0 by omega) (split_dvd1 ⟨hy.2.2.1, hy.2.2.2⟩).1
    have h3 := tdiv_mul (s := s) (show y.den ≠ 0 by omega) (split_dvd2 (x := x) (y := y) ⟨hx.2.2.1, hx.2.2.2⟩ ⟨hy.2.2.1, hy.2.2.2⟩)
    have l0 : lat [x, y] ((0 : Nat) : Int) = x := rfl
    have l1 : lat [x, y] ((1 : Nat) : Int) = y := rfl
    simp only [List.length_cons, List.length_nil, innK, facM, List.foldl_cons, List.foldl_nil, facS, l0, l1, Nat.zero_add]
    by_cases e1 : x.day = d
    · rw [if_neg (show ¬ y.day = d by omega), if_pos e1, if_neg (show ¬ (a < x.day ∧ x.day ≤ d - 1) by omega), if_neg (show ¬ (a < y.day ∧ y.day ≤ d - 1) by omega), if_pos (show a < x.day ∧ x.day ≤ d by omega), if_neg (show ¬ (a < y.day ∧ y.day ≤ d) by omega), Int.mul_assoc, h1]
    · rw [if_neg e1]
      by_cases e2 : y.day = d
      · rw [if_pos e2, if_neg (show ¬ (a < y.day ∧ y.day ≤ d - 1) by omega), if_pos (show a < y.day ∧ y.day ≤ d by omega)]
        by_cases e3 : a < x.day
        · rw [if_pos (show a < x.day ∧ x.day ≤ d - 1 by omega), if_pos (show a < x.day ∧ x.day ≤ d by omega), Int.mul_assoc, h3]
        · rw [if_neg (show ¬ (a < x.day ∧ x.day ≤ d - 1) by omega), if_neg (show ¬ (a < x.day ∧ x.day ≤ d) by omega), Int.mul_assoc, h2]
      · rw [if_neg e2]
        have ex : (a < x.day ∧ x.day ≤ d - 1) ↔ (a < x.day ∧ x.day ≤ d) := by omega
        have ey : (a < y.day ∧ y.day ≤ d - 1) ↔ (a < y.day ∧ y.day ≤ d) := by omega
        simp only [ex, ey]
theorem inn_in {l : List Spl} (hv : okSs (-1) l = true) (d : Int) {n m : Int} (h0 : 0 ≤ n) (h1 : n ≤ m) : ∀ k, k ≤ l.length → 0 ≤ innK l d n k ∧ innK l d n k ≤ m * 6 ^ k
  | 0, _ => by simp [innK]; omega
  | k + 1, hk => by
    have ih := inn_in hv d h0 h1 k (by omega)
    have hx := split_ok _ _ hv _ (lat_mem (show k < l.length by omega))
    have hf := facS_in (a := (lat l (k : Nat)).day - 1) (b := (lat l (k : Nat)).day) hx ih.1 ih.2
    have hp : (0 : Int) ≤ m * 6 ^ k := Int.le_trans ih.1 ih.2
    rw [Int.pow_succ, innK, ← Int.mul_assoc]
    split <;> omega
theorem facM_none {l : List Spl} (a b : Int) (h : b ≤ a) : facM l a b = 720 := by
  unfold facM
  induction l with
  | nil => rfl
  | cons x l ih => rw [List.foldl_cons, facS, if_neg (by omega)]; exact ih
def E63 (c : Cmp) (b n d : Int) : Env := [(3, vi b), (4, .rptr (Cds c) 0), (9, vi n), (10, vi d)]
def E63i (c : Cmp) (b n d : Int) (k : Nat) : Env := [(3, vi b), (4, .rptr (Cds c) 0), (9, vi n), (10, vi d), (11, vi k)]
theorem w63 (c : Cmp) (s a b : Int) : sx X13 c63 [] (doneK r63) (envOf [Cv c, vi s, vi a, vi b]) [] [] =
    Tr.need ((-9223372036854775808 : Int) ≤ (720 : Int) * s ∧ (720 : Int) * s ≤ (9223372036854775807 : Int)) (Tr.need ((-9223372036854775808 : Int) ≤ a + (1 : Int) ∧ a + (1 : Int) ≤ (9223372036854775807 : Int)) (Tr.lp (CCode.at c63 [(1 : Nat), (1 : Nat), (0 : Nat), (1 : Nat), (0 : Nat), (0 : Nat)]) [Fr.blk (0), Fr.seq (CCode.at c63 [(1 : Nat), (1 : Nat), (1 : Nat)])] [(3, V.d (D.int IntKind.i64 b)), (4, V.rptr (Cds c) (0)), (9, V.d (D.int IntKind.i64 ((720 : Int) * s))), (10, V.d (D.int IntKind.i64 (a + (1 : Int))))] [])) := by kernel_rfl
theorem b63 (c : Cmp) (b n d : Int) : sx X13 (CCode.at c63 [1,1,0,1,0,0]) [] leafK (E63 c b n d) [] [] =
    Tr.br (decide (d ≤ b)) (Tr.lp (CCode.at c63 [(1 : Nat), (1 : Nat), (0 : Nat), (1 : Nat), (0 : Nat), (0 : Nat), (1 : Nat), (0 : Nat), (0 : Nat), (1 : Nat), (0 : Nat), (0 : Nat)]) [Fr.blk (2), Fr.blk (1), Fr.seq (CCode.at c63 [(1 : Nat), (1 : Nat), (0 : Nat), (1 : Nat), (0 : Nat), (0 : Nat), (1 : Nat), (1 : Nat)])] [(3, V.d (D.int IntKind.i64 b)), (4, V.rptr (Cds c) (0)), (9, V.d (D.int IntKind.i64 n)), (10, V.d (D.int IntKind.i64 d)), (11, V.d (D.int IntKind.i64 (0 : Int)))] []) (Tr.leaf (CExit.exit (0)) [(3, V.d (D.int IntKind.i64 b)), (4, V.rptr (Cds c) (0)), (9, V.d (D.int IntKind.i64 n)), (10, V.d (D.int IntKind.i64 d)), (19, V.d (D.bool (decide (d ≤ b))))] []) := by kernel_rfl
theorem b63i (c : Cmp) (b n d : Int) (k : Nat) : sx X13 (CCode.at c63 [1,1,0,1,0,0,1,0,0,1,0,0]) [] leafK (E63i c b n d k) [] [] =
    let x1_ := (List.length (Cmp.splits c))
    let x2_ := (decide (Int.ofNat k < Int.ofNat x1_))
    let x3_ := (n * cI (enc eS (Cmp.splits c)) (3 : Nat) (Int.ofNat k) (1))
    let x4_ := (cI (enc eS (Cmp.splits c)) (3 : Nat) (Int.ofNat k) (2))
    let x5_ := ((-9223372036854775808 : Int) ≤ Int.ofNat k + (1 : Int) ∧ Int.ofNat k + (1 : Int) ≤ (9223372036854775807 : Int))
    let x6_ := [some (Blk.box [V.d (D.int IntKind.i64 (cI (enc eS (Cmp.splits c)) (3 : Nat) (Int.ofNat k) (0 : Nat))), V.d (D.int IntKind.i64 (cI (enc eS (Cmp.splits c)) (3 : Nat) (Int.ofNat k) (1))), V.d (D.int IntKind.i64 x4_)])]
    Tr.br x2_ (Tr.need ((0 : Int) ≤ Int.ofNat k ∧ Int.ofNat k < Int.ofNat x1_ ∧ okEl [0, 0, 0] (enc eS (Cmp.splits c)) (3 : Nat) (Int.ofNat k)) (Tr.br (cI (enc eS (Cmp.splits c)) (3 : Nat) (Int.ofNat k) (0 : Nat) == d) (Tr.need ((-9223372036854775808 : Int) ≤ n * cI (enc eS (Cmp.splits c)) (3 : Nat) (Int.ofNat k) (1) ∧ n * cI (enc eS (Cmp.splits c)) (3 : Nat) (Int.ofNat k) (1) ≤ (9223372036854775807 : Int)) (Tr.need (cI (enc eS (Cmp.splits c)) (3 : Nat) (Int.ofNat k) (2) ≠ (0 : Int)) (Tr.need ((-9223372036854775808 : Int) ≤ Int.tdiv x3_ x4_ ∧ Int.tdiv x3_ x4_ ≤ (9223372036854775807 : Int)) (Tr.need x5_ (Tr.leaf CExit.normal [(3, V.d (D.int IntKind.i64 b)), (4, V.rptr (Cds c) (0)), (9, V.d (D.int IntKind.i64 (Int.tdiv x3_ x4_))), (10, V.d (D.int IntKind.i64 d)), (11, V.d (D.int IntKind.i64 (Int.ofNat k + (1 : Int))))] x6_))))) (Tr.need x5_ (Tr.leaf CExit.normal [(3, V.d (D.int IntKind.i64 b)), (4, V.rptr (Cds c) (0)), (9, V.d (D.int IntKind.i64 n)), (10, V.d (D.int IntKind.i64 d)), (11, V.d (D.int IntKind.i64 (Int.ofNat k + (1 : Int))))] x6_)))) (Tr.leaf (CExit.exit (2)) [(3, V.d (D.int IntKind.i64 b)), (4, V.rptr (Cds c) (0)), (9, V.d (D.int IntKind.i64 n)), (10, V.d (D.int IntKind.i64 d)), (11, V.d (D.int IntKind.i64 (Int.ofNat k))), (26, V.d (D.bool x2_))] []) := by kernel_rfl
theorem x63i (c : Cmp) (b n d : Int) (u v : V) : sS X13 leafK [Fr.blk 2, Fr.blk 1, Fr.seq (CCode.at c63 [1,1,0,1,0,0,1,1])] (.exit 2) [(3, vi b), (4, .rptr (Cds c) 0), (9, vi n), (10, vi d), (11, u), (26, v)] [] [] =
    Tr.need ((-9223372036854775808 : Int) ≤ d + (1 : Int) ∧ d + (1 : Int) ≤ (9223372036854775807 : Int)) (Tr.leaf CExit.normal [(3, V.d (D.int IntKind.i64 b)), (4, V.rptr (Cds c) (0)), (9, V.d (D.int IntKind.i64 n)), (10, V.d (D.int IntKind.i64 (d + (1 : Int))))] []) := by kernel_rfl
theorem x63 (c : Cmp) (n : Int) (u v w : V) : sS X13 (doneK r63) [Fr.blk 0, Fr.seq (CCode.at c63 [1,1,1])] (.exit 0) [(3, u), (4, .rptr (Cds c) 0), (9, vi n), (10, v), (19, w)] [] [] =
    Tr.done (V.d (D.int IntKind.i64 n)) [] := by kernel_rfl
theorem y63 (c : Cmp) (s a b : Int) (hv : okSs (-1) c.splits = true) (hl : c.splits.length ≤ 2) (h0 : 0 ≤ s) (h1 : s ≤ 100) (ha : -1000 ≤ a) (ha2 : a ≤ 1000) (hb : b ≤ 1000) :
    Yields Try.prog 63 [Cv c, vi s, vi a, vi b] (vi (s * facM c.splits a b)) := by
  refine q63.yieldsK X13_ok rfl rfl rfl (w63 c s a b) ?_
  simp only [holds]
  refine ⟨⟨by omega, by omega⟩, ⟨by omega, by omega⟩, ?_⟩
  refine lp_count X13_ok (b - a).toNat (fun _ => True) (fun k => E63 c b (s * facM c.splits a (a + k)) (a + 1 + k)) (fun _ => []) ?_ rfl trivial (fun k _ => ⟨rfl, rfl, rfl⟩) ?_
  · have e : s * facM c.splits a (a + ((0 : Nat) : Int)) = 720 * s := by rw [facM_none _ _ (by omega), Int.mul_comm]
    rw [e]; simp [E63, vi]
  intro k hk _ Q' hn he hr
  rw [b63]
  simp only [holds, Int.ofNat_eq_natCast]
  have hfi := facM_in hv hl a (a + k)
  have hmi := mul_in h0 h1 hfi.1 hfi.2
  refine ⟨fun g1 => ?_, fun g1 => ?_⟩
  · have hlt : k < (b - a).toNat := by have := of_decide_eq_true g1; omega
    have hn1 := hn [] hlt trivial
    clear hn hr he
    refine lp_count X13_ok c.splits.length (fun _ => True) (fun j => E63i c b (innK c.splits (a + 1 + k) (s * facM c.splits a (a + k)) j) (a + 1 + k) j) (fun _ => []) rfl rfl trivial (fun k _ => ⟨rfl, rfl, rfl⟩) ?_
    intro j hj _ Q2 hn he hr
    rw [b63i]
    have hin := inn_in hv (a + 1 + k) hmi.1 hmi.2 j hj
    have hp : (2592000 : Int) * 6 ^ j ≤ 2592000 * 36 := by
      have : j = 0 ∨ j = 1 ∨ j = 2 := by omega
      rcases this with rfl | rfl | rfl <;> decide
    simp only [holds, Int.ofNat_eq_natCast, cI_S0, cI_S1, cI_S2]
    refine ⟨fun g2 => ?_, fun g2 => ?_⟩
    · have hlt2 : j < c.splits.length := by have := of_decide_eq_true g2; omega
      have hx := split_ok _ _ hv _ (lat_mem hlt2)
      have hf := facS_in (a := 0) (b := 0) hx hin.1 hin.2
      have hn2 := fun J => hn J hlt2 trivial
      refine ⟨⟨by omega, by omega, ok_S (by simpa using hlt2)⟩, fun g3 => ?_, fun g3 => ?_⟩
      · simp only [innK, if_pos (show (lat c.splits (j : Nat)).day = a + 1 + k by simpa using g3)] at hn2
        exact ⟨⟨by omega, by omega⟩, by omega, ⟨by omega, by omega⟩, ⟨by omega, by omega⟩, hn2 _⟩
      · simp only [innK, if_neg (show ¬ (lat c.splits (j : Nat)).day = a + 1 + k by simpa using g3)] at hn2
        exact ⟨⟨by omega, by omega⟩, hn2 _⟩
    · have hge : j = c.splits.length := by have := of_decide_eq_false g2; omega
      subst hge
      have e := inn_fac hv hl s a (a + 1 + k) (by omega)
      have e2 : a + 1 + (k : Int) - 1 = a + k := by omega
      rw [e2] at e
      rw [e]
      refine he _ _ _ (ret_tree (R := fun _ _ => True) X13_ok leafK_ok (x63i _ _ _ _ _ _) ?_)
      simp only [holds]
      refine ⟨⟨by omega, by omega⟩, ?_⟩
      have e3 : a + ((k + 1 : Nat) : Int) = a + 1 + k := by omega
      have e4 : a + 1 + ((k + 1 : Nat) : Int) = a + 1 + k + 1 := by omega
      simp only [e3, e4] at hn1
      exact hn1
  · have hge : k = (b - a).toNat := by have := of_decide_eq_false g1; omega
    refine he _ _ _ (ret_tree X13_ok (doneK_ok rfl) (x63 _ _ _ _ _) ?_)
    simp only [holds]
    refine .of_eq (congrArg vi ?_)
    by_cases hab : a ≤ b
    · have : a + (k : Int) = b := by omega
      rw [this]
    · have : k = 0 := by omega
      subst this
      rw [facM_none _ _ (by omega), facM_none _ _ (by omega)]
end
end Go.Proofs.Ytdnefcjbcieecaa
namespace Go.Proofs.Ytdnefcjbcieecaa
open Go Go.Proofs
noncomputable section
theorem q24 : FunIs Try.prog 24 G24 c24 r24 := ⟨Try.f24, Try.func24, k24, e24, by kernel_rfl, by kernel_rfl⟩
theorem q44 : FunIs Try.prog 44 G44 c44 r44 := ⟨Try.f44, Try.func44, k44, e44, by kernel_rfl, by kernel_rfl⟩
def entCIII (q : Cmp → Int → Int → Int → Prop) (m : Cmp → Int → Int → Int → V) : Ent := fun args h => match args with
  | [x, .d (.int .i64 s), .d (.int .i64 a), .d (.int .i64 b)] => match asC x with
    | some c => some (Cv c = x ∧ q c s a b, m c s a b, none)
    | none => none
  | _ => none
theorem entCIII_ok {P : Program} {f : Nat} {q : Cmp → Int → Int → Int → Prop} {m : Cmp → Int → Int → Int → V} (hy : ∀ c s a b, q c s a b → Yields P f [Cv c, vi s, vi a, vi b] (m c s a b)) : EntOk P f (entCIII q m) := by
  intro args h p v h' he hp
  unfold entCIII at he
  split at he
  · split at he
    · cases he; rw [← hp.1]; exact hy _ _ _ _ hp.2 h
    · cases he
  · cases he
def ent63 := entCIII (fun c s a b => okSs (-1) c.splits = true ∧ c.splits.length ≤ 2 ∧ 0 ≤ s ∧ s ≤ 100 ∧ -1000 ≤ a ∧ a ≤ 1000 ∧ b ≤ 1000) (fun c s a b => vi (s * facM c.splits a b))
theorem ent63_ok : EntOk Try.prog 63 ent63 := entCIII_ok fun c s a b h => y63 c s a b h.1 h.2.1 h.2.2.1 h.2.2.2.1 h.2.2.2.2.1 h.2.2.2.2.2.1 h.2.2.2.2.2.2
def ent62 := entCU (fun c _ => c.trades.length ≤ 1000000) (fun c t => vb (datedB c t))
theorem ent62_ok : EntOk Try.prog 62 ent62 := entCU_ok fun c t h => y62 c t h
def tab17 : Spec := (spAdd 63 ent63 (spAdd 62 ent62 tab16))
theorem tab17_ok : SpOk Try.prog tab17 := (spAdd_ok ent63_ok (spAdd_ok ent62_ok tab16_ok))
def X17 : Sx := mkX tab17
theorem X17_ok : SpOk Try.prog X17.sp := tab17_ok
theorem w24 (c : Cmp) (t : Tru) (d : Int) : sx X17 c24 [] (doneK r24) (envOf [Cv c, Uv t, vi d]) [] [] =
    Tr.lp (CCode.at c24 [(1 : Nat), (1 : Nat), (0 : Nat), (1 : Nat), (0 : Nat), (0 : Nat)]) [Fr.blk (0), Fr.seq (CCode.at c24 [(1 : Nat), (1 : Nat), (1 : Nat)])] [(2, V.d (D.int IntKind.i64 d)), (3, V.rptr (Cds c) (0)), (4, V.rptr (Uds t) (0)), (7, V.d D.nils), (8, V.d (D.int IntKind.i64 (0 : Int)))] [] := by kernel_rfl
def E24 (c : Cmp) (t : Tru) (d : Int) (l : List Int) (h : Nat) : Env := [(2, vi d), (3, .rptr (Cds c) 0), (4, .rptr (Uds t) 0), (7, .own 0 l.length l.length), (8, vi h)]
def E24i (c : Cmp) (t : Tru) (d : Int) (l : List Int) (h : Nat) (n : Int) (k : Nat) : Env := [(2, vi d), (3, .rptr (Cds c) 0), (4, .rptr (Uds t) 0), (7, .own 0 l.length l.length), (8, vi h), (9, vi n), (10, vi k)]
def H24 (l : List Int) : Heap := [some (.row 3 1 l.length (enc eI l))]
theorem b24 (c : Cmp) (t : Tru) (d : Int) (l : List Int) (h : Nat) : sx X17 (CCode.at c24 [1,1,0,1,0,0]) [] leafK (E24 c t d l h) [] (H24 l) =
    let x1_ := (decide (Int.ofNat h < Cmp.houses c))
    let x2_ := [some (Blk.row (3) (1) (List.length l) (enc eI l))]
    Tr.br x1_ (Tr.need ((0 : Int) ≤ Int.ofNat h ∧ Int.ofNat h < Int.ofNat (List.length (Cmp.held c)) ∧ okEl [0] (enc eI (Cmp.held c)) (1 : Nat) (Int.ofNat h)) (Tr.need (Cv (dCe c) = Cv c ∧ okSs (-1 : Int) (Cmp.splits (dCe c)) = true ∧ List.length (Cmp.splits (dCe c)) ≤ (2 : Nat) ∧ (0 : Int) ≤ cI (enc eI (Cmp.held c)) (1 : Nat) (Int.ofNat h) (0 : Nat) ∧ cI (enc eI (Cmp.held c)) (1 : Nat) (Int.ofNat h) (0 : Nat) ≤ (100 : Int) ∧ (-1000 : Int) ≤ (-1 : Int) ∧ (-1 : Int) ≤ (1000 : Int) ∧ d ≤ (1000 : Int)) (Tr.lp (CCode.at c24 [(1 : Nat), (1 : Nat), (0 : Nat), (1 : Nat), (0 : Nat), (0 : Nat), (1 : Nat), (0 : Nat), (0 : Nat), (1 : Nat), (0 : Nat), (1 : Nat), (0 : Nat), (0 : Nat)]) [Fr.blk (2), Fr.seq (CCode.at c24 [(1 : Nat), (1 : Nat), (0 : Nat), (1 : Nat), (0 : Nat), (0 : Nat), (1 : Nat), (0 : Nat), (0 : Nat), (1 : Nat), (1 : Nat)]), Fr.blk (1), Fr.seq (CCode.at c24 [(1 : Nat), (1 : Nat), (0 : Nat), (1 : Nat), (0 : Nat), (0 : Nat), (1 : Nat), (1 : Nat)])] [(2, V.d (D.int IntKind.i64 d)), (3, V.rptr (Cds c) (0)), (4, V.rptr (Uds t) (0)), (7, V.own (0) (List.length l) (List.length l)), (8, V.d (D.int IntKind.i64 (Int.ofNat h))), (9, V.d (D.int IntKind.i64 (cI (enc eI (Cmp.held c)) (1 : Nat) (Int.ofNat h) (0 : Nat) * facM (Cmp.splits (dCe c)) (-1 : Int) d))), (10, V.d (D.int IntKind.i64 (0 : Int)))] x2_))) (Tr.leaf (CExit.exit (0)) [(2, V.d (D.int IntKind.i64 d)), (3, V.rptr (Cds c) (0)), (4, V.rptr (Uds t) (0)), (7, V.own (0) (List.length l) (List.length l)), (8, V.d (D.int IntKind.i64 (Int.ofNat h))), (16, V.d (D.bool x1_))] x2_) := by kernel_rfl
theorem b24i (c : Cmp) (t : Tru) (d : Int) (l : List Int) (h : Nat) (n : Int) (k : Nat) : sx X17 (CCode.at c24 [1,1,0,1,0,0,1,0,0,1,0,1,0,0]) [] leafK (E24i c t d l h n k) [] (H24 l) =
    let x1_ := (List.length (Cmp.trades c))
    let x2_ := (decide (Int.ofNat k < Int.ofNat x1_))
    let x3_ := ((-9223372036854775808 : Int) ≤ Int.ofNat k + (1 : Int) ∧ Int.ofNat k + (1 : Int) ≤ (9223372036854775807 : Int))
    let x4_ := (Blk.row (3) (1) (List.length l) (enc eI l))
    let x5_ := [some x4_, some (Blk.box [V.d (D.int IntKind.i64 (cI (enc eT (Cmp.trades c)) (7 : Nat) (Int.ofNat k) (0 : Nat))), V.d (D.int IntKind.i64 (cI (enc eT (Cmp.trades c)) (7 : Nat) (Int.ofNat k) (1))), V.d (D.int IntKind.i64 (cI (enc eT (Cmp.trades c)) (7 : Nat) (Int.ofNat k) (2))), V.d (D.int IntKind.i64 (cI (enc eT (Cmp.trades c)) (7 : Nat) (Int.ofNat k) (3))), V.d (D.int IntKind.i64 (cI (enc eT (Cmp.trades c)) (7 : Nat) (Int.ofNat k) (4))), V.d (D.int IntKind.i64 (cI (enc eT (Cmp.trades c)) (7 : Nat) (Int.ofNat k) (5))), V.d (D.int IntKind.i64 (cI (enc eT (Cmp.trades c)) (7 : Nat) (Int.ofNat k) (6)))])]
    let x6_ := ((0 : Int) ≤ Int.ofNat k ∧ Int.ofNat k < Int.ofNat (List.length (Tru.sold t)) ∧ okEl [0] (enc eI (Tru.sold t)) (1 : Nat) (Int.ofNat k))
    let x7_ := (Cv (dCe c) = Cv c ∧ okSs (-1 : Int) (Cmp.splits (dCe c)) = true ∧ List.length (Cmp.splits (dCe c)) ≤ (2 : Nat) ∧ (0 : Int) ≤ cI (enc eT (Cmp.trades c)) (7 : Nat) (Int.ofNat k) (2) ∧ cI (enc eT (Cmp.trades c)) (7 : Nat) (Int.ofNat k) (2) ≤ (100 : Int) ∧ (-1000 : Int) ≤ cI (enc eI (Tru.sold t)) (1 : Nat) (Int.ofNat k) (0 : Nat) ∧ cI (enc eI (Tru.sold t)) (1 : Nat) (Int.ofNat k) (0 : Nat) ≤ (1000 : Int) ∧ d ≤ (1000 : Int))
    let x8_ := (cI (enc eI (Tru.sold t)) (1 : Nat) (Int.ofNat k) (0 : Nat))
    let x9_ := (cI (enc eT (Cmp.trades c)) (7 : Nat) (Int.ofNat k) (0 : Nat) == Int.ofNat h)
    Tr.br x2_ (Tr.need ((0 : Int) ≤ Int.ofNat k ∧ Int.ofNat k < Int.ofNat x1_ ∧ okEl [0, 0, 0, 0, 0, 0, 0] (enc eT (Cmp.trades c)) (7 : Nat) (Int.ofNat k)) (Tr.need ((0 : Int) ≤ Int.ofNat k ∧ Int.ofNat k < Int.ofNat (List.length (Tru.deliv t)) ∧ okEl [0] (enc eI (Tru.deliv t)) (1 : Nat) (Int.ofNat k)) (Tr.need (Cv (dCe c) = Cv c ∧ (-9223372036854775808 : Int) ≤ cI (enc eI (Tru.deliv t)) (1 : Nat) (Int.ofNat k) (0 : Nat) ∧ List.length (Cmp.closed (dCe c)) ≤ (140737488355328 : Nat)) (Tr.need True (Tr.br (!inR (regR (Cmp.closed (dCe c)) (cI (enc eI (Tru.deliv t)) (1 : Nat) (Int.ofNat k) (0 : Nat))) (0 : Int) d) (Tr.need x3_ (Tr.leaf CExit.normal [(2, V.d (D.int IntKind.i64 d)), (3, V.rptr (Cds c) (0)), (4, V.rptr (Uds t) (0)), (7, V.own (0) (List.length l) (List.length l)), (8, V.d (D.int IntKind.i64 (Int.ofNat h))), (9, V.d (D.int IntKind.i64 n)), (10, V.d (D.int IntKind.i64 (Int.ofNat k + (1 : Int))))] x5_)) (Tr.br (cI (enc eT (Cmp.trades c)) (7 : Nat) (Int.ofNat k) (1) == Int.ofNat h) (Tr.need x6_ (Tr.need x7_ (Tr.need ((-9223372036854775808 : Int) ≤ n + cI (enc eT (Cmp.trades c)) (7 : Nat) (Int.ofNat k) (2) * facM (Cmp.splits (dCe c)) x8_ d ∧ n + cI (enc eT (Cmp.trades c)) (7 : Nat) (Int.ofNat k) (2) * facM (Cmp.splits (dCe c)) x8_ d ≤ (9223372036854775807 : Int)) (Tr.br x9_ (Tr.need x6_ (Tr.need x7_ (Tr.need ((-9223372036854775808 : Int) ≤ n + cI (enc eT (Cmp.trades c)) (7 : Nat) (Int.ofNat k) (2) * facM (Cmp.splits (dCe c)) x8_ d - cI (enc eT (Cmp.trades c)) (7 : Nat) (Int.ofNat k) (2) * facM (Cmp.splits (dCe c)) x8_ d ∧ n + cI (enc eT (Cmp.trades c)) (7 : Nat) (Int.ofNat k) (2) * facM (Cmp.splits (dCe c)) x8_ d - cI (enc eT (Cmp.trades c)) (7 : Nat) (Int.ofNat k) (2) * facM (Cmp.splits (dCe c)) x8_ d ≤ (9223372036854775807 : Int)) (Tr.need x3_ (Tr.leaf CExit.normal [(2, V.d (D.int IntKind.i64 d)), (3, V.rptr (Cds c) (0)), (4, V.rptr (Uds t) (0)), (7, V.own (0) (List.length l) (List.length l)), (8, V.d (D.int IntKind.i64 (Int.ofNat h))), (9, V.d (D.int IntKind.i64 (n + cI (enc eT (Cmp.trades c)) (7 : Nat) (Int.ofNat k) (2) * facM (Cmp.splits (dCe c)) x8_ d - cI (enc eT (Cmp.trades c)) (7 : Nat) (Int.ofNat k) (2) * facM (Cmp.splits (dCe c)) x8_ d))), (10, V.d (D.int IntKind.i64 (Int.ofNat k + (1 : Int))))] x5_))))) (Tr.need x3_ (Tr.leaf CExit.normal [(2, V.d (D.int IntKind.i64 d)), (3, V.rptr (Cds c) (0)), (4, V.rptr (Uds t) (0)), (7, V.own (0) (List.length l) (List.length l)), (8, V.d (D.int IntKind.i64 (Int.ofNat h))), (9, V.d (D.int IntKind.i64 (n + cI (enc eT (Cmp.trades c)) (7 : Nat) (Int.ofNat k) (2) * facM (Cmp.splits (dCe c)) x8_ d))), (10, V.d (D.int IntKind.i64 (Int.ofNat k + (1 : Int))))] x5_)))))) (Tr.br x9_ (Tr.need x6_ (Tr.need x7_ (Tr.need ((-9223372036854775808 : Int) ≤ n - cI (enc eT (Cmp.trades c)) (7 : Nat) (Int.ofNat k) (2) * facM (Cmp.splits (dCe c)) x8_ d ∧ n - cI (enc eT (Cmp.trades c)) (7 : Nat) (Int.ofNat k) (2) * facM (Cmp.splits (dCe c)) x8_ d ≤ (9223372036854775807 : Int)) (Tr.need x3_ (Tr.leaf CExit.normal [(2, V.d (D.int IntKind.i64 d)), (3, V.rptr (Cds c) (0)), (4, V.rptr (Uds t) (0)), (7, V.own (0) (List.length l) (List.length l)), (8, V.d (D.int IntKind.i64 (Int.ofNat h))), (9, V.d (D.int IntKind.i64 (n - cI (enc eT (Cmp.trades c)) (7 : Nat) (Int.ofNat k) (2) * facM (Cmp.splits (dCe c)) x8_ d))), (10, V.d (D.int IntKind.i64 (Int.ofNat k + (1 : Int))))] x5_))))) (Tr.need x3_ (Tr.leaf CExit.normal [(2, V.d (D.int IntKind.i64 d)), (3, V.rptr (Cds c) (0)), (4, V.rptr (Uds t) (0)), (7, V.own (0) (List.length l) (List.length l)), (8, V.d (D.int IntKind.i64 (Int.ofNat h))), (9, V.d (D.int IntKind.i64 n)), (10, V.d (D.int IntKind.i64 (Int.ofNat k + (1 : Int))))] x5_))))))))) (Tr.leaf (CExit.exit (2)) [(2, V.d (D.int IntKind.i64 d)), (3, V.rptr (Cds c) (0)), (4, V.rptr (Uds t) (0)), (7, V.own (0) (List.length l) (List.length l)), (8, V.d (D.int IntKind.i64 (Int.ofNat h))), (9, V.d (D.int IntKind.i64 n)), (10, V.d (D.int IntKind.i64 (Int.ofNat k))), (31, V.d (D.bool x2_))] [some x4_]) := by kernel_rfl
theorem x24i (c : Cmp) (t : Tru) (d : Int) (l : List Int) (h : Nat) (n : Int) (u v : V) : sS X17 leafK [Fr.blk 2, Fr.seq (CCode.at c24 [1,1,0,1,0,0,1,0,0,1,1]), Fr.blk 1, Fr.seq (CCode.at c24 [1,1,0,1,0,0,1,1])] (.exit 2) [(2, vi d), (3, .rptr (Cds c) 0), (4, .rptr (Uds t) 0), (7, .own 0 l.length l.length), (8, vi h), (9, vi n), (10, u), (31, v)] [] (H24 l) =
    Tr.need (List.length l = List.length l ∧ (3 : Nat) = (3 : Nat) ∧ (1 : Nat) = (1 : Nat) ∧ List.length (enc eI l) = List.length l * (1 : Nat) ∧ List.length [D.int IntKind.i64 n] = (1 : Nat) * (1 : Nat) ∧ List.length l + (1 : Nat) ≤ (140737488355328 : Nat) ∧ (List.length l + (1 : Nat)) * (8 : Nat) ≤ (140737488355328 : Nat)) (Tr.need ((-9223372036854775808 : Int) ≤ Int.ofNat h + (1 : Int) ∧ Int.ofNat h + (1 : Int) ≤ (9223372036854775807 : Int)) (Tr.leaf CExit.normal [(2, V.d (D.int IntKind.i64 d)), (3, V.rptr (Cds c) (0)), (4, V.rptr (Uds t) (0)), (7, V.own (0) (Nat.add (List.length l) (1 : Nat)) (List.length l + (1 : Nat))), (8, V.d (D.int IntKind.i64 (Int.ofNat h + (1 : Int))))] [some (Blk.row (3) (1) (Nat.add (List.length l) (1 : Nat)) (enc eI l ++ [D.int IntKind.i64 n]))])) := by kernel_rfl
theorem x24 (l : List Int) (u v w x y : V) : sS X17 (doneK r24) [Fr.blk 0, Fr.seq (CCode.at c24 [1,1,1])] (.exit 0) [(2, u), (3, v), (4, w), (7, .own 0 l.length l.length), (8, x), (16, y)] [] (H24 l) =
    Tr.done (V.own (0) (List.length l) (List.length l)) [some (Blk.row (3) (1) (List.length l) (enc eI l))] := by kernel_rfl
theorem dat_in {c : Cmp} {t : Tru} (hf : faultM c = 0) (hd : datedB c t = true) {k : Nat} (hk : k < c.trades.length) : 0 ≤ lat t.sold (k : Nat) ∧ lat t.sold (k : Nat) ≤ 11 ∧ 0 ≤ lat t.deliv (k : Nat) ∧ lat t.deliv (k : Nat) ≤ 11 ∧ lat t.sold (k : Nat) ≤ lat t.deliv (k : Nat) := by
  have h1 := (of_decide_eq_true hd).2.2 k hk
  have h2 := trade_in hf hk
  simp only [datK, okTr, Rng.has, Rng.short, inR, Bool.and_eq_true, decide_eq_true_eq] at h1 h2
  omega
theorem isReg_ref {c : Cmp} {t : Tru} (hf : faultM c = 0) (hd : datedB c t = true) {k : Nat} (hk : k < c.trades.length) (d : Int) : inR (regR c.closed (lat t.deliv (k : Nat))) 0 d = true ↔ isReg c t d k := by
  have h1 := dat_in hf hd hk
  have h2 := regF_in c.closed (12 - lat t.deliv (k : Nat)).toNat (lat t.deliv (k : Nat))
  have e : regM c.closed (lat t.deliv (k : Nat)) = regR c.closed (lat t.deliv (k : Nat)) := by unfold regM regR; rw [if_pos h1.2.2.1]
  have h3 : regR c.closed (lat t.deliv (k : Nat)) = -1 ∨ 0 ≤ regR c.closed (lat t.deliv (k : Nat)) := by unfold regR; omega
  simp only [inR, decide_eq_true_eq]
  unfold isReg
  rw [e]
  constructor
  · intro h; omega
  · intro h; omega
theorem moveF_at (f : Nat → Int) {s b u : Int} (hs : 0 ≤ s) (hb : 0 ≤ b) (hsb : s ≠ b) (h : Nat) : moveF f s.toNat b.toNat u h = if b = h then f h + u else if s = h then f h - u else f h := by
  simp only [moveF, setF]
  by_cases e1 : b = h
  · have : h = b.toNat := by omega
    rw [if_pos this, if_pos e1, if_neg (by omega), ← this]
  · rw [if_neg (by omega), if_neg e1]
    by_cases e2 : s = h
    · have : h = s.toNat := by omega
      rw [if_pos this, if_pos e2, ← this]
    · rw [if_neg (by omega), if_neg e2]
theorem fin_own (e : Nat) (l : List Int) : VLe (finX 0 (.own 0 l.length l.length) [some (.row e 1 l.length (enc eI l))]).1 (vsl eI l) := by
  simp [finX, rowsIn, rowsIn1, rowIn, frzRows, frzB, blkDs, fzV, fz2, fz1, bel2, bel1, bel0]
  exact .slx
def refK (c : Cmp) (t : Tru) (d : Int) (h : Nat) : List Int := (List.range h).map (heldF c t d)
theorem refK_succ (c : Cmp) (t : Tru) (d : Int) (h : Nat) : refK c t d (h + 1) = refK c t d h ++ [heldF c t d h] := by simp [refK, List.range_succ]
@[simp] theorem refK_len (c : Cmp) (t : Tru) (d : Int) (h : Nat) : (refK c t d h).length = h := by simp [refK]
def refH (c : Cmp) (t : Tru) (d : Int) : List Int := refK c t d c.held.length
theorem heldA_at (c : Cmp) (n : Int) : ∀ (k h : Nat), h < k → heldA c n k h = lat c.held (h : Nat) * fac c (-1) n
  | 0, h, hh => by omega
  | k + 1, h, hh => by
    simp only [heldA, setF]
    by_cases e : h = k
    · rw [if_pos e, e]
    · rw [if_neg e]; exact heldA_at c n k h (by omega)
theorem l24 (c : Cmp) (t : Tru) (d : Int) (hf : faultM c = 0) (hd : datedB c t = true) (hd0 : d ≤ 1000) (R : V → Heap → Prop) (hR : R (.own 0 (refH c t d).length (refH c t d).length) (H24 (refH c t d))) :
    lpS Try.prog G24 0 (CCode.at c24 [1,1,0,1,0,0]) [Fr.blk 0, Fr.seq (CCode.at c24 [1,1,1])] (retQ r24 R) (E24 c t d [] 0) (H24 []) := by
  obtain ⟨⟨g1, g2, g3, g4, g5, g6, g7⟩, g8, g9, g10, g11, g12⟩ := fault_ok hf
  obtain ⟨l1, l2⟩ := dated_len hd
  refine lp_count X17_ok c.held.length (fun _ => True) (fun h => E24 c t d (refK c t d h) h) (fun h => H24 (refK c t d h)) rfl rfl trivial (fun k _ => ⟨rfl, rfl, rfl⟩) ?_
  intro h hh _ Q' hn he hr
  rw [b24]
  simp only [holds, Int.ofNat_eq_natCast, cI_I, dCe, dC_enc, true_and]
  refine ⟨fun e1 => ?_, fun e1 => ?_⟩
  · have hlt : h < c.held.length := by have := of_decide_eq_true e1; omega
    have hi := held_in hf hlt
    have hn1 := fun J => hn J hlt trivial
    refine ⟨⟨by omega, by omega, ok_I (by simpa using hlt)⟩, ⟨g11, g6, by omega, by omega, by omega, by omega, hd0⟩, ?_⟩
    clear hn he hr
    have e0 : lat c.held (h : Nat) * facM c.splits (-1) d = heldT c t d 0 h := (heldA_at c d _ h hlt).symm
    rw [e0]
    refine lp_count X17_ok c.trades.length (fun _ => True) (fun k => E24i c t d (refK c t d h) h (heldT c t d k h) k) (fun _ => H24 (refK c t d h)) rfl rfl trivial (fun k _ => ⟨rfl, rfl, rfl⟩) ?_
    intro k hk _ Q2 hn he hr
    rw [b24i]
    simp only [holds, Int.ofNat_eq_natCast, cI_I, cI_T0, cI_T1, cI_T2, dCe, dC_enc, true_and]
    refine ⟨fun e2 => ?_, fun e2 => ?_⟩
    · have hlt2 : k < c.trades.length := by have := of_decide_eq_true e2; omega
      have ht := trade_in hf hlt2
      simp only [okTr, Bool.and_eq_true, decide_eq_true_eq] at ht
      have hdi := dat_in hf hd hlt2
      have hu := unitsT_in hf t d hlt2
      have hb := heldT_in hf t d k hk h
      have o1 : okEl [0, 0, 0, 0, 0, 0, 0] (enc eT c.trades) 7 (k : Nat) := ok_T (by simpa using hlt2)
      have o2 : okEl [0] (enc eI t.deliv) 1 (k : Nat) := ok_I (by simp; omega)
      have o3 : okEl [0] (enc eI t.sold) 1 (k : Nat) := ok_I (by simp; omega)
      have hreg := isReg_ref hf hd hlt2 d
      have hn2 := fun J => hn J hlt2 trivial
      have eu : (lat c.trades (k : Nat)).shares * facM c.splits (lat t.sold (k : Nat)) d = unitsT c t d k := rfl
      have hmv := moveF_at (heldT c t d k) (s := (lat c.trades (k : Nat)).seller) (b := (lat c.trades (k : Nat)).buyer) (u := unitsT c t d k) (by omega) (by omega) (by omega) h
      have hk4 : (k : Int) ≤ 3 := by omega
      have hhr : (c.houses : Int) ≤ 4 := g2
      simp only [eu]
      refine ⟨⟨by omega, by omega, o1⟩, ⟨by omega, by omega, o2⟩, ⟨by omega, by omega⟩, fun e3 => ?_, fun e3 => ?_⟩
      · have hx : ¬ isReg c t d k := fun h => by rw [hreg.2 h] at e3; cases e3
        simp only [heldT, if_neg hx] at hn2
        exact ⟨⟨by omega, by omega⟩, hn2 _⟩
      · have hx : isReg c t d k := hreg.1 (by simpa using e3)
        simp only [heldT, if_pos hx, hmv] at hn2
        have nd : (-1000 : Int) ≤ lat t.sold (k : Nat) ∧ lat t.sold (k : Nat) ≤ 1000 := by omega
        refine ⟨fun e4 => ⟨⟨by omega, by omega, o3⟩, ⟨g11, g6, by omega, by omega, nd.1, nd.2, hd0⟩, ⟨by omega, by omega⟩, fun e5 => ?_, fun e5 => ?_⟩, fun e4 => ⟨fun e5 => ?_, fun e5 => ?_⟩⟩
        · have e4 := eq_of_beq e4
          have e5 := eq_of_beq e5
          exact (ht.1.1.2.2.2.2.1 (by omega)).elim
        · rw [if_pos (eq_of_beq e4)] at hn2
          exact ⟨⟨by omega, by omega⟩, hn2 _⟩
        · rw [if_neg (by simpa using e4), if_pos (eq_of_beq e5)] at hn2
          exact ⟨⟨by omega, by omega, o3⟩, ⟨g11, g6, by omega, by omega, nd.1, nd.2, hd0⟩, ⟨by omega, by omega⟩, ⟨by omega, by omega⟩, hn2 _⟩
        · rw [if_neg (by simpa using e4), if_neg (by simpa using e5)] at hn2
          exact ⟨⟨by omega, by omega⟩, hn2 _⟩
    · have hge : k = c.trades.length := by have := of_decide_eq_false e2; omega
      subst hge
      refine he _ _ _ (ret_tree (R := fun _ _ => True) X17_ok leafK_ok (x24i _ _ _ _ _ _ _ _) ?_)
      simp only [holds, Int.ofNat_eq_natCast]
      refine ⟨⟨trivial, trivial, trivial, by simp, rfl, by rw [refK_len]; omega, by rw [refK_len]; omega⟩, ⟨by omega, by omega⟩, ?_⟩
      simp only [E24, H24, refK_succ, enc_append, enc_one, List.length_append, List.length_cons, List.length_nil] at hn1
      exact hn1 []
  · have hge : h = c.held.length := by have := of_decide_eq_false e1; omega
    subst hge
    refine he _ _ _ (ret_tree (R := R) X17_ok (doneK_ok rfl) (x24 _ _ _ _ _ _) ?_)
    simp only [holds]
    exact hR
theorem y24 (c : Cmp) (t : Tru) (d : Int) (hf : faultM c = 0) (hd : datedB c t = true) (hd0 : d ≤ 1000) : Yields Try.prog 24 [Cv c, Uv t, vi d] (vsl eI (refH c t d)) := by
  refine q24.yieldsX X17_ok rfl rfl ?_ (w24 c t d) ?_
  · rfl
  simp only [holds]
  exact LoopP.state (StLe.ghostTmp (t := 7) 3 1 rfl) (l24 c t d hf hd hd0 _ (fin_own 3 (refH c t d)))
theorem a24 (c : Cmp) (t : Tru) (d : Int) (hf : faultM c = 0) (hd : datedB c t = true) (hd0 : d ≤ 1000) : ACalls Try.prog 24 [Cv c, Uv t, vi d] [] fun v h' => v = .own 0 (refH c t d).length (refH c t d).length ∧ h' = H24 (refH c t d) := by
  refine q24.calls X17_ok (h := []) rfl (w24 c t d) ?_
  simp only [holds]
  exact LoopP.state (StLe.ghostTmp (t := 7) 3 1 rfl) (l24 c t d hf hd hd0 _ ⟨rfl, rfl⟩)
def entCUI (q : Cmp → Tru → Int → Prop) (m : Cmp → Tru → Int → V) : Ent := fun args _ => match args with
  | [x, y, .d (.int .i64 n)] => match asC x, asU y with
    | some c, some t => some (Cv c = x ∧ Uv t = y ∧ q c t n, m c t n, none)
    | _, _ => none
  | _ => none
theorem entCUI_ok {P : Program} {f : Nat} {q : Cmp → Tru → Int → Prop} {m : Cmp → Tru → Int → V} (hy : ∀ c t n, q c t n → Yields P f [Cv c, Uv t, vi n] (m c t n)) : EntOk P f (entCUI q m) := by
  intro args h p v h' he hp
  unfold entCUI at he
  split at he
  · split at he
    · cases he; rw [← hp.1, ← hp.2.1]; exact hy _ _ _ hp.2.2 h
    · cases he
  · cases he
def ent24 := entCUI (fun c t d => faultM c = 0 ∧ datedB c t = true ∧ d ≤ 1000) (fun c t d => vsl eI (refH c t d))
theorem ent24_ok : EntOk Try.prog 24 ent24 := entCUI_ok fun c t d h => y24 c t d h.1 h.2.1 h.2.2
def tab18 : Spec := (spAdd 24 ent24 tab17)
theorem tab18_ok : SpOk Try.prog tab18 := (spAdd_ok ent24_ok tab17_ok)
def X18 : Sx := mkX tab18
theorem X18_ok : SpOk Try.prog X18.sp := tab18_ok
theorem held_out {c : Cmp} (hf : faultM c = 0) (t : Tru) (n : Int) {i : Nat} (hi : c.held.length ≤ i) : ∀ k, k ≤ c.trades.length → heldT c t n k i = 0
  | 0, _ => by
    have : ∀ k, k ≤ c.held.length → heldA c n k i = 0 := by
      intro k
      induction k with
      | zero => intro _; rfl
      | succ k ih => intro hk; simp only [heldA, setF]; rw [if_neg (by omega)]; exact ih (by omega)
    exact this _ (Nat.le_refl _)
  | k + 1, hk => by
    have ht := trade_in hf (show k < c.trades.length by omega)
    simp only [okTr, Bool.and_eq_true, decide_eq_true_eq] at ht
    have hl := (fault_ok hf).1.2.2.1
    rw [heldT]
    have ih := held_out hf t n hi k (by omega)
    split
    · rw [moveF_at _ (by omega) (by omega) (by omega), if_neg (by omega), if_neg (by omega)]; exact ih
    · exact ih
theorem refH_at {c : Cmp} {t : Tru} {d : Int} {h : Nat} (hh : h < c.held.length) : lat (refH c t d) (h : Nat) = heldF c t d h := by
  simp [lat, refH, refK, hh]
@[simp] theorem refH_len (c : Cmp) (t : Tru) (d : Int) : (refH c t d).length = c.held.length := by simp [refH]
def E44 (c : Cmp) (t : Tru) (d : Nat) : Env := [(2, .rptr (Cds c) 0), (3, .rptr (Uds t) 0), (5, vi d)]
def E44i (c : Cmp) (t : Tru) (d : Nat) (k : Nat) : Env := [(2, .rptr (Cds c) 0), (3, .rptr (Uds t) 0), (5, vi d), (6, vsl eI (refH c t d)), (7, vi k)]
theorem w44 (c : Cmp) (t : Tru) : sx X18 c44 [] (doneK r44) (envOf [Cv c, Uv t]) [] [] =
    Tr.need (Cv (dCe c) = Cv c ∧ Uv (dUe t) = Uv t ∧ List.length (Cmp.trades (dCe c)) ≤ (1000000 : Nat)) (Tr.br (!datedB (dCe c) (dUe t)) (Tr.done (V.d (D.bool false)) []) (Tr.lp (CCode.at c44 [(1 : Nat), (1 : Nat), (0 : Nat), (1 : Nat), (0 : Nat), (0 : Nat)]) [Fr.blk (0), Fr.seq (CCode.at c44 [(1 : Nat), (1 : Nat), (1 : Nat)])] [(2, V.rptr (Cds c) (0)), (3, V.rptr (Uds t) (0)), (5, V.d (D.int IntKind.i64 (0 : Int)))] [])) := by kernel_rfl
theorem b44 (c : Cmp) (t : Tru) (d : Nat) : sx X18 (CCode.at c44 [1,1,0,1,0,0]) [] leafK (E44 c t d) [] [] =
    Tr.br (decide (Int.ofNat d ≤ (11 : Int))) (Tr.need (Cv (dCe c) = Cv c ∧ Uv (dUe t) = Uv t ∧ faultM (dCe c) = (0 : Int) ∧ datedB (dCe c) (dUe t) = true ∧ Int.ofNat d ≤ (1000 : Int)) (Tr.lp (CCode.at c44 [(1 : Nat), (1 : Nat), (0 : Nat), (1 : Nat), (0 : Nat), (0 : Nat), (1 : Nat), (0 : Nat), (0 : Nat), (1 : Nat), (1 : Nat), (0 : Nat), (0 : Nat)]) [Fr.blk (2), Fr.blk (1), Fr.seq (CCode.at c44 [(1 : Nat), (1 : Nat), (0 : Nat), (1 : Nat), (0 : Nat), (0 : Nat), (1 : Nat), (1 : Nat)])] [(2, V.rptr (Cds c) (0)), (3, V.rptr (Uds t) (0)), (5, V.d (D.int IntKind.i64 (Int.ofNat d))), (6, V.d (D.sl false (List.length (refH (dCe c) (dUe t) (Int.ofNat d))) (enc eI (refH (dCe c) (dUe t) (Int.ofNat d))))), (7, V.d (D.int IntKind.i64 (0 : Int)))] [])) (Tr.leaf (CExit.exit (0)) [(2, V.rptr (Cds c) (0)), (3, V.rptr (Uds t) (0)), (5, V.d (D.int IntKind.i64 (Int.ofNat d))), (13, V.d (D.bool (decide (Int.ofNat d ≤ (11 : Int)))))] []) := by kernel_rfl
theorem b44i (c : Cmp) (t : Tru) (d : Nat) (k : Nat) : sx X18 (CCode.at c44 [1,1,0,1,0,0,1,0,0,1,1,0,0]) [] leafK (E44i c t d k) [] [] =
    Tr.br (decide (Int.ofNat k < Int.ofNat (List.length (refH c t (Int.ofNat d))))) (Tr.need ((0 : Int) ≤ Int.ofNat k ∧ Int.ofNat k < Int.ofNat (List.length (refH c t (Int.ofNat d))) ∧ okEl [0] (enc eI (refH c t (Int.ofNat d))) (1 : Nat) (Int.ofNat k)) (Tr.br (decide (cI (enc eI (refH c t (Int.ofNat d))) (1 : Nat) (Int.ofNat k) (0 : Nat) < (0 : Int))) (Tr.leaf CExit.ret [(4, V.d (D.bool false))] []) (Tr.need ((-9223372036854775808 : Int) ≤ Int.ofNat k + (1 : Int) ∧ Int.ofNat k + (1 : Int) ≤ (9223372036854775807 : Int)) (Tr.leaf CExit.normal [(2, V.rptr (Cds c) (0)), (3, V.rptr (Uds t) (0)), (5, V.d (D.int IntKind.i64 (Int.ofNat d))), (6, V.d (D.sl false (List.length (refH c t (Int.ofNat d))) (enc eI (refH c t (Int.ofNat d))))), (7, V.d (D.int IntKind.i64 (Int.ofNat k + (1 : Int))))] [])))) (Tr.leaf (CExit.exit (2)) [(2, V.rptr (Cds c) (0)), (3, V.rptr (Uds t) (0)), (5, V.d (D.int IntKind.i64 (Int.ofNat d))), (6, V.d (D.sl false (List.length (refH c t (Int.ofNat d))) (enc eI (refH c t (Int.ofNat d))))), (7, V.d (D.int IntKind.i64 (Int.ofNat k))), (23, V.d (D.bool (decide (Int.ofNat k < Int.ofNat (List.length (refH c t (Int.ofNat d)))))))] []) := by kernel_rfl
theorem x44i (c : Cmp) (t : Tru) (w x : V) (d : Nat) (l : List Int) : sS X18 leafK [Fr.blk 2, Fr.blk 1, Fr.seq (CCode.at c44 [1,1,0,1,0,0,1,1])] (.exit 2) [(2, .rptr (Cds c) 0), (3, .rptr (Uds t) 0), (5, vi d), (6, vsl eI l), (7, w), (23, x)] [] [] =
    Tr.need ((-9223372036854775808 : Int) ≤ Int.ofNat d + (1 : Int) ∧ Int.ofNat d + (1 : Int) ≤ (9223372036854775807 : Int)) (Tr.leaf CExit.normal [(2, V.rptr (Cds c) (0)), (3, V.rptr (Uds t) (0)), (5, V.d (D.int IntKind.i64 (Int.ofNat d + (1 : Int))))] []) := by kernel_rfl
theorem x44 (u v w x : V) : sS X18 (doneK r44) [Fr.blk 0, Fr.seq (CCode.at c44 [1,1,1])] (.exit 0) [(2, u), (3, v), (5, w), (13, x)] [] [] =
    Tr.done (V.d (D.bool true)) [] := by kernel_rfl
theorem t44 (b : Bool) : sS X18 (doneK r44) [Fr.blk 0, Fr.seq (CCode.at c44 [1,1,1])] .ret [(4, vb b)] [] [] =
    Tr.done (V.d (D.bool b)) [] := by kernel_rfl
def truthB (c : Cmp) (t : Tru) : Bool := datedB c t && fitsB c t
theorem y44 (c : Cmp) (t : Tru) (hf : faultM c = 0) : Yields Try.prog 44 [Cv c, Uv t] (vb (truthB c t)) := by
  have hbs := fault_ok hf
  refine q44.yieldsK X18_ok rfl rfl rfl (w44 c t) ?_
  simp only [holds, dCe, dC_enc, dUe, dU_enc, true_and]
  refine ⟨by omega, fun g1 => ?_, fun g1 => ?_⟩
  · have g1 : datedB c t = false := by simpa using g1
    refine .of_eq (congrArg vb ?_)
    simp [truthB, g1]
  have hd : datedB c t = true := by simpa using g1
  refine lp_count X18_ok 12 (fun d => ∀ j, j < d → ∀ i, i < 4 → 0 ≤ heldF c t (j : Nat) i) (E44 c t) (fun _ => []) rfl rfl (fun j hj => by omega) (fun k _ => ⟨rfl, rfl, rfl⟩) ?_
  intro d hdd hA Q' hn he hr
  rw [b44]
  simp only [holds, Int.ofNat_eq_natCast, dCe, dC_enc, dUe, dU_enc, true_and]
  refine ⟨fun g2 => ⟨⟨hf, hd, by omega⟩, ?_⟩, fun g2 => ?_⟩
  · have hlt : d < 12 := by have := of_decide_eq_true g2; omega
    have hn1 := hn [] hlt
    refine lp_count X18_ok c.held.length (fun k => ∀ j, j < k → 0 ≤ heldF c t (d : Nat) j) (E44i c t d) (fun _ => []) rfl rfl (fun j hj => by omega) (fun k _ => ⟨rfl, rfl, rfl⟩) ?_
    intro k hk hB Q2 hn2 he2 hr2
    rw [b44i]
    simp only [holds, Int.ofNat_eq_natCast, cI_I, refH_len]
    refine ⟨fun g3 => ?_, fun g3 => ?_⟩
    · have hlt2 : k < c.held.length := by have := of_decide_eq_true g3; omega
      rw [refH_at hlt2]
      refine ⟨⟨by omega, by omega, ok_I (by simp; omega)⟩, fun g4 => ?_, fun g4 => ⟨⟨by omega, by omega⟩, ?_⟩⟩
      · refine hr2 _ _ (retS_ret (hr _ _ (ret_tree X18_ok (doneK_ok rfl) (t44 false) ?_)))
        simp only [holds]
        refine .of_eq (congrArg vb ?_)
        have g4 := of_decide_eq_true g4
        have : fitsB c t = false := by
          simp only [fitsB, decide_eq_false_iff_not]
          intro h
          have := h d hlt k (by omega)
          omega
        simp [truthB, this]
      · have g4 := of_decide_eq_false g4
        have := hn2 [] hlt2 (step_all hB (by omega))
        simp only [E44i, vsl, dsl, refH_len] at this
        exact this
    · have hge : k = c.held.length := by have := of_decide_eq_false g3; omega
      subst hge
      have hx := x44i c t (vi c.held.length) (vb (decide ((c.held.length : Int) < c.held.length))) d (refH c t (d : Nat))
      simp only [vsl, dsl, refH_len] at hx
      refine he2 _ _ _ (ret_tree (R := fun _ _ => True) X18_ok leafK_ok hx ?_)
      simp only [holds, Int.ofNat_eq_natCast]
      refine ⟨⟨by omega, by omega⟩, ?_⟩
      refine hn1 (step_all hA fun i hi => ?_)
      rcases Nat.lt_or_ge i c.held.length with h | h
      · exact hB i h
      · have := held_out hf t (d : Nat) h c.trades.length (Nat.le_refl _)
        have e : heldF c t (d : Nat) i = 0 := this
        omega
  · have hge : d = 12 := by have := of_decide_eq_false g2; omega
    subst hge
    refine he _ _ _ (ret_tree X18_ok (doneK_ok rfl) (x44 _ _ _ _) ?_)
    simp only [holds]
    refine .of_eq (congrArg vb ?_)
    have : fitsB c t = true := by simp only [fitsB, decide_eq_true_eq]; exact hA
    simp [truthB, this, hd]
end
end Go.Proofs.Ytdnefcjbcieecaa
namespace Go.Proofs.Ytdnefcjbcieecaa
noncomputable section
open Go
theorem plain0_rep {M M' : Mem} (hr : ∀ b o v, M.ro b o = some v → M'.ro b o = some v) {v : V} (hp : plain0 v = true) {c : Value} (h : RepV M v c) : RepV M' v c := by
  cases h with
  | any v => exact .any _
  | d x v h => exact .d _ _ (h.mono hr)
  | rptr cs off b o vals h1 h2 => exact .rptr _ _ b o vals (fun k hk => hr _ _ _ (h1 k hk)) (fun k c hk => (h2 k c hk).mono hr)
  | _ => cases hp
theorem plain1_rep {M M' : Mem} (hr : ∀ b o v, M.ro b o = some v → M'.ro b o = some v) {v : V} (hp : plain1 v = true) {c : Value} (h : RepV M v c) : RepV M' v c := by
  cases h with
  | any v => exact .any _
  | d x v h => exact .d _ _ (h.mono hr)
  | rptr cs off b o vals h1 h2 => exact .rptr _ _ b o vals (fun k hk => hr _ _ _ (h1 k hk)) (fun k c hk => (h2 k c hk).mono hr)
  | agg cs arr hl h h1 =>
    have hp : allZ plain0 cs = true := hp
    rw [allZ_eq] at hp
    exact .agg cs arr hl (fun k v c hv hc => plain0_rep hr (all_get hp hv) (h k v c hv hc)) h1
  | _ => cases hp
theorem plain2_rep {M M' : Mem} (hr : ∀ b o v, M.ro b o = some v → M'.ro b o = some v) {v : V} (hp : plain2 v = true) {c : Value} (h : RepV M v c) : RepV M' v c := by
  cases h with
  | any v => exact .any _
  | d x v h => exact .d _ _ (h.mono hr)
  | rptr cs off b o vals h1 h2 => exact .rptr _ _ b o vals (fun k hk => hr _ _ _ (h1 k hk)) (fun k c hk => (h2 k c hk).mono hr)
  | agg cs arr hl h h1 => exact plain1_rep hr (v := .agg cs) hp (.agg cs arr hl h h1)
  | tup cs arr hl h =>
    have hp : allZ plain1 cs = true := hp
    rw [allZ_eq] at hp
    exact .tup cs arr hl (fun k v c hv hc => plain1_rep hr (all_get hp hv) (h k v c hv hc))
  | _ => cases hp
theorem ACalls.frame {P : Program} {g : Nat} {args : List V} {v : V} (ha : allZ plain1 args = true) (hv : plain2 v = true) (hc : ACalls P g args [] fun v1 h1 => v1 = v ∧ h1 = []) (h : Heap) :
    ACalls P g args h fun v1 h1 => v1 = v ∧ h1 = h := by
  refine ⟨hc.1, fun M w us hm hs hu => ?_⟩
  rw [allZ_eq] at ha
  let M0 : Mem := { M with mu := fun _ => none }
  have hs0 : Sim M0 [] w := ⟨fun i blk hi => by simp at hi, fun i j bi bj ri rj b hi => by simp at hi, fun b o u hu => ⟨(hs.ro b o u hu).1, fun ⟨i, blk, r, hi, _⟩ => by simp at hi⟩, fun _ _ => rfl,
    fun b hb => ⟨(hs.df b hb).1, fun ⟨i, blk, r, hi, _⟩ => by simp at hi⟩⟩
  have hu0 : RepL M0 args us := ⟨hu.1, fun k x c hx hc => plain1_rep (M := M) (M' := M0) (fun _ _ _ h => h) (all_get ha hx) (hu.2 k x c hx hc)⟩
  refine (hc.2 M0 w us hm hs0 hu0).mono ?_
  rintro e w' ⟨cv, v1, h1, M1, rfl, p, hrv, rfl, rfl⟩
  have hnl : ∀ b, ¬ liveBlk M0 [] b := fun b ⟨i, blk, r, hi, _⟩ => by simp at hi
  let M' : Mem := { M1 with mu := M.mu }
  have hro : ∀ b o u, M.ro b o = some u → M'.ro b o = some u := fun b o u hu => p.ro b o u hu
  have hle : MuLe M M' := fun i r hr => ⟨r, hr, Nat.le_refl _, fun _ => rfl⟩
  have hlive : ∀ b, liveBlk M' h b → liveBlk M h b := fun b hl => hl
  refine ⟨cv, v1, h, M', rfl, ⟨hro, ⟨⟨p.dc.1.1, p.dc.1.2.1, fun b o u hb hu => ?_⟩, p.dc.2⟩, hle, Nat.le_refl _, ⟨fun i blk hi => ?_, hs.inj, fun b o u hu => ⟨(p.sim.ro b o u hu).1, fun hl => ?_⟩, hs.dom, fun b hb => ⟨(p.sim.df b hb).1, fun hl => ?_⟩⟩,
    p.os, p.tape, p.output, p.size, fun b hb _ => p.keep b hb (hnl b), fun b _ hl => hl⟩, plain2_rep (M := M1) (M' := M') (fun _ _ _ h => h) hv hrv, rfl, rfl⟩
  · exact (p.dc.1.2.2 b o u hb hu).elim .inl fun hl => (hnl b hl).elim
  · obtain ⟨r, hr, hat⟩ := hs.blks i blk hi
    exact ⟨r, hr, BlkAt.of_same (M := M) (M' := M') (w := w) p.dc.2 hro (fun x v hx => hx.mono hro hle) (fun b hb => p.keep b (hs.live_lt ⟨i, blk, r, hi, hr, hb⟩) (hnl b)) hat⟩
  · have hlt := hs.live_lt hl
    rcases p.dc.1.2.2 b o u hlt hu with h0 | h0
    · exact (hs.ro b o u h0).2 hl
    · exact hnl b h0
  · have hlt := hs.live_lt hl
    exact (hs.df b (p.dc.1.2.1 b hlt hb)).2 hl
abbrev MemoX := Nat → List V → Option V
def MemoOk (P : Program) (memo : MemoX) : Prop := ∀ g args v, memo g args = some v → ∀ h, ACalls P g args h fun v1 h1 => v1 = v ∧ h1 = h
def memo0 : MemoX := fun _ _ => none
def memoC (g : Nat) (args : List V) (v : V) (rest : MemoX) : MemoX := fun g' a => @Bool.rec (fun _ => Option V) (rest g' a) (@Bool.rec (fun _ => Option V) (rest g' a) (some v) (eqVLF args a)) (Nat.beq g' g)
theorem memo0_ok {P : Program} : MemoOk P memo0 := fun _ _ _ h => by cases h
theorem memoC_ok {P : Program} {g : Nat} {args : List V} {v : V} {rest : MemoX} (hc : ∀ h, ACalls P g args h fun v1 h1 => v1 = v ∧ h1 = h) (hr : MemoOk P rest) : MemoOk P (memoC g args v rest) := by
  intro g' a v' he
  unfold memoC at he
  cases hg : Nat.beq g' g with
  | false => rw [hg] at he; exact hr g' a v' he
  | true =>
    rw [hg] at he
    cases ha : eqVLF args a with
    | false => rw [ha] at he; exact hr g' a v' he
    | true =>
      rw [ha] at he
      cases he
      rw [Nat.eq_of_beq_eq_true hg, ← eqVLF_sound _ _ ha]
      exact hc
def tabM (tab : TabX) (memo : MemoX) (ih : XCall) (k : Nat) (g : Nat) (args : List V) (d : Wd) (h : Heap) : RQ :=
  @Option.rec V (fun _ => RQ) (tabQ tab ih k g args d h) (fun v => some (v, d, h)) (memo g args)
def dispM (f : V) (tab : TabX) (memo : MemoX) (ih : XCall) (k : Nat) (args : List V) (d : Wd) (h : Heap) : RQ := @V.rec (fun _ => TabX → MemoX → XCall → Nat → List V → Wd → Heap → RQ) (fun _ => Unit) (fun _ _ _ _ _ _ _ => none) (@D.rec (fun _ => TabX → MemoX → XCall → Nat → List V → Wd → Heap → RQ) (fun _ => Unit) (fun _ _ _ _ _ _ _ => none) (fun _ _ => (fun _ _ _ _ _ _ _ => none)) (fun _ => (fun _ _ _ _ _ _ _ => none)) (fun _ => (fun _ _ _ _ _ _ _ => none)) (fun _ _ _ _ _ _ _ => none) (fun _ _ _ _ _ _ _ => none) (fun _ _ _ _ _ _ _ => none) (fun _ _ _ _ _ _ _ => none) (@Fn.rec (fun _ => TabX → MemoX → XCall → Nat → List V → Wd → Heap → RQ) (fun g tab memo ih k args d h => tabM tab memo ih k g args d h) (fun _ => (fun _ _ _ _ _ _ _ => none)) (fun _ _ => (fun _ _ _ _ _ _ _ => none)) (fun _ _ _ _ => (fun _ _ _ _ _ _ _ => none)) (fun _ => (fun _ _ _ _ _ _ _ => none))) (fun _ _ _ _ => (fun _ _ _ _ _ _ _ => none)) () (fun _ _ _ _ => ())) (fun _ _ => (fun _ _ _ _ _ _ _ => none)) (fun _ _ => (fun _ _ _ _ _ _ _ => none)) (fun _ _ _ => (fun _ _ _ _ _ _ _ => none)) (fun _ _ _ => (fun _ _ _ _ _ _ _ => none)) (fun _ _ => (fun _ _ _ _ _ _ _ => none)) (fun f first caps _ _ => @Fn.rec (fun _ => List V → List V → TabX → MemoX → XCall → Nat → List V → Wd → Heap → RQ) (fun g first caps tab memo ih k args d h => tabM tab memo ih k g (appZ first (appZ args caps)) d h) (fun _ _ _ => (fun _ _ _ _ _ _ _ => none)) (fun _ _ _ _ => (fun _ _ _ _ _ _ _ => none)) (fun _ _ _ _ _ _ => (fun _ _ _ _ _ _ _ => none)) (fun _ _ _ => (fun _ _ _ _ _ _ _ => none)) f first caps) (fun _ => (fun _ _ _ _ _ _ _ => none)) (fun id tab memo ih k args d h => yieldZ ih k id args d h) () (fun _ _ _ _ => ()) f tab memo ih k args d h
def callM (tab : TabX) (memo : MemoX) (k : Nat) : XCall := Nat.rec (motive := fun _ => XCall) (fun _ _ _ _ => none) (fun k ih f args d h => dispM f tab memo ih k args d h) k
theorem tabM_sound {P : Program} {tab : TabX} {memo : MemoX} (ht : TabOk P tab) (hm : MemoOk P memo) {ih : XCall} (hi : CallOk P ih) {k g : Nat} {args : List V} {d d' : Wd} {h h' : Heap} {v : V}
    (he : tabM tab memo ih k g args d h = some (v, d', h')) : ACalls P g args h (fun v1 h1 => v1 = v ∧ h1 = h') ∧ Low d d' h h' := by
  unfold tabM at he
  cases hq : memo g args with
  | some v0 => rw [hq] at he; cases he; exact ⟨hm g args _ hq h, Low.refl _ _⟩
  | none =>
    rw [hq] at he
    have he : tabQ tab ih k g args d h = some (v, d', h') := he
    rw [tabQ_eq] at he
    split at he
    · rename_i F hF; exact funZ_sound hi (ht g F hF) he
    · cases he
theorem callM_sound {P : Program} {tab : TabX} {memo : MemoX} (ht : TabOk P tab) (hm : MemoOk P memo) : ∀ k, CallOk P (callM tab memo k)
  | 0, _, _, _, _, _, _, _, he => by cases he
  | k + 1, f, args, d, h, v, d', h', he => by
    have he2 : dispM f tab memo (callM tab memo k) k args d h = some (v, d', h') := he
    clear he
    cases f with
    | d y => cases y with
      | fn f => cases f with
        | func g => exact tabM_sound ht hm (callM_sound ht hm k) he2
        | _ => cases he2
      | _ => cases he2
    | fn f first caps => cases f with
      | func g =>
        have he3 : tabM tab memo (callM tab memo k) k g (appZ first (appZ args caps)) d h = some (v, d', h') := he2
        rw [appZ_eq, appZ_eq, ← List.append_assoc] at he3
        exact tabM_sound ht hm (callM_sound ht hm k) he3
      | _ => cases he2
    | yl id =>
      have he3 : yieldZ (callM tab memo k) k id args d h = some (v, d', h') := he2
      rw [yieldZ_eq] at he3
      exact yieldX_sound (callM_sound ht hm k) he3
    | _ => cases he2
def chkM (tab : TabX) (memo : MemoX) (k g : Nat) (args : List V) (v : V) : Bool :=
  andQ (allZ plain1 args) (andQ (plain2 v) (@Option.rec (V × Wd × Heap) (fun _ => Bool) false (fun q => andQ (eqVF q.1 v) (@List.rec (Option Blk) (fun _ => Bool) true (fun _ _ _ => false) q.2.2)) (callM tab memo k (.d (.fn (.func g))) args .all [])))
theorem chkM_sound {P : Program} {tab : TabX} {memo : MemoX} (ht : TabOk P tab) (hm : MemoOk P memo) {k g : Nat} {args : List V} {v : V} (he : chkM tab memo k g args v = true) :
    ∀ h, ACalls P g args h fun v1 h1 => v1 = v ∧ h1 = h := by
  unfold chkM at he
  simp only [andQ_eq, Bool.and_eq_true] at he
  obtain ⟨h1, h2, h3⟩ := he
  cases hc : callM tab memo k (.d (.fn (.func g))) args .all [] with
  | none => rw [hc] at h3; cases h3
  | some q =>
    obtain ⟨v', d', h'⟩ := q
    rw [hc] at h3
    have h3 : (eqVF v' v && @List.rec (Option Blk) (fun _ => Bool) true (fun _ _ _ => false) h') = true := h3
    simp only [Bool.and_eq_true] at h3
    obtain ⟨e1, e2⟩ := h3
    have e1 := eqVF_sound _ _ e1
    subst e1
    cases h' with
    | cons b r => cases e2
    | nil => exact ACalls.frame h1 h2 (callM_sound ht hm k _ _ _ _ _ _ _ hc).1
end
end Go.Proofs.Ytdnefcjbcieecaa
namespace Go.Proofs.Ytdnefcjbcieecaa
open Go Go.Proofs
def lf (i : Nat) (F : FunX) : TabX := fun n => bif Nat.beq n i then some F else none
def nd (k : Nat) (a b : TabX) : TabX := fun n => bif Nat.ble n k then a n else b n
theorem lf_ok {P : Program} {i : Nat} {F : FunX} (h : FunOk P i F) : TabOk P (lf i F) := by
  intro f F' he
  unfold lf at he
  cases hb : Nat.beq f i with
  | true => rw [hb] at he; cases he; rw [Nat.eq_of_beq_eq_true hb]; exact h
  | false => rw [hb] at he; cases he
theorem nd_ok {P : Program} {k : Nat} {a b : TabX} (ha : TabOk P a) (hb : TabOk P b) : TabOk P (nd k a b) := by
  intro f F' he
  unfold nd at he
  cases hc : Nat.ble f k with
  | true => rw [hc] at he; exact ha f F' he
  | false => rw [hc] at he; exact hb f F' he
def tab : TabX := (nd 86 (nd 60 (nd 38 (nd 26 (nd 19 (nd 18 (lf 18 F18) (lf 19 F19)) (nd 25 (lf 25 F25) (lf 26 F26))) (nd 28 (nd 27 (lf 27 F27) (lf 28 F28)) (nd 33 (lf 33 F33) (lf 38 F38)))) (nd 54 (nd 52 (nd 50 (lf 50 F50) (lf 52 F52)) (nd 53 (lf 53 F53) (lf 54 F54))) (nd 58 (nd 55 (lf 55 F55) (lf 58 F58)) (nd 59 (lf 59 F59) (lf 60 F60))))) (nd 73 (nd 67 (nd 65 (nd 64 (lf 64 F64) (lf 65 F65)) (nd 66 (lf 66 F66) (lf 67 F67))) (nd 71 (nd 68 (lf 68 F68) (lf 71 F71)) (nd 72 (lf 72 F72) (lf 73 F73)))) (nd 78 (nd 76 (nd 75 (lf 75 F75) (lf 76 F76)) (nd 77 (lf 77 F77) (lf 78 F78))) (nd 83 (nd 82 (lf 82 F82) (lf 83 F83)) (nd 84 (lf 84 F84) (nd 85 (lf 85 F85) (lf 86 F86))))))) (nd 103 (nd 94 (nd 90 (nd 88 (nd 87 (lf 87 F87) (lf 88 F88)) (nd 89 (lf 89 F89) (lf 90 F90))) (nd 92 (nd 91 (lf 91 F91) (lf 92 F92)) (nd 93 (lf 93 F93) (lf 94 F94)))) (nd 98 (nd 96 (nd 95 (lf 95 F95) (lf 96 F96)) (nd 97 (lf 97 F97) (lf 98 F98))) (nd 100 (nd 99 (lf 99 F99) (lf 100 F100)) (nd 101 (lf 101 F101) (nd 102 (lf 102 F102) (lf 103 F103)))))) (nd 111 (nd 107 (nd 105 (nd 104 (lf 104 F104) (lf 105 F105)) (nd 106 (lf 106 F106) (lf 107 F107))) (nd 109 (nd 108 (lf 108 F108) (lf 109 F109)) (nd 110 (lf 110 F110) (lf 111 F111)))) (nd 115 (nd 113 (nd 112 (lf 112 F112) (lf 113 F113)) (nd 114 (lf 114 F114) (lf 115 F115))) (nd 117 (nd 116 (lf 116 F116) (lf 117 F117)) (nd 118 (lf 118 F118) (nd 119 (lf 119 F119) (lf 120 F120))))))))
theorem tab_ok : TabOk Try.prog tab := (nd_ok (nd_ok (nd_ok (nd_ok (nd_ok (nd_ok (lf_ok o18) (lf_ok o19)) (nd_ok (lf_ok o25) (lf_ok o26))) (nd_ok (nd_ok (lf_ok o27) (lf_ok o28)) (nd_ok (lf_ok o33) (lf_ok o38)))) (nd_ok (nd_ok (nd_ok (lf_ok o50) (lf_ok o52)) (nd_ok (lf_ok o53) (lf_ok o54))) (nd_ok (nd_ok (lf_ok o55) (lf_ok o58)) (nd_ok (lf_ok o59) (lf_ok o60))))) (nd_ok (nd_ok (nd_ok (nd_ok (lf_ok o64) (lf_ok o65)) (nd_ok (lf_ok o66) (lf_ok o67))) (nd_ok (nd_ok (lf_ok o68) (lf_ok o71)) (nd_ok (lf_ok o72) (lf_ok o73)))) (nd_ok (nd_ok (nd_ok (lf_ok o75) (lf_ok o76)) (nd_ok (lf_ok o77) (lf_ok o78))) (nd_ok (nd_ok (lf_ok o82) (lf_ok o83)) (nd_ok (lf_ok o84) (nd_ok (lf_ok o85) (lf_ok o86))))))) (nd_ok (nd_ok (nd_ok (nd_ok (nd_ok (lf_ok o87) (lf_ok o88)) (nd_ok (lf_ok o89) (lf_ok o90))) (nd_ok (nd_ok (lf_ok o91) (lf_ok o92)) (nd_ok (lf_ok o93) (lf_ok o94)))) (nd_ok (nd_ok (nd_ok (lf_ok o95) (lf_ok o96)) (nd_ok (lf_ok o97) (lf_ok o98))) (nd_ok (nd_ok (lf_ok o99) (lf_ok o100)) (nd_ok (lf_ok o101) (nd_ok (lf_ok o102) (lf_ok o103)))))) (nd_ok (nd_ok (nd_ok (nd_ok (lf_ok o104) (lf_ok o105)) (nd_ok (lf_ok o106) (lf_ok o107))) (nd_ok (nd_ok (lf_ok o108) (lf_ok o109)) (nd_ok (lf_ok o110) (lf_ok o111)))) (nd_ok (nd_ok (nd_ok (lf_ok o112) (lf_ok o113)) (nd_ok (lf_ok o114) (lf_ok o115))) (nd_ok (nd_ok (lf_ok o116) (lf_ok o117)) (nd_ok (lf_ok o118) (nd_ok (lf_ok o119) (lf_ok o120))))))))
end Go.Proofs.Ytdnefcjbcieecaa
namespace Go.Proofs.Ytdnefcjbcieecaa
noncomputable section
open Go Go.Proofs
set_option maxRecDepth 100000
def aAw0 : List V := [(.agg [(.d (.int .i64 (.ofNat (nat_lit 2)))), (.d (.sl true (nat_lit 2) [(.int .i64 (.ofNat (nat_lit 10))), (.int .i64 (.ofNat (nat_lit 0)))])), (.d (.sl true (nat_lit 1) [(.int .i64 (.ofNat (nat_lit 0))), (.int .i64 (.ofNat (nat_lit 1))), (.int .i64 (.ofNat (nat_lit 4))), (.int .i64 (.ofNat (nat_lit 2))), (.int .i64 (.ofNat (nat_lit 3))), (.int .i64 (.ofNat (nat_lit 4))), (.int .i64 (.ofNat (nat_lit 5)))])), (.d (.sl true (nat_lit 1) [(.int .i64 (.ofNat (nat_lit 3))), (.int .i64 (.ofNat (nat_lit 4))), (.int .i64 (.ofNat (nat_lit 5)))])), (.d (.sl true (nat_lit 1) [(.int .i64 (.ofNat (nat_lit 4))), (.int .i64 (.ofNat (nat_lit 3))), (.int .i64 (.ofNat (nat_lit 2)))])), (.d (.sl true (nat_lit 1) [(.int .i64 (.ofNat (nat_lit 5))), (.int .i64 (.ofNat (nat_lit 6)))]))]), (.agg [(.d (.sl true (nat_lit 1) [(.int .i64 (.ofNat (nat_lit 2)))])), (.d (.sl true (nat_lit 1) [(.int .i64 (.ofNat (nat_lit 4)))]))]), (.d (.int .i64 (.ofNat (nat_lit 4))))]
def vAw0 : V := (.tup [(.d (.sl false (nat_lit 2) [(.int .i64 (.ofNat (nat_lit 9))), (.int .i64 (.ofNat (nat_lit 6)))])), (.d (.sl false (nat_lit 2) [(.int .i64 (.ofNat (nat_lit 0))), (.int .i64 (.ofNat (nat_lit 0)))])), (.d (.int .i64 (.ofNat (nat_lit 0))))])
theorem hAw0 : chkM tab memo0 (nat_lit 60) (nat_lit 19) aAw0 vAw0 = true := by kernel_rfl
def Aw0 : MemoX := memoC (nat_lit 19) aAw0 vAw0 memo0
theorem Aw0_ok : MemoOk Try.prog Aw0 := memoC_ok (chkM_sound tab_ok memo0_ok hAw0) memo0_ok
def aAw1 : List V := [(.agg [(.d (.fn (.func (nat_lit 64))))]), (.agg [(.d (.int .i64 (.ofNat (nat_lit 2)))), (.d (.sl true (nat_lit 2) [(.int .i64 (.ofNat (nat_lit 10))), (.int .i64 (.ofNat (nat_lit 0)))])), (.d (.sl true (nat_lit 1) [(.int .i64 (.ofNat (nat_lit 0))), (.int .i64 (.ofNat (nat_lit 1))), (.int .i64 (.ofNat (nat_lit 4))), (.int .i64 (.ofNat (nat_lit 2))), (.int .i64 (.ofNat (nat_lit 3))), (.int .i64 (.ofNat (nat_lit 4))), (.int .i64 (.ofNat (nat_lit 5)))])), (.d (.sl true (nat_lit 1) [(.int .i64 (.ofNat (nat_lit 3))), (.int .i64 (.ofNat (nat_lit 4))), (.int .i64 (.ofNat (nat_lit 5)))])), (.d (.sl true (nat_lit 1) [(.int .i64 (.ofNat (nat_lit 4))), (.int .i64 (.ofNat (nat_lit 3))), (.int .i64 (.ofNat (nat_lit 2)))])), (.d (.sl true (nat_lit 1) [(.int .i64 (.ofNat (nat_lit 5))), (.int .i64 (.ofNat (nat_lit 6)))]))]), (.agg [(.d (.sl true (nat_lit 1) [(.int .i64 (.ofNat (nat_lit 2)))])), (.d (.sl true (nat_lit 1) [(.int .i64 (.ofNat (nat_lit 5)))]))]), (.d (.int .i64 (.ofNat (nat_lit 0))))]
def vAw1 : V := (.tup [(.d (.sl false (nat_lit 2) [(.int .i64 (.ofNat (nat_lit 54000))), (.int .i64 (.ofNat (nat_lit 0)))])), (.d (.int .i64 (.ofNat (nat_lit 0))))])
theorem hAw1 : chkM tab Aw0 (nat_lit 60) (nat_lit 65) aAw1 vAw1 = true := by kernel_rfl
def Aw1 : MemoX := memoC (nat_lit 65) aAw1 vAw1 Aw0
theorem Aw1_ok : MemoOk Try.prog Aw1 := memoC_ok (chkM_sound tab_ok Aw0_ok hAw1) Aw0_ok
def aAw2 : List V := [(.agg [(.d (.fn (.func (nat_lit 66))))]), (.agg [(.d (.int .i64 (.ofNat (nat_lit 2)))), (.d (.sl true (nat_lit 2) [(.int .i64 (.ofNat (nat_lit 10))), (.int .i64 (.ofNat (nat_lit 0)))])), (.d (.sl true (nat_lit 1) [(.int .i64 (.ofNat (nat_lit 0))), (.int .i64 (.ofNat (nat_lit 1))), (.int .i64 (.ofNat (nat_lit 4))), (.int .i64 (.ofNat (nat_lit 2))), (.int .i64 (.ofNat (nat_lit 3))), (.int .i64 (.ofNat (nat_lit 4))), (.int .i64 (.ofNat (nat_lit 5)))])), (.d (.sl true (nat_lit 1) [(.int .i64 (.ofNat (nat_lit 3))), (.int .i64 (.ofNat (nat_lit 4))), (.int .i64 (.ofNat (nat_lit 5)))])), (.d (.sl true (nat_lit 1) [(.int .i64 (.ofNat (nat_lit 4))), (.int .i64 (.ofNat (nat_lit 3))), (.int .i64 (.ofNat (nat_lit 2)))])), (.d (.sl true (nat_lit 1) [(.int .i64 (.ofNat (nat_lit 5))), (.int .i64 (.ofNat (nat_lit 6)))]))]), (.agg [(.d (.sl true (nat_lit 1) [(.int .i64 (.ofNat (nat_lit 3)))])), (.d (.sl true (nat_lit 1) [(.int .i64 (.ofNat (nat_lit 4)))]))]), (.d (.int .i64 (.ofNat (nat_lit 0))))]
def vAw2 : V := (.tup [(.d (.sl false (nat_lit 1) [(.int .i64 (.negSucc (nat_lit 21599)))])), (.d (.int .i64 (.ofNat (nat_lit 0))))])
theorem hAw2 : chkM tab Aw1 (nat_lit 60) (nat_lit 65) aAw2 vAw2 = true := by kernel_rfl
def Aw2 : MemoX := memoC (nat_lit 65) aAw2 vAw2 Aw1
theorem Aw2_ok : MemoOk Try.prog Aw2 := memoC_ok (chkM_sound tab_ok Aw1_ok hAw2) Aw1_ok
def aAw3 : List V := [(.agg [(.d (.fn (.func (nat_lit 67))))]), (.agg [(.d (.int .i64 (.ofNat (nat_lit 2)))), (.d (.sl true (nat_lit 2) [(.int .i64 (.ofNat (nat_lit 10))), (.int .i64 (.ofNat (nat_lit 0)))])), (.d (.sl true (nat_lit 1) [(.int .i64 (.ofNat (nat_lit 0))), (.int .i64 (.ofNat (nat_lit 1))), (.int .i64 (.ofNat (nat_lit 4))), (.int .i64 (.ofNat (nat_lit 2))), (.int .i64 (.ofNat (nat_lit 3))), (.int .i64 (.ofNat (nat_lit 4))), (.int .i64 (.ofNat (nat_lit 5)))])), (.d (.sl true (nat_lit 1) [(.int .i64 (.ofNat (nat_lit 3))), (.int .i64 (.ofNat (nat_lit 4))), (.int .i64 (.ofNat (nat_lit 5)))])), (.d (.sl true (nat_lit 1) [(.int .i64 (.ofNat (nat_lit 4))), (.int .i64 (.ofNat (nat_lit 3))), (.int .i64 (.ofNat (nat_lit 2)))])), (.d (.sl true (nat_lit 1) [(.int .i64 (.ofNat (nat_lit 5))), (.int .i64 (.ofNat (nat_lit 6)))]))]), (.agg [(.d (.sl true (nat_lit 1) [(.int .i64 (.ofNat (nat_lit 2)))])), (.d (.sl true (nat_lit 1) [(.int .i64 (.ofNat (nat_lit 5)))]))]), (.d (.int .i64 (.ofNat (nat_lit 0))))]
def vAw3 : V := (.tup [(.d (.sl false (nat_lit 2) [(.int .i64 (.ofNat (nat_lit 32400))), (.int .i64 (.ofNat (nat_lit 21600)))])), (.d (.int .i64 (.ofNat (nat_lit 0))))])
theorem hAw3 : chkM tab Aw2 (nat_lit 60) (nat_lit 65) aAw3 vAw3 = true := by kernel_rfl
def Aw3 : MemoX := memoC (nat_lit 65) aAw3 vAw3 Aw2
theorem Aw3_ok : MemoOk Try.prog Aw3 := memoC_ok (chkM_sound tab_ok Aw2_ok hAw3) Aw2_ok
end
end Go.Proofs.Ytdnefcjbcieecaa
namespace Go.Proofs.Ytdnefcjbcieecaa
noncomputable section
open Go Go.Proofs
set_option maxRecDepth 100000
def aAw4 : List V := [(.agg [(.d (.int .i64 (.ofNat (nat_lit 2)))), (.d (.sl true (nat_lit 2) [(.int .i64 (.ofNat (nat_lit 10))), (.int .i64 (.ofNat (nat_lit 0)))])), (.d (.sl true (nat_lit 1) [(.int .i64 (.ofNat (nat_lit 0))), (.int .i64 (.ofNat (nat_lit 1))), (.int .i64 (.ofNat (nat_lit 4))), (.int .i64 (.ofNat (nat_lit 2))), (.int .i64 (.ofNat (nat_lit 3))), (.int .i64 (.ofNat (nat_lit 4))), (.int .i64 (.ofNat (nat_lit 5)))])), (.d (.sl true (nat_lit 1) [(.int .i64 (.ofNat (nat_lit 3))), (.int .i64 (.ofNat (nat_lit 4))), (.int .i64 (.ofNat (nat_lit 5)))])), (.d (.sl true (nat_lit 1) [(.int .i64 (.ofNat (nat_lit 4))), (.int .i64 (.ofNat (nat_lit 3))), (.int .i64 (.ofNat (nat_lit 2)))])), (.d (.sl true (nat_lit 1) [(.int .i64 (.ofNat (nat_lit 5))), (.int .i64 (.ofNat (nat_lit 6)))]))]), (.d (.int .i64 (.ofNat (nat_lit 0))))]
def vAw4 : V := (.tup [(.d (.sl false (nat_lit 2) [(.int .i64 (.ofNat (nat_lit 32400))), (.int .i64 (.ofNat (nat_lit 54000))), (.int .i64 (.ofNat (nat_lit 0))), (.int .i64 (.ofNat (nat_lit 21600)))])), (.d (.sl false (nat_lit 1) [(.int .i64 (.negSucc (nat_lit 21599))), (.int .i64 (.ofNat (nat_lit 21600)))])), (.d (.sl false (nat_lit 2) [(.int .i64 (.ofNat (nat_lit 32400))), (.int .i64 (.ofNat (nat_lit 54000))), (.int .i64 (.ofNat (nat_lit 0))), (.int .i64 (.ofNat (nat_lit 21600)))])), (.d (.int .i64 (.ofNat (nat_lit 0))))])
theorem hAw4 : chkM tab Aw3 (nat_lit 60) (nat_lit 33) aAw4 vAw4 = true := by kernel_rfl
def Aw4 : MemoX := memoC (nat_lit 33) aAw4 vAw4 Aw3
theorem Aw4_ok : MemoOk Try.prog Aw4 := memoC_ok (chkM_sound tab_ok Aw3_ok hAw4) Aw3_ok
end
end Go.Proofs.Ytdnefcjbcieecaa
namespace Go.Proofs.Ytdnefcjbcieecaa
noncomputable section
open Go Go.Proofs
set_option maxRecDepth 100000
def aAw5 : List V := [(.agg [(.d (.int .i64 (.ofNat (nat_lit 2)))), (.d (.sl true (nat_lit 2) [(.int .i64 (.ofNat (nat_lit 10))), (.int .i64 (.ofNat (nat_lit 0)))])), (.d (.sl false (nat_lit 1) [(.int .i64 (.ofNat (nat_lit 0))), (.int .i64 (.ofNat (nat_lit 1))), (.int .i64 (.ofNat (nat_lit 11))), (.int .i64 (.ofNat (nat_lit 2))), (.int .i64 (.ofNat (nat_lit 3))), (.int .i64 (.ofNat (nat_lit 4))), (.int .i64 (.ofNat (nat_lit 5)))])), (.d (.sl true (nat_lit 1) [(.int .i64 (.ofNat (nat_lit 3))), (.int .i64 (.ofNat (nat_lit 4))), (.int .i64 (.ofNat (nat_lit 5)))])), (.d (.sl true (nat_lit 1) [(.int .i64 (.ofNat (nat_lit 4))), (.int .i64 (.ofNat (nat_lit 3))), (.int .i64 (.ofNat (nat_lit 2)))])), (.d (.sl true (nat_lit 1) [(.int .i64 (.ofNat (nat_lit 5))), (.int .i64 (.ofNat (nat_lit 6)))]))])]
def vAw5 : V := (.d (.bool false))
theorem hAw5 : chkM tab Aw4 (nat_lit 60) (nat_lit 77) aAw5 vAw5 = true := by kernel_rfl
def Aw5 : MemoX := memoC (nat_lit 77) aAw5 vAw5 Aw4
theorem Aw5_ok : MemoOk Try.prog Aw5 := memoC_ok (chkM_sound tab_ok Aw4_ok hAw5) Aw4_ok
def aAw6 : List V := [(.agg [(.d (.int .i64 (.ofNat (nat_lit 2)))), (.d (.sl true (nat_lit 2) [(.int .i64 (.ofNat (nat_lit 10))), (.int .i64 (.ofNat (nat_lit 0)))])), (.d .nils), (.d (.sl true (nat_lit 1) [(.int .i64 (.ofNat (nat_lit 3))), (.int .i64 (.ofNat (nat_lit 4))), (.int .i64 (.ofNat (nat_lit 5)))])), (.d (.sl true (nat_lit 1) [(.int .i64 (.ofNat (nat_lit 4))), (.int .i64 (.ofNat (nat_lit 3))), (.int .i64 (.ofNat (nat_lit 2)))])), (.d (.sl true (nat_lit 1) [(.int .i64 (.ofNat (nat_lit 5))), (.int .i64 (.ofNat (nat_lit 6)))]))])]
def vAw6 : V := (.d (.bool true))
theorem hAw6 : chkM tab Aw5 (nat_lit 60) (nat_lit 77) aAw6 vAw6 = true := by kernel_rfl
def Aw6 : MemoX := memoC (nat_lit 77) aAw6 vAw6 Aw5
theorem Aw6_ok : MemoOk Try.prog Aw6 := memoC_ok (chkM_sound tab_ok Aw5_ok hAw6) Aw5_ok
def aAw7 : List V := []
def vAw7 : V := (.d (.bool true))
theorem hAw7 : chkM tab Aw6 (nat_lit 60) (nat_lit 18) aAw7 vAw7 = true := by kernel_rfl
def Aw7 : MemoX := memoC (nat_lit 18) aAw7 vAw7 Aw6
theorem Aw7_ok : MemoOk Try.prog Aw7 := memoC_ok (chkM_sound tab_ok Aw6_ok hAw7) Aw6_ok
end
end Go.Proofs.Ytdnefcjbcieecaa
namespace Go.Proofs.Ytdnefcjbcieecaa
open Go Go.Proofs
noncomputable section
theorem q21 : FunIs Try.prog 21 G21 c21 r21 := ⟨Try.f21, Try.func21, k21, e21, by kernel_rfl, by kernel_rfl⟩
theorem q22 : FunIs Try.prog 22 G22 c22 r22 := ⟨Try.f22, Try.func22, k22, e22, by kernel_rfl, by kernel_rfl⟩
theorem y18 : Yields Try.prog 18 [] (vb true) := Aw7_ok 18 [] (vb true) (by kernel_rfl)
def ent18 : Ent := fun args _ => match args with
  | [] => some (True, vb true, none)
  | _ => none
theorem ent18_ok : EntOk Try.prog 18 ent18 := by
  intro args h p v h' he hp
  unfold ent18 at he
  split at he
  · cases he; exact y18 h
  · cases he
def ent17 := entCU (fun _ _ => True) (fun c t => vb (thin c t))
theorem ent17_ok : EntOk Try.prog 17 ent17 := entCU_ok fun c t _ => y17 c t
def small (c : Cmp) : Prop := c.held.length ≤ 1000000 ∧ c.trades.length ≤ 1000000 ∧ c.divs.length ≤ 1000000 ∧ c.splits.length ≤ 1000000 ∧ c.closed.length ≤ 1000000
def ent20 := entC small (fun c => Cv c)
theorem ent20_ok : EntOk Try.prog 20 ent20 := entC_ok fun c h => y20 c h.1 h.2.1 h.2.2.1 h.2.2.2.1 h.2.2.2.2
def ent51 := entCU (fun _ _ => True) (fun c t => vb (askE c t == 0))
theorem ent51_ok : EntOk Try.prog 51 ent51 := entCU_ok fun c t _ => y51 c t
def ent44 := entCU (fun c _ => faultM c = 0) (fun c t => vb (truthB c t))
theorem ent44_ok : EntOk Try.prog 44 ent44 := entCU_ok fun c t h => y44 c t h
def tab19 : Spec := (spAdd 51 ent51 (spAdd 44 ent44 (spAdd 20 ent20 (spAdd 18 ent18 (spAdd 17 ent17 tab18)))))
theorem tab19_ok : SpOk Try.prog tab19 := (spAdd_ok ent51_ok (spAdd_ok ent44_ok (spAdd_ok ent20_ok (spAdd_ok ent18_ok (spAdd_ok ent17_ok tab18_ok)))))
def X19 : Sx := mkX tab19
theorem X19_ok : SpOk Try.prog X19.sp := tab19_ok
theorem w21 (t : Tru) (h1 : t.sold.length ≤ 1000000) (h2 : t.deliv.length ≤ 1000000) : sx X19 c21 [] (doneF 0 r21) (envOf [Uv t]) [] [] =
    Tr.need (okL eI (1 : Nat) gI (List.length (Tru.sold t)) (enc eI (Tru.sold t)) ∧ List.length (Tru.sold t) ≤ (1000000 : Nat)) (Tr.need (okL eI (1 : Nat) gI (List.length (Tru.deliv t)) (enc eI (Tru.deliv t)) ∧ List.length (Tru.deliv t) ≤ (1000000 : Nat)) (Tr.done (Uv t) [])) := by kernel_rfl
theorem y21 (t : Tru) (h1 : t.sold.length ≤ 1000000) (h2 : t.deliv.length ≤ 1000000) : Yields Try.prog 21 [Uv t] (Uv t) := by
  refine q21.yields X19_ok rfl rfl rfl (w21 t h1 h2) ?_
  simp only [holds]
  simp only [okL_I]
  exact ⟨⟨by omega, h1⟩, ⟨by omega, h2⟩, .refl _⟩
theorem w22 (c : Cmp) (t : Tru) (hl : c.trades.length ≤ 1000000) : sx X19 c22 [] (doneF 0 r22) (envOf [Cv c, Uv t]) [] [] =
    Tr.need (Cv (dCe c) = Cv c ∧ True) (Tr.br (faultM (dCe c) != (0 : Int)) (Tr.done (V.d (D.int IntKind.i64 (faultM (dCe c)))) []) (Tr.need (Cv (dCe c) = Cv c ∧ Uv (dUe t) = Uv t ∧ List.length (Cmp.trades (dCe c)) ≤ (1000000 : Nat)) (Tr.br (!datedB (dCe c) (dUe t)) (Tr.done (V.d (D.int IntKind.i64 (2 : Int))) []) (Tr.need (Cv (dCe c) = Cv c ∧ Uv (dUe t) = Uv t ∧ faultM (dCe c) = (0 : Int)) (Tr.br (!truthB (dCe c) (dUe t)) (Tr.done (V.d (D.int IntKind.i64 (11 : Int))) []) (Tr.done (V.d (D.int IntKind.i64 (0 : Int))) [])))))) := by kernel_rfl
theorem y22 (c : Cmp) (t : Tru) (hl : c.trades.length ≤ 1000000) : Yields Try.prog 22 [Cv c, Uv t] (vi (askE c t)) := by
  refine q22.yields X19_ok rfl rfl rfl (w22 c t hl) ?_
  simp only [holds]
  simp only [dCe, dC_enc, dUe, dU_enc, true_and]
  refine ⟨fun g1 => ?_, fun g1 => ⟨hl, fun g2 => ?_, fun g2 => ⟨by simpa using g1, fun g3 => ?_, fun g3 => ?_⟩⟩⟩
  · refine .of_eq (congrArg vi ?_)
    have g1 : faultM c ≠ 0 := by simpa using g1
    simp [askE, g1]
  · refine .of_eq (congrArg vi ?_)
    have g1 : faultM c = 0 := by simpa using g1
    have g2 : datedB c t = false := by simpa using g2
    simp [askE, g1, g2]
  · refine .of_eq (congrArg vi ?_)
    have g1 : faultM c = 0 := by simpa using g1
    have g2 : datedB c t = true := by simpa using g2
    have g3 : fitsB c t = false := by simpa [truthB, g2] using g3
    simp [askE, g1, g2, g3]
  · refine .of_eq (congrArg vi ?_)
    have g1 : faultM c = 0 := by simpa using g1
    have g2 : datedB c t = true := by simpa using g2
    have g3 : fitsB c t = true := by simpa [truthB, g2] using g3
    simp [askE, g1, g2, g3]
def entU (q : Tru → Prop) (m : Tru → V) : Ent := fun args _ => match args with
  | [x] => match asU x with
    | some t => some (Uv t = x ∧ q t, m t, none)
    | none => none
  | _ => none
theorem entU_ok {P : Program} {f : Nat} {q : Tru → Prop} {m : Tru → V} (hy : ∀ t, q t → Yields P f [Uv t] (m t)) : EntOk P f (entU q m) := by
  intro args h p v h' he hp
  unfold entU at he
  split at he
  · split at he
    · cases he; rw [← hp.1]; exact hy _ hp.2 h
    · cases he
  · cases he
def ent21 := entU (fun t => t.sold.length ≤ 1000000 ∧ t.deliv.length ≤ 1000000) (fun t => Uv t)
theorem ent21_ok : EntOk Try.prog 21 ent21 := entU_ok fun t h => y21 t h.1 h.2
def ent22 := entCU (fun c _ => c.trades.length ≤ 1000000) (fun c t => vi (askE c t))
theorem ent22_ok : EntOk Try.prog 22 ent22 := entCU_ok fun c t h => y22 c t h
def tab20 : Spec := (spAdd 22 ent22 (spAdd 21 ent21 tab19))
theorem tab20_ok : SpOk Try.prog tab20 := (spAdd_ok ent22_ok (spAdd_ok ent21_ok tab19_ok))
theorem thin_len {c : Cmp} {t : Tru} (h : thin c t = true) : c.held.length ≤ 7 ∧ c.trades.length ≤ 7 ∧ c.divs.length ≤ 7 ∧ c.splits.length ≤ 7 ∧ c.closed.length ≤ 7 ∧ t.sold.length ≤ 7 ∧ t.deliv.length ≤ 7 := of_decide_eq_true h
theorem thin_small {c : Cmp} {t : Tru} (h : thin c t = true) : small c := by
  have := thin_len h
  unfold small; omega
end
end Go.Proofs.Ytdnefcjbcieecaa
namespace Go.Proofs.Ytdnefcjbcieecaa
open Go Go.Proofs
noncomputable section
theorem sl4 (f : Nat → Int) (n : Nat) (hn : n ≤ 4) : List.take ((Int.toNat (n : Int) - Int.toNat 0) * 1) (List.drop (0 + Int.toNat 0 * 1) [D.int IntKind.i64 (f 0), D.int IntKind.i64 (f 1), D.int IntKind.i64 (f 2), D.int IntKind.i64 (f 3)]) = enc eI ((List.range n).map f) := by
  match n, hn with
  | 0, _ => rfl
  | 1, _ => rfl
  | 2, _ => rfl
  | 3, _ => rfl
  | 4, _ => rfl
theorem askE_ok {c : Cmp} {t : Tru} (h : askE c t = 0) : faultM c = 0 ∧ datedB c t = true ∧ fitsB c t = true := by
  unfold askE at h
  split at h
  · rename_i h1; exact (h1 h).elim
  · rename_i h1
    split at h
    · cases h
    · rename_i h2
      split at h
      · cases h
      · rename_i h3
        exact ⟨Classical.not_not.1 h1, by simpa using h2, by simpa using h3⟩
theorem refH_in {c : Cmp} (hf : faultM c = 0) (t : Tru) (d : Int) : ∀ n ∈ refH c t d, -1000000000 ≤ n ∧ n ≤ 1000000000 := by
  intro n hn
  simp only [refH, refK, List.mem_map, List.mem_range] at hn
  obtain ⟨i, _, rfl⟩ := hn
  have h1 := heldT_in hf t d c.trades.length (Nat.le_refl _) i
  have h2 := (fault_ok hf).1.2.2.2.1
  have e : heldF c t d i = heldT c t d c.trades.length i := rfl
  rw [e]; omega
end
end Go.Proofs.Ytdnefcjbcieecaa
namespace Go.Proofs.Ytdnefcjbcieecaa
open Go Go.Proofs
noncomputable section
theorem q64 : FunIs Try.prog 64 G64 c64 r64 := ⟨Try.f64, Try.func64, k64, e64, by kernel_rfl, by kernel_rfl⟩
theorem q66 : FunIs Try.prog 66 G66 c66 r66 := ⟨Try.f66, Try.func66, k66, e66, by kernel_rfl, by kernel_rfl⟩
theorem q67 : FunIs Try.prog 67 G67 c67 r67 := ⟨Try.f67, Try.func67, k67, e67, by kernel_rfl, by kernel_rfl⟩
def Dds (d : Dvd) : List D := [.int .i64 d.ex, .int .i64 d.record, .int .i64 d.pence]
theorem w64 (c : Cmp) (t : Tru) (d : Dvd) (km : List (Int × Int × Int)) : sx X18 c64 [] (doneK r64) (envOf [.ptr 1 0 0, Uv t, Dv d]) [] (Wk c km []) =
    let x1_ := [D.int IntKind.i64 (heldF (dCe c) (dUe t) (Dvd.record d) (0 : Nat)), D.int IntKind.i64 (heldF (dCe c) (dUe t) (Dvd.record d) (1 : Nat)), D.int IntKind.i64 (heldF (dCe c) (dUe t) (Dvd.record d) (2 : Nat)), D.int IntKind.i64 (heldF (dCe c) (dUe t) (Dvd.record d) (3 : Nat))]
    let x2_ := (Int.toNat (Cmp.houses c) - Int.toNat (0 : Int))
    Tr.need (Wk c km [] = Wk (dCe c) (dK (List.map entE km)) [] ∧ Uv (dUe t) = Uv t ∧ faultM (dCe c) = (0 : Int) ∧ List.length (Tru.sold (dUe t)) = List.length (Cmp.trades (dCe c)) ∧ List.length (Tru.deliv (dUe t)) = List.length (Cmp.trades (dCe c)) ∧ kmOk (dCe c) (dK (List.map entE km))) (Tr.need ((0 : Int) ≤ (0 : Int) ∧ (0 : Int) ≤ Cmp.houses c ∧ Cmp.houses c ≤ Int.ofNat (4) ∧ (0 : Nat) + (4 : Nat) * (1 : Nat) ≤ List.length x1_) (Tr.lp (CCode.at c64 [(1 : Nat), (1 : Nat), (0 : Nat), (1 : Nat), (0 : Nat), (0 : Nat)]) [Fr.blk (0), Fr.seq (CCode.at c64 [(1 : Nat), (1 : Nat), (1 : Nat)])] [(5, V.rptr [D.int IntKind.i64 (Dvd.ex d), D.int IntKind.i64 (Dvd.record d), D.int IntKind.i64 (Dvd.pence d)] (0)), (6, V.d D.nils), (20, V.d (D.sl false x2_ (List.take (x2_ * (1 : Nat)) (List.drop ((0 : Nat) + Int.toNat (0 : Int) * (1 : Nat)) x1_)))), (21, V.d (D.int IntKind.i64 (Int.ofNat x2_))), (22, V.d (D.int IntKind.i64 (0 : Int)))] [some (Blk.map (List.map entE (kmT (dCe c) (dUe t) (Dvd.record d) (dK (List.map entE km)) (List.length (Cmp.trades (dCe c)))))), some (Blk.box [V.d (D.int IntKind.i64 (Cmp.houses c)), V.d (D.sl false (List.length (Cmp.held c)) (enc eI (Cmp.held c))), V.d (D.sl false (List.length (Cmp.trades c)) (enc eT (Cmp.trades c))), V.d (D.sl false (List.length (Cmp.divs c)) (enc eV (Cmp.divs c))), V.d (D.sl false (List.length (Cmp.splits c)) (enc eS (Cmp.splits c))), V.d (D.sl false (List.length (Cmp.closed c)) (enc eR (Cmp.closed c))), V.mp (0)]), none])) := by kernel_rfl
def E64 (d : Dvd) (l a : List Int) (k : Nat) : Env := [(5, .rptr (Dds d) 0), (6, .own 3 a.length a.length), (20, vsl eI l), (21, vi l.length), (22, vi k)]
def H64 (x y : Option Blk) (a : List Int) : Heap := [x, y, none, some (.row 3 1 a.length (enc eI a))]
theorem b64 (d : Dvd) (l a : List Int) (k : Nat) (x y : Option Blk) : sx X18 (CCode.at c64 [1,1,0,1,0,0]) [] leafK (E64 d l a k) [] (H64 x y a) =
    let x1_ := (decide (Int.ofNat k < Int.ofNat (List.length l)))
    let x2_ := [D.int IntKind.i64 (Dvd.pence d * cI (enc eI l) (1 : Nat) (Int.ofNat k) (0 : Nat))]
    let x3_ := (List.length a + (1 : Nat))
    let x4_ := (Nat.add (List.length a) (1 : Nat))
    Tr.br x1_ (Tr.need ((0 : Int) ≤ Int.ofNat k ∧ Int.ofNat k < Int.ofNat (List.length l) ∧ okEl [0] (enc eI l) (1 : Nat) (Int.ofNat k)) (Tr.need ((-9223372036854775808 : Int) ≤ Dvd.pence d * cI (enc eI l) (1 : Nat) (Int.ofNat k) (0 : Nat) ∧ Dvd.pence d * cI (enc eI l) (1 : Nat) (Int.ofNat k) (0 : Nat) ≤ (9223372036854775807 : Int)) (Tr.need (List.length a = List.length a ∧ (3 : Nat) = (3 : Nat) ∧ (1 : Nat) = (1 : Nat) ∧ List.length (enc eI a) = List.length a * (1 : Nat) ∧ List.length x2_ = (1 : Nat) * (1 : Nat) ∧ List.length a + (1 : Nat) ≤ (140737488355328 : Nat) ∧ x3_ * (8 : Nat) ≤ (140737488355328 : Nat)) (Tr.need ((-9223372036854775808 : Int) ≤ Int.ofNat k + (1 : Int) ∧ Int.ofNat k + (1 : Int) ≤ (9223372036854775807 : Int)) (Tr.leaf CExit.normal [(5, V.rptr [D.int IntKind.i64 (Dvd.ex d), D.int IntKind.i64 (Dvd.record d), D.int IntKind.i64 (Dvd.pence d)] (0)), (6, V.own (3) x4_ x3_), (20, V.d (D.sl false (List.length l) (enc eI l))), (21, V.d (D.int IntKind.i64 (Int.ofNat (List.length l)))), (22, V.d (D.int IntKind.i64 (Int.ofNat k + (1 : Int))))] [x, y, none, some (Blk.row (3) (1) x4_ (enc eI a ++ x2_))]))))) (Tr.leaf (CExit.exit (0)) [(5, V.rptr [D.int IntKind.i64 (Dvd.ex d), D.int IntKind.i64 (Dvd.record d), D.int IntKind.i64 (Dvd.pence d)] (0)), (6, V.own (3) (List.length a) (List.length a)), (20, V.d (D.sl false (List.length l) (enc eI l))), (21, V.d (D.int IntKind.i64 (Int.ofNat (List.length l)))), (22, V.d (D.int IntKind.i64 (Int.ofNat k))), (23, V.d (D.bool x1_))] [x, y, none, some (Blk.row (3) (1) (List.length a) (enc eI a))]) := by kernel_rfl
theorem x64 (u v w z q : V) (a : List Int) (x y : Option Blk) : sS X18 (doneK r64) [Fr.blk 0, Fr.seq (CCode.at c64 [1,1,1])] (.exit 0) [(5, u), (6, .own 3 a.length a.length), (20, v), (21, w), (22, z), (23, q)] [] (H64 x y a) =
    Tr.done (V.own (3) (List.length a) (List.length a)) [x, y, none, some (Blk.row (3) (1) (List.length a) (enc eI a))] := by kernel_rfl
theorem w66 (c : Cmp) (t : Tru) (d : Dvd) (km : List (Int × Int × Int)) : sx X18 c66 [] (doneK r66) (envOf [.ptr 1 0 0, Uv t, Dv d]) [] (Wk c km []) =
    Tr.lp (CCode.at c66 [(1 : Nat), (0 : Nat), (1 : Nat), (0 : Nat), (0 : Nat)]) [Fr.blk (0), Fr.seq (CCode.at c66 [(1 : Nat), (1 : Nat)])] [(0, V.ptr (1) (0) (0)), (4, V.rptr (Uds t) (0)), (5, V.rptr [D.int IntKind.i64 (Dvd.ex d), D.int IntKind.i64 (Dvd.record d), D.int IntKind.i64 (Dvd.pence d)] (0)), (6, V.d D.nils), (17, V.d (D.sl false (List.length (Cmp.trades c)) (enc eT (Cmp.trades c)))), (18, V.d (D.int IntKind.i64 (Int.ofNat (List.length (Cmp.trades c))))), (19, V.d (D.int IntKind.i64 (0 : Int)))] [some (Blk.map (List.map entE km)), some (Blk.box [V.d (D.int IntKind.i64 (Cmp.houses c)), V.d (D.sl false (List.length (Cmp.held c)) (enc eI (Cmp.held c))), V.d (D.sl false (List.length (Cmp.trades c)) (enc eT (Cmp.trades c))), V.d (D.sl false (List.length (Cmp.divs c)) (enc eV (Cmp.divs c))), V.d (D.sl false (List.length (Cmp.splits c)) (enc eS (Cmp.splits c))), V.d (D.sl false (List.length (Cmp.closed c)) (enc eR (Cmp.closed c))), V.mp (0)])] := by kernel_rfl
def E66 (c : Cmp) (t : Tru) (d : Dvd) (a : List Int) (k : Nat) : Env := [(0, .ptr 1 0 0), (4, .rptr (Uds t) 0), (5, .rptr (Dds d) 0), (6, .own 2 a.length a.length), (17, .d (dsl eT c.trades)), (18, vi c.trades.length), (19, vi k)]
theorem b66 (c : Cmp) (t : Tru) (d : Dvd) (a : List Int) (k : Nat) (km : List (Int × Int × Int)) : sx X18 (CCode.at c66 [1,0,1,0,0]) [] leafK (E66 c t d a k) [] (Wk c km [some (.row 3 1 a.length (enc eI a))]) =
    let x1_ := (List.length (Cmp.trades c))
    let x2_ := (decide (Int.ofNat k < Int.ofNat x1_))
    let x3_ := ((0 : Int) ≤ Int.ofNat k ∧ Int.ofNat k < Int.ofNat (List.length (Tru.sold t)) ∧ okEl [0] (enc eI (Tru.sold t)) (1 : Nat) (Int.ofNat k))
    let x4_ := (cI (enc eI (Tru.deliv t)) (1 : Nat) (Int.ofNat k) (0 : Nat))
    let x5_ := (cI (enc eI (Tru.sold t)) (1 : Nat) (Int.ofNat k) (0 : Nat) < Dvd.ex d)
    let x6_ := (Blk.map (List.map entE km))
    let x7_ := (D.sl false x1_ (enc eT (Cmp.trades c)))
    let x8_ := (Blk.box [V.d (D.int IntKind.i64 (Cmp.houses c)), V.d (D.sl false (List.length (Cmp.held c)) (enc eI (Cmp.held c))), V.d x7_, V.d (D.sl false (List.length (Cmp.divs c)) (enc eV (Cmp.divs c))), V.d (D.sl false (List.length (Cmp.splits c)) (enc eS (Cmp.splits c))), V.d (D.sl false (List.length (Cmp.closed c)) (enc eR (Cmp.closed c))), V.mp (0)])
    let x9_ := (Blk.row (3) (1) (List.length a) (enc eI a))
    let x10_ := (Blk.box [V.d (D.int IntKind.i64 (cI (enc eT (Cmp.trades c)) (7 : Nat) (Int.ofNat k) (0 : Nat))), V.d (D.int IntKind.i64 (cI (enc eT (Cmp.trades c)) (7 : Nat) (Int.ofNat k) (1))), V.d (D.int IntKind.i64 (cI (enc eT (Cmp.trades c)) (7 : Nat) (Int.ofNat k) (2))), V.d (D.int IntKind.i64 (cI (enc eT (Cmp.trades c)) (7 : Nat) (Int.ofNat k) (3))), V.d (D.int IntKind.i64 (cI (enc eT (Cmp.trades c)) (7 : Nat) (Int.ofNat k) (4))), V.d (D.int IntKind.i64 (cI (enc eT (Cmp.trades c)) (7 : Nat) (Int.ofNat k) (5))), V.d (D.int IntKind.i64 (cI (enc eT (Cmp.trades c)) (7 : Nat) (Int.ofNat k) (6)))])
    let x11_ := [some x6_, some x8_, some x9_, some x10_]
    let x12_ := (x11_ = Wk (dCe c) (dK (List.map entE km)) [some (Blk.row (3 : Nat) (1 : Nat) (List.length a) (enc eI a)), some x10_] ∧ (-1000 : Int) ≤ cI (enc eT (Cmp.trades c)) (7 : Nat) (Int.ofNat k) (2) ∧ cI (enc eT (Cmp.trades c)) (7 : Nat) (Int.ofNat k) (2) ≤ (1000 : Int) ∧ okSs (-1 : Int) (Cmp.splits (dCe c)) = true ∧ List.length (Cmp.splits (dCe c)) ≤ (2 : Nat) ∧ kmOk (dCe c) (dK (List.map entE km)))
    let x13_ := (cI (enc eI (Tru.sold t)) (1 : Nat) (Int.ofNat k) (0 : Nat))
    let x14_ := (updK (dCe c) (dK (List.map entE km)) x13_ (Dvd.record d))
    let x15_ := (HLe x11_ (putW x11_ x14_))
    let x16_ := (cI (enc eT (Cmp.trades c)) (7 : Nat) (Int.ofNat k) (2) * facM (Cmp.splits (dCe c)) x13_ (Dvd.record d))
    let x17_ := [D.int IntKind.i64 (Dvd.pence d * x16_)]
    let x18_ := (List.length a + (1 : Nat))
    let x19_ := ((-9223372036854775808 : Int) ≤ Int.ofNat k + (1 : Int) ∧ Int.ofNat k + (1 : Int) ≤ (9223372036854775807 : Int))
    let x20_ := (Nat.add (List.length a) (1 : Nat))
    let x21_ := (Blk.map (List.map entE x14_))
    let x22_ := [D.int IntKind.i64 (0 : Int)]
    let x23_ := (Dvd.record d < regM (Cmp.closed (dCe c)) x4_)
    let x24_ := ((0 : Int) - Dvd.pence d)
    let x25_ := [D.int IntKind.i64 (x24_ * x16_)]
    Tr.br x2_ (Tr.need ((0 : Int) ≤ Int.ofNat k ∧ Int.ofNat k < Int.ofNat x1_ ∧ okEl [0, 0, 0, 0, 0, 0, 0] (enc eT (Cmp.trades c)) (7 : Nat) (Int.ofNat k)) (Tr.need ((0 : Int) ≤ Int.ofNat k ∧ Int.ofNat k < Int.ofNat (List.length (Tru.deliv t)) ∧ okEl [0] (enc eI (Tru.deliv t)) (1 : Nat) (Int.ofNat k)) (Tr.need (Cv (dCe c) = Cv c ∧ List.length (Cmp.closed (dCe c)) ≤ (140737488355328 : Nat)) (Tr.need x3_ (Tr.br (regM (Cmp.closed (dCe c)) x4_ == (-1 : Int)) (Tr.br (decide x5_) (Tr.need x3_ (Tr.need x12_ (Tr.need x15_ (Tr.need ((-9223372036854775808 : Int) ≤ Dvd.pence d * x16_ ∧ Dvd.pence d * x16_ ≤ (9223372036854775807 : Int)) (Tr.need (List.length a = List.length a ∧ (3 : Nat) = (3 : Nat) ∧ (1 : Nat) = (1 : Nat) ∧ List.length (enc eI a) = List.length a * (1 : Nat) ∧ List.length x17_ = (1 : Nat) * (1 : Nat) ∧ List.length a + (1 : Nat) ≤ (140737488355328 : Nat) ∧ x18_ * (8 : Nat) ≤ (140737488355328 : Nat)) (Tr.need x19_ (Tr.leaf CExit.normal [(0, V.ptr (1) (0) (0)), (4, V.rptr (Uds t) (0)), (5, V.rptr [D.int IntKind.i64 (Dvd.ex d), D.int IntKind.i64 (Dvd.record d), D.int IntKind.i64 (Dvd.pence d)] (0)), (6, V.own (2) x20_ x18_), (17, V.d x7_), (18, V.d (D.int IntKind.i64 (Int.ofNat x1_))), (19, V.d (D.int IntKind.i64 (Int.ofNat k + (1 : Int))))] [some x21_, some x8_, some (Blk.row (3) (1) x20_ (enc eI a ++ x17_)), some x10_]))))))) (Tr.br (!decide x5_) (Tr.need (List.length a = List.length a ∧ (3 : Nat) = (3 : Nat) ∧ (1 : Nat) = (1 : Nat) ∧ List.length (enc eI a) = List.length a * (1 : Nat) ∧ List.length x22_ = (1 : Nat) * (1 : Nat) ∧ List.length a + (1 : Nat) ≤ (140737488355328 : Nat) ∧ x18_ * (8 : Nat) ≤ (140737488355328 : Nat)) (Tr.need x19_ (Tr.leaf CExit.normal [(0, V.ptr (1) (0) (0)), (4, V.rptr (Uds t) (0)), (5, V.rptr [D.int IntKind.i64 (Dvd.ex d), D.int IntKind.i64 (Dvd.record d), D.int IntKind.i64 (Dvd.pence d)] (0)), (6, V.own (2) x20_ x18_), (17, V.d x7_), (18, V.d (D.int IntKind.i64 (Int.ofNat x1_))), (19, V.d (D.int IntKind.i64 (Int.ofNat k + (1 : Int))))] [some x6_, some x8_, some (Blk.row (3) (1) x20_ (enc eI a ++ x22_)), some x10_]))) (Tr.need (List.length a = List.length a ∧ (3 : Nat) = (3 : Nat) ∧ (1 : Nat) = (1 : Nat) ∧ List.length (enc eI a) = List.length a * (1 : Nat) ∧ List.length x22_ = (1 : Nat) * (1 : Nat) ∧ List.length a + (1 : Nat) ≤ (140737488355328 : Nat) ∧ x18_ * (8 : Nat) ≤ (140737488355328 : Nat)) (Tr.need x19_ (Tr.leaf CExit.normal [(0, V.ptr (1) (0) (0)), (4, V.rptr (Uds t) (0)), (5, V.rptr [D.int IntKind.i64 (Dvd.ex d), D.int IntKind.i64 (Dvd.record d), D.int IntKind.i64 (Dvd.pence d)] (0)), (6, V.own (2) x20_ x18_), (17, V.d x7_), (18, V.d (D.int IntKind.i64 (Int.ofNat x1_))), (19, V.d (D.int IntKind.i64 (Int.ofNat k + (1 : Int))))] [some x6_, some x8_, some (Blk.row (3) (1) x20_ (enc eI a ++ x22_)), some x10_]))))) (Tr.br (decide x5_) (Tr.br (decide x23_) (Tr.need x3_ (Tr.need x12_ (Tr.need x15_ (Tr.need ((-9223372036854775808 : Int) ≤ Dvd.pence d * x16_ ∧ Dvd.pence d * x16_ ≤ (9223372036854775807 : Int)) (Tr.need (List.length a = List.length a ∧ (3 : Nat) = (3 : Nat) ∧ (1 : Nat) = (1 : Nat) ∧ List.length (enc eI a) = List.length a * (1 : Nat) ∧ List.length x17_ = (1 : Nat) * (1 : Nat) ∧ List.length a + (1 : Nat) ≤ (140737488355328 : Nat) ∧ x18_ * (8 : Nat) ≤ (140737488355328 : Nat)) (Tr.need x19_ (Tr.leaf CExit.normal [(0, V.ptr (1) (0) (0)), (4, V.rptr (Uds t) (0)), (5, V.rptr [D.int IntKind.i64 (Dvd.ex d), D.int IntKind.i64 (Dvd.record d), D.int IntKind.i64 (Dvd.pence d)] (0)), (6, V.own (2) x20_ x18_), (17, V.d x7_), (18, V.d (D.int IntKind.i64 (Int.ofNat x1_))), (19, V.d (D.int IntKind.i64 (Int.ofNat k + (1 : Int))))] [some x21_, some x8_, some (Blk.row (3) (1) x20_ (enc eI a ++ x17_)), some x10_]))))))) (Tr.br (!decide x5_) (Tr.br (!decide x23_) (Tr.need (DP.P (dp ((-9223372036854775808 : Int) ≤ (0 : Int) - Dvd.pence d ∧ (0 : Int) - Dvd.pence d ≤ (9223372036854775807 : Int)))) (Tr.need x3_ (Tr.need x12_ (Tr.need x15_ (Tr.need ((-9223372036854775808 : Int) ≤ x24_ * x16_ ∧ x24_ * x16_ ≤ (9223372036854775807 : Int)) (Tr.need (List.length a = List.length a ∧ (3 : Nat) = (3 : Nat) ∧ (1 : Nat) = (1 : Nat) ∧ List.length (enc eI a) = List.length a * (1 : Nat) ∧ List.length x25_ = (1 : Nat) * (1 : Nat) ∧ List.length a + (1 : Nat) ≤ (140737488355328 : Nat) ∧ x18_ * (8 : Nat) ≤ (140737488355328 : Nat)) (Tr.need x19_ (Tr.leaf CExit.normal [(0, V.ptr (1) (0) (0)), (4, V.rptr (Uds t) (0)), (5, V.rptr [D.int IntKind.i64 (Dvd.ex d), D.int IntKind.i64 (Dvd.record d), D.int IntKind.i64 (Dvd.pence d)] (0)), (6, V.own (2) x20_ x18_), (17, V.d x7_), (18, V.d (D.int IntKind.i64 (Int.ofNat x1_))), (19, V.d (D.int IntKind.i64 (Int.ofNat k + (1 : Int))))] [some x21_, some x8_, some (Blk.row (3) (1) x20_ (enc eI a ++ x25_)), some x10_])))))))) (Tr.need (List.length a = List.length a ∧ (3 : Nat) = (3 : Nat) ∧ (1 : Nat) = (1 : Nat) ∧ List.length (enc eI a) = List.length a * (1 : Nat) ∧ List.length x22_ = (1 : Nat) * (1 : Nat) ∧ List.length a + (1 : Nat) ≤ (140737488355328 : Nat) ∧ x18_ * (8 : Nat) ≤ (140737488355328 : Nat)) (Tr.need x19_ (Tr.leaf CExit.normal [(0, V.ptr (1) (0) (0)), (4, V.rptr (Uds t) (0)), (5, V.rptr [D.int IntKind.i64 (Dvd.ex d), D.int IntKind.i64 (Dvd.record d), D.int IntKind.i64 (Dvd.pence d)] (0)), (6, V.own (2) x20_ x18_), (17, V.d x7_), (18, V.d (D.int IntKind.i64 (Int.ofNat x1_))), (19, V.d (D.int IntKind.i64 (Int.ofNat k + (1 : Int))))] [some x6_, some x8_, some (Blk.row (3) (1) x20_ (enc eI a ++ x22_)), some x10_])))) (Tr.need (List.length a = List.length a ∧ (3 : Nat) = (3 : Nat) ∧ (1 : Nat) = (1 : Nat) ∧ List.length (enc eI a) = List.length a * (1 : Nat) ∧ List.length x22_ = (1 : Nat) * (1 : Nat) ∧ List.length a + (1 : Nat) ≤ (140737488355328 : Nat) ∧ x18_ * (8 : Nat) ≤ (140737488355328 : Nat)) (Tr.need x19_ (Tr.leaf CExit.normal [(0, V.ptr (1) (0) (0)), (4, V.rptr (Uds t) (0)), (5, V.rptr [D.int IntKind.i64 (Dvd.ex d), D.int IntKind.i64 (Dvd.record d), D.int IntKind.i64 (Dvd.pence d)] (0)), (6, V.own (2) x20_ x18_), (17, V.d x7_), (18, V.d (D.int IntKind.i64 (Int.ofNat x1_))), (19, V.d (D.int IntKind.i64 (Int.ofNat k + (1 : Int))))] [some x6_, some x8_, some (Blk.row (3) (1) x20_ (enc eI a ++ x22_)), some x10_]))))) (Tr.br (!decide x5_) (Tr.br (!decide x23_) (Tr.need (DP.P (dp ((-9223372036854775808 : Int) ≤ (0 : Int) - Dvd.pence d ∧ (0 : Int) - Dvd.pence d ≤ (9223372036854775807 : Int)))) (Tr.need x3_ (Tr.need x12_ (Tr.need x15_ (Tr.need ((-9223372036854775808 : Int) ≤ x24_ * x16_ ∧ x24_ * x16_ ≤ (9223372036854775807 : Int)) (Tr.need (List.length a = List.length a ∧ (3 : Nat) = (3 : Nat) ∧ (1 : Nat) = (1 : Nat) ∧ List.length (enc eI a) = List.length a * (1 : Nat) ∧ List.length x25_ = (1 : Nat) * (1 : Nat) ∧ List.length a + (1 : Nat) ≤ (140737488355328 : Nat) ∧ x18_ * (8 : Nat) ≤ (140737488355328 : Nat)) (Tr.need x19_ (Tr.leaf CExit.normal [(0, V.ptr (1) (0) (0)), (4, V.rptr (Uds t) (0)), (5, V.rptr [D.int IntKind.i64 (Dvd.ex d), D.int IntKind.i64 (Dvd.record d), D.int IntKind.i64 (Dvd.pence d)] (0)), (6, V.own (2) x20_ x18_), (17, V.d x7_), (18, V.d (D.int IntKind.i64 (Int.ofNat x1_))), (19, V.d (D.int IntKind.i64 (Int.ofNat k + (1 : Int))))] [some x21_, some x8_, some (Blk.row (3) (1) x20_ (enc eI a ++ x25_)), some x10_])))))))) (Tr.need (List.length a = List.length a ∧ (3 : Nat) = (3 : Nat) ∧ (1 : Nat) = (1 : Nat) ∧ List.length (enc eI a) = List.length a * (1 : Nat) ∧ List.length x22_ = (1 : Nat) * (1 : Nat) ∧ List.length a + (1 : Nat) ≤ (140737488355328 : Nat) ∧ x18_ * (8 : Nat) ≤ (140737488355328 : Nat)) (Tr.need x19_ (Tr.leaf CExit.normal [(0, V.ptr (1) (0) (0)), (4, V.rptr (Uds t) (0)), (5, V.rptr [D.int IntKind.i64 (Dvd.ex d), D.int IntKind.i64 (Dvd.record d), D.int IntKind.i64 (Dvd.pence d)] (0)), (6, V.own (2) x20_ x18_), (17, V.d x7_), (18, V.d (D.int IntKind.i64 (Int.ofNat x1_))), (19, V.d (D.int IntKind.i64 (Int.ofNat k + (1 : Int))))] [some x6_, some x8_, some (Blk.row (3) (1) x20_ (enc eI a ++ x22_)), some x10_])))) (Tr.need (List.length a = List.length a ∧ (3 : Nat) = (3 : Nat) ∧ (1 : Nat) = (1 : Nat) ∧ List.length (enc eI a) = List.length a * (1 : Nat) ∧ List.length x22_ = (1 : Nat) * (1 : Nat) ∧ List.length a + (1 : Nat) ≤ (140737488355328 : Nat) ∧ x18_ * (8 : Nat) ≤ (140737488355328 : Nat)) (Tr.need x19_ (Tr.leaf CExit.normal [(0, V.ptr (1) (0) (0)), (4, V.rptr (Uds t) (0)), (5, V.rptr [D.int IntKind.i64 (Dvd.ex d), D.int IntKind.i64 (Dvd.record d), D.int IntKind.i64 (Dvd.pence d)] (0)), (6, V.own (2) x20_ x18_), (17, V.d x7_), (18, V.d (D.int IntKind.i64 (Int.ofNat x1_))), (19, V.d (D.int IntKind.i64 (Int.ofNat k + (1 : Int))))] [some x6_, some x8_, some (Blk.row (3) (1) x20_ (enc eI a ++ x22_)), some x10_])))))))))) (Tr.leaf (CExit.exit (0)) [(0, V.ptr (1) (0) (0)), (4, V.rptr (Uds t) (0)), (5, V.rptr [D.int IntKind.i64 (Dvd.ex d), D.int IntKind.i64 (Dvd.record d), D.int IntKind.i64 (Dvd.pence d)] (0)), (6, V.own (2) (List.length a) (List.length a)), (17, V.d x7_), (18, V.d (D.int IntKind.i64 (Int.ofNat x1_))), (19, V.d (D.int IntKind.i64 (Int.ofNat k))), (20, V.d (D.bool x2_))] [some x6_, some x8_, some x9_]) := by kernel_rfl
theorem x66 (c : Cmp) (u v w z y q r : V) (a : List Int) (km : List (Int × Int × Int)) : sS X18 (doneK r66) [Fr.blk 0, Fr.seq (CCode.at c66 [1,1])] (.exit 0) [(0, u), (4, v), (5, w), (6, .own 2 a.length a.length), (17, z), (18, y), (19, q), (20, r)] [] (Wk c km [some (.row 3 1 a.length (enc eI a))]) =
    Tr.done (V.own (2) (List.length a) (List.length a)) [some (Blk.map (List.map entE km)), some (Blk.box [V.d (D.int IntKind.i64 (Cmp.houses c)), V.d (D.sl false (List.length (Cmp.held c)) (enc eI (Cmp.held c))), V.d (D.sl false (List.length (Cmp.trades c)) (enc eT (Cmp.trades c))), V.d (D.sl false (List.length (Cmp.divs c)) (enc eV (Cmp.divs c))), V.d (D.sl false (List.length (Cmp.splits c)) (enc eS (Cmp.splits c))), V.d (D.sl false (List.length (Cmp.closed c)) (enc eR (Cmp.closed c))), V.mp (0)]), some (Blk.row (3) (1) (List.length a) (enc eI a))] := by kernel_rfl
theorem div_in {d : Dvd} (h : okDv d = true) : 0 ≤ d.ex ∧ d.ex ≤ d.record ∧ d.record ≤ 11 ∧ 0 ≤ d.pence ∧ d.pence ≤ 50 := of_decide_eq_true h
theorem pence_in {p n : Int} (h0 : 0 ≤ p) (h1 : p ≤ 50) (h : -1000000000 ≤ n ∧ n ≤ 1000000000) : -50000000000 ≤ p * n ∧ p * n ≤ 50000000000 := by
  have e1 : p * n ≤ 50 * 1000000000 := by
    rcases Int.le_total 0 n with g | g
    · exact Int.mul_le_mul h1 h.2 g (by omega)
    · have : p * n ≤ 0 := Int.mul_nonpos_of_nonneg_of_nonpos h0 g
      omega
  have e2 : p * (-n) ≤ 50 * 1000000000 := by
    rcases Int.le_total 0 n with g | g
    · have : p * (-n) ≤ 0 := Int.mul_nonpos_of_nonneg_of_nonpos h0 (by omega)
      omega
    · exact Int.mul_le_mul h1 (by omega) (by omega) (by omega)
  rw [Int.mul_neg] at e2
  omega
def paidM (c : Cmp) (t : Tru) (d : Dvd) : List Int := (refH c t d.record).map (d.pence * ·)
theorem l64 (d : Dvd) (l : List Int) (x y : Option Blk) (hx : blkBel 4 x = true) (hy : blkBel 4 y = true) (hl : l.length ≤ 1000) (hd : okDv d = true) (hb : ∀ n ∈ l, -1000000000 ≤ n ∧ n ≤ 1000000000) (n : Nat) (R : V → Heap → Prop)
    (hR : R (.own 3 l.length l.length) (H64 x y (l.map (d.pence * ·)))) :
    lpS Try.prog G64 n (CCode.at c64 [1,1,0,1,0,0]) [Fr.blk 0, Fr.seq (CCode.at c64 [1,1,1])] (retQ r64 R) (E64 d l [] 0) (H64 x y []) := by
  have hdv := div_in hd
  refine lp_count X18_ok l.length (fun _ => True) (fun k => E64 d l ((l.take k).map (d.pence * ·)) k) (fun k => H64 x y ((l.take k).map (d.pence * ·))) rfl rfl trivial (fun k _ => ⟨rfl, rfl, ?_⟩) ?_
  · show (blkBel 4 x && (blkBel 4 y && true)) = true
    rw [hx, hy]; rfl
  intro k hk _ Q' hn he hr
  rw [b64]
  simp only [holds, Int.ofNat_eq_natCast, cI_I]
  refine ⟨fun g1 => ?_, fun g1 => ?_⟩
  · have hlt : k < l.length := by have := of_decide_eq_true g1; omega
    have hm := pence_in hdv.2.2.2.1 hdv.2.2.2.2 (hb _ (lat_mem hlt))
    have hn1 := fun J => hn J hlt trivial
    simp only [take_lat hlt, List.map_append, List.map_cons, List.map_nil, E64, H64, enc_append, enc_one, List.length_append, List.length_cons, List.length_nil] at hn1
    exact ⟨⟨by omega, by omega, ok_I (by simpa using hlt)⟩, ⟨by omega, by omega⟩, ⟨trivial, trivial, trivial, by simp, rfl, by simp; omega, by simp; omega⟩, ⟨by omega, by omega⟩, hn1 []⟩
  · have hge : k = l.length := by have := of_decide_eq_false g1; omega
    subst hge
    rw [List.take_length]
    refine he _ _ _ (ret_tree X18_ok (doneK_ok rfl) (x64 _ _ _ _ _ _ _ _) ?_)
    simp only [holds, List.length_map]
    have := hR
    simp only [H64, List.length_map] at this
    exact this
theorem a64 (c : Cmp) (t : Tru) (d : Dvd) (km : List (Int × Int × Int)) (hf : faultM c = 0) (hd : datedB c t = true) (hv : okDv d = true) (hkm : kmOk c km) :
    ACalls Try.prog 64 [.ptr 1 0 0, Uv t, Dv d] (Wk c km []) fun v h' => v = .own 3 (paidM c t d).length (paidM c t d).length ∧ h' = Wk c (kmT c t d.record km c.trades.length) [none, some (.row 3 1 (paidM c t d).length (enc eI (paidM c t d)))] := by
  obtain ⟨l1, l2⟩ := dated_len hd
  have hbs := (fault_ok hf).1
  refine q64.calls X18_ok (h := Wk c km []) rfl (w64 c t d km) ?_
  simp only [holds, dCe, dC_enc, dUe, dU_enc, dK_map, true_and]
  have e4 : List.take ((Int.toNat c.houses - Int.toNat 0) * 1) (List.drop (0 + Int.toNat 0 * 1) [D.int IntKind.i64 (heldF c t d.record 0), D.int IntKind.i64 (heldF c t d.record 1), D.int IntKind.i64 (heldF c t d.record 2), D.int IntKind.i64 (heldF c t d.record 3)]) = enc eI (refH c t d.record) := by
    rw [← hbs.2.2.1]
    exact sl4 _ _ (by omega)
  have e5 : Int.toNat c.houses - Int.toNat 0 = (refH c t d.record).length := by rw [refH_len]; omega
  refine ⟨⟨hf, l1, l2, hkm⟩, ⟨by omega, by omega, by show c.houses ≤ 4; omega, by simp⟩, ?_⟩
  rw [e4, e5]
  have hW := Wk_bel c (kmT c t d.record km c.trades.length) 4 (by decide)
  simp only [Wk, List.all_cons, List.all_nil, Bool.and_true, Bool.and_eq_true] at hW
  refine LoopP.state (StLe.ghostTmp (t := 6) 3 1 rfl) ?_
  refine l64 d (refH c t d.record) (some (Blk.map (List.map entE (kmT c t d.record km c.trades.length)))) (some (Blk.box (Wbox c))) hW.1 hW.2 (by simp; omega) hv (refH_in hf t _) _ _ ?_
  exact ⟨by simp [paidM], by simp [paidM, H64, Wk, Wbox]⟩
def lateB (c : Cmp) (t : Tru) (d : Dvd) (k : Nat) : Bool := regM c.closed (lat t.deliv (k : Nat)) == -1 || decide (d.record < regM c.closed (lat t.deliv (k : Nat)))
def earlyB (t : Tru) (d : Dvd) (k : Nat) : Bool := decide (lat t.sold (k : Nat) < d.ex)
def claimK (c : Cmp) (t : Tru) (d : Dvd) (k : Nat) : Int := if earlyB t d k = true then (if lateB c t d k = true then d.pence * unitsT c t d.record k else 0) else if lateB c t d k = true then 0 else (0 - d.pence) * unitsT c t d.record k
def claimsK (c : Cmp) (t : Tru) (d : Dvd) (k : Nat) : List Int := (List.range k).map (claimK c t d)
def claimsM (c : Cmp) (t : Tru) (d : Dvd) : List Int := claimsK c t d c.trades.length
def kmC (c : Cmp) (t : Tru) (d : Dvd) (km : List (Int × Int × Int)) : Nat → List (Int × Int × Int)
  | 0 => km
  | k + 1 => if earlyB t d k = lateB c t d k then updK c (kmC c t d km k) (lat t.sold (k : Nat)) d.record else kmC c t d km k
theorem kmC_ok {c : Cmp} {km : List (Int × Int × Int)} (h : kmOk c km) (t : Tru) (d : Dvd) : ∀ k, kmOk c (kmC c t d km k)
  | 0 => h
  | k + 1 => by
    rw [kmC]
    split
    · exact updK_ok (kmC_ok h t d k) _ _
    · exact kmC_ok h t d k
theorem claimsK_succ (c : Cmp) (t : Tru) (d : Dvd) (k : Nat) : claimsK c t d (k + 1) = claimsK c t d k ++ [claimK c t d k] := by simp [claimsK, List.range_succ]
@[simp] theorem claimsK_len (c : Cmp) (t : Tru) (d : Dvd) (k : Nat) : (claimsK c t d k).length = k := by simp [claimsK]
theorem HLe_W (c : Cmp) (km km' : List (Int × Int × Int)) (rest : Heap) : HLe (Wk c km rest) (Wk c km' rest) := by
  intro i b hb hp
  cases i with
  | zero => simp only [Wk, List.getElem?_cons_zero, Option.some.injEq] at hb; subst hb; cases hp
  | succ i => exact hb
theorem a66 (c : Cmp) (t : Tru) (d : Dvd) (km : List (Int × Int × Int)) (hf : faultM c = 0) (hd : datedB c t = true) (hv : okDv d = true) (hkm : kmOk c km) :
    ACalls Try.prog 66 [.ptr 1 0 0, Uv t, Dv d] (Wk c km []) fun v h' => v = .own 2 c.trades.length c.trades.length ∧ h' = Wk c (kmC c t d km c.trades.length) [some (.row 3 1 c.trades.length (enc eI (claimsM c t d)))] := by
  obtain ⟨⟨g1, g2, g3, g4, g5, g6, g7⟩, g8, g9, g10, g11, g12⟩ := fault_ok hf
  obtain ⟨l1, l2⟩ := dated_len hd
  have hdv := div_in hv
  refine q66.calls X18_ok (h := Wk c km []) rfl (w66 c t d km) ?_
  simp only [holds]
  refine LoopP.state (StLe.ghostTmp (t := 6) 3 1 rfl) ?_
  refine lp_count X18_ok c.trades.length (fun _ => True) (fun k => E66 c t d (claimsK c t d k) k) (fun k => Wk c (kmC c t d km k) [some (.row 3 1 (claimsK c t d k).length (enc eI (claimsK c t d k)))]) rfl rfl trivial (fun k _ => ⟨rfl, rfl, Wk_belr _ _ _ 3 (by decide) rfl⟩) ?_
  intro k hk _ Q' hn he hr
  rw [b66]
  simp only [holds, Int.ofNat_eq_natCast, cI_I, cI_T0, cI_T1, cI_T2, cI_T3, cI_T4, cI_T5, cI_T6, dCe, dC_enc, dK_map, true_and]
  refine ⟨fun e1 => ?_, fun e1 => ?_⟩
  · have hlt : k < c.trades.length := by have := of_decide_eq_true e1; omega
    have ht := trade_in hf hlt
    simp only [okTr, Bool.and_eq_true, decide_eq_true_eq] at ht
    have hu := unitsT_in hf t d.record hlt
    have o1 : okEl [0, 0, 0, 0, 0, 0, 0] (enc eT c.trades) 7 (k : Nat) := ok_T (by simpa using hlt)
    have o2 : okEl [0] (enc eI t.deliv) 1 (k : Nat) := ok_I (by simp; omega)
    have o3 : okEl [0] (enc eI t.sold) 1 (k : Nat) := ok_I (by simp; omega)
    have k0 := kmC_ok hkm t d k
    have eu : (lat c.trades (k : Nat)).shares * facM c.splits (lat t.sold (k : Nat)) d.record = unitsT c t d.record k := rfl
    simp only [eu]
    have hp := pence_in hdv.2.2.2.1 hdv.2.2.2.2 (n := unitsT c t d.record k) (by omega)
    have hp2 : (0 - d.pence) * unitsT c t d.record k = -(d.pence * unitsT c t d.record k) := by rw [Int.zero_sub, Int.neg_mul]
    have hn1 := fun J => hn J hlt trivial
    simp only [E66, claimsK_succ, enc_append, enc_one, List.length_append, List.length_cons, List.length_nil] at hn1
    have hA : earlyB t d k = true → lateB c t d k = true → ∀ J, _ := fun a b J => by
      have h := hn1 J
      simp only [kmC, claimK, a, b, if_true] at h
      exact h
    have hB : earlyB t d k = false → lateB c t d k = false → ∀ J, _ := fun a b J => by
      have h := hn1 J
      simp only [kmC, claimK, a, b, if_true, Bool.false_eq_true, if_false] at h
      exact h
    have hC : earlyB t d k = true → lateB c t d k = false → ∀ J, _ := fun a b J => by
      have h := hn1 J
      simp only [kmC, claimK, a, b, if_true, Bool.false_eq_true, Bool.true_eq_false, if_false] at h
      exact h
    have hD : earlyB t d k = false → lateB c t d k = true → ∀ J, _ := fun a b J => by
      have h := hn1 J
      simp only [kmC, claimK, a, b, if_true, Bool.false_eq_true, Bool.true_eq_false, if_false] at h
      exact h
    clear hn hn1 he hr
    repeat' (first | (refine And.intro ?_ ?_) | (refine fun (_ : _ = _) => ?_))
    all_goals first
      | omega
      | assumption
      | rfl
      | exact HLe_W _ _ _ _
      | (simp; done)
      | exact hA (by grind [earlyB]) (by grind [lateB]) _
      | exact hB (by grind [earlyB]) (by grind [lateB]) _
      | exact hC (by grind [earlyB]) (by grind [lateB]) _
      | exact hD (by grind [earlyB]) (by grind [lateB]) _
      | (simp; omega)
      | grind
  · have hge : k = c.trades.length := by have := of_decide_eq_false e1; omega
    subst hge
    refine he _ _ _ (ret_tree X18_ok (doneK_ok rfl) (x66 _ _ _ _ _ _ _ _ _ _) ?_)
    simp only [holds, claimsK_len]
    exact ⟨trivial, rfl⟩
end
end Go.Proofs.Ytdnefcjbcieecaa
namespace Go.Proofs.Ytdnefcjbcieecaa
open Go Go.Proofs
noncomputable section
def asDv : V → Option Dvd
  | .agg [.d (.int .i64 a), .d (.int .i64 b), .d (.int .i64 c)] => some ⟨a, b, c⟩
  | _ => none
def okCTD (c : Cmp) (t : Tru) (d : Dvd) (km : List (Int × Int × Int)) : Prop := faultM c = 0 ∧ datedB c t = true ∧ okDv d = true ∧ kmOk c km
def ent64 : Ent := fun args h => match args, asW h with
  | [.ptr 1 0 0, x, y], some (c, km, []) => match asU x, asDv y with
    | some t, some d => some (h = Wk c km [] ∧ Uv t = x ∧ Dv d = y ∧ okCTD c t d km, .own 3 (paidM c t d).length (paidM c t d).length, some (Wk c (kmT c t d.record km c.trades.length) [none, some (.row 3 1 (paidM c t d).length (enc eI (paidM c t d)))]))
    | _, _ => none
  | _, _ => none
theorem ent64_ok : EntOk Try.prog 64 ent64 := by
  intro args h p v h' he hp
  unfold ent64 at he
  split at he
  · split at he
    · cases he
      obtain ⟨h1, rfl, rfl, h2, h3, h4, h5⟩ := hp
      rw [h1]
      exact a64 _ _ _ _ h2 h3 h4 h5
    · cases he
  · cases he
theorem fin_W (c : Cmp) (km : List (Int × Int × Int)) (n : Nat) (ds : List D) : finX 2 (.own 2 n n) (Wk c km [some (.row 3 1 n ds)]) = (.d (.sl false n ds), Wk c km []) := by
  have hW := Wk_bel c km 2 (by decide)
  simp [finX, rowsIn, rowsIn1, rowIn, frzRows, frzB, blkDs, fzV, fz2, fz1, Wk, bel2, bel1, bel0] at hW ⊢
  exact hW
theorem a66f (c : Cmp) (t : Tru) (d : Dvd) (km : List (Int × Int × Int)) (hf : faultM c = 0) (hd : datedB c t = true) (hv : okDv d = true) (hkm : kmOk c km) :
    ACalls Try.prog 66 [.ptr 1 0 0, Uv t, Dv d] (Wk c km []) fun v h' => v = vsl eI (claimsM c t d) ∧ ∃ J, h' = Wk c (kmC c t d km c.trades.length) J := by
  refine ACalls.fin ((a66 c t d km hf hd hv hkm).mono ?_)
  rintro v h' ⟨rfl, rfl⟩
  have e : (claimsM c t d).length = c.trades.length := claimsK_len c t d _
  have e2 : (Wk c km []).length = 2 := rfl
  rw [e2, fin_W]
  refine ⟨?_, [], rfl⟩
  unfold vsl dsl
  rw [e]
def ent66 : Ent := fun args h => match args, asW h with
  | [.ptr 1 0 0, x, y], some (c, km, rest) => match asU x, asDv y with
    | some t, some d => some (h = Wk c km rest ∧ Uv t = x ∧ Dv d = y ∧ okCTD c t d km, vsl eI (claimsM c t d), some (Wk c (kmC c t d km c.trades.length) rest))
    | _, _ => none
  | _, _ => none
theorem ent66_ok : EntOk Try.prog 66 ent66 := by
  intro args h p v h' he hp
  unfold ent66 at he
  split at he
  · split at he
    · cases he
      obtain ⟨h1, rfl, rfl, h2, h3, h4, h5⟩ := hp
      rw [h1]
      exact more_W rfl rfl (a66f _ _ _ _ h2 h3 h4 h5) _
    · cases he
  · cases he
def tab22 : Spec := (spAdd 66 ent66 (spAdd 64 ent64 tab18))
theorem tab22_ok : SpOk Try.prog tab22 := (spAdd_ok ent66_ok (spAdd_ok ent64_ok tab18_ok))
def X22 : Sx := mkX tab22
theorem X22_ok : SpOk Try.prog X22.sp := tab22_ok
theorem w67 (c : Cmp) (t : Tru) (d : Dvd) (km : List (Int × Int × Int)) : sx X22 c67 [] (doneK r67) (envOf [.ptr 1 0 0, Uv t, Dv d]) [] (Wk c km []) =
    let x1_ := [V.d (D.int IntKind.i64 (Dvd.ex d)), V.d (D.int IntKind.i64 (Dvd.record d)), V.d (D.int IntKind.i64 (Dvd.pence d))]
    let x2_ := (kmT (dCe c) (dUe t) (Dvd.record { ex := Dvd.ex d, record := Dvd.record d, pence := Dvd.pence d }) (dK (List.map entE km)) (List.length (Cmp.trades (dCe c))))
    let x3_ := (paidM (dCe c) (dUe t) { ex := Dvd.ex d, record := Dvd.record d, pence := Dvd.pence d })
    let x4_ := (dK (List.map entE x2_))
    let x5_ := (claimsM (dCe (dCe c)) (dUe t) { ex := Dvd.ex d, record := Dvd.record d, pence := Dvd.pence d })
    let x6_ := (Cmp.trades (dCe (dCe c)))
    let x7_ := (Cmp.held (dCe (dCe c)))
    let x8_ := (Cmp.divs (dCe (dCe c)))
    let x9_ := (Cmp.splits (dCe (dCe c)))
    let x10_ := (Cmp.closed (dCe (dCe c)))
    Tr.need (Wk c km [] = Wk (dCe c) (dK (List.map entE km)) [] ∧ Uv (dUe t) = Uv t ∧ Dv { ex := Dvd.ex d, record := Dvd.record d, pence := Dvd.pence d } = V.agg x1_ ∧ okCTD (dCe c) (dUe t) { ex := Dvd.ex d, record := Dvd.record d, pence := Dvd.pence d } (dK (List.map entE km))) (Tr.need (Wk (dCe c) x2_ [none, some (Blk.row (3 : Nat) (1 : Nat) (List.length x3_) (enc eI x3_))] = Wk (dCe (dCe c)) x4_ [none, some (Blk.row (3 : Nat) (1 : Nat) (List.length x3_) (enc eI x3_))] ∧ Uv (dUe t) = Uv t ∧ Dv { ex := Dvd.ex d, record := Dvd.record d, pence := Dvd.pence d } = V.agg x1_ ∧ okCTD (dCe (dCe c)) (dUe t) { ex := Dvd.ex d, record := Dvd.record d, pence := Dvd.pence d } x4_) (Tr.lp (CCode.at c67 [(1 : Nat), (1 : Nat), (0 : Nat), (1 : Nat), (0 : Nat), (0 : Nat)]) [Fr.blk (0), Fr.seq (CCode.at c67 [(1 : Nat), (1 : Nat), (1 : Nat)])] [(0, V.ptr (1) (0) (0)), (7, V.own (3) (List.length x3_) (List.length x3_)), (17, V.d (D.sl false (List.length x5_) (enc eI x5_))), (18, V.d (D.int IntKind.i64 (Int.ofNat (List.length x5_)))), (19, V.d (D.int IntKind.i64 (0 : Int)))] [some (Blk.map (List.map entE (kmC (dCe (dCe c)) (dUe t) { ex := Dvd.ex d, record := Dvd.record d, pence := Dvd.pence d } x4_ (List.length x6_)))), some (Blk.box [V.d (D.int IntKind.i64 (Cmp.houses (dCe (dCe c)))), V.d (D.sl false (List.length x7_) (enc eI x7_)), V.d (D.sl false (List.length x6_) (enc eT x6_)), V.d (D.sl false (List.length x8_) (enc eV x8_)), V.d (D.sl false (List.length x9_) (enc eS x9_)), V.d (D.sl false (List.length x10_) (enc eR x10_)), V.mp (0)]), none, some (Blk.row (3) (1) (List.length x3_) (enc eI x3_))])) := by kernel_rfl
def rl (f : Nat → Int) (n : Nat) : List Int := (List.range n).map f
@[simp] theorem rl_len (f : Nat → Int) (n : Nat) : (rl f n).length = n := by simp [rl]
def E67 (cl : List Int) (n : Nat) (k : Nat) : Env := [(0, .ptr 1 0 0), (7, .own 3 n n), (17, vsl eI cl), (18, vi cl.length), (19, vi k)]
theorem b67 (c : Cmp) (cl l : List Int) (n k : Nat) (km : List (Int × Int × Int)) : sx X22 (CCode.at c67 [1,1,0,1,0,0]) [] leafK (E67 cl n k) [] (Wk c km [none, some (.row 3 1 n (enc eI l))]) =
    let x1_ := (decide (Int.ofNat k < Int.ofNat (List.length cl)))
    let x2_ := (List.length (Cmp.trades c))
    let x3_ := ((0 : Int) ≤ Int.ofNat k ∧ Int.ofNat k < Int.ofNat x2_ ∧ okEl [0, 0, 0, 0, 0, 0, 0] (enc eT (Cmp.trades c)) (7 : Nat) (Int.ofNat k))
    let x4_ := (cI (enc eT (Cmp.trades c)) (7 : Nat) (Int.ofNat k) (0 : Nat))
    let x5_ := (((0 : Int) ≤ cI (enc eT (Cmp.trades c)) (7 : Nat) (Int.ofNat k) (0 : Nat) ∧ cI (enc eT (Cmp.trades c)) (7 : Nat) (Int.ofNat k) (0 : Nat) < Int.ofNat n) ∧ n = n ∧ Int.toNat x4_ * (1 : Nat) + (1 : Nat) ≤ List.length (enc eI l))
    let x6_ := (Int.toNat x4_ * (1 : Nat))
    let x7_ := (dI (enc eI l) x6_ - cI (enc eI cl) (1 : Nat) (Int.ofNat k) (0 : Nat))
    let x8_ := [V.d (D.int IntKind.i64 x7_)]
    let x9_ := (cI (enc eT (Cmp.trades c)) (7 : Nat) (Int.ofNat k) (1))
    let x10_ := (putAt (enc eI l) x6_ [D.int IntKind.i64 x7_])
    let x11_ := (((0 : Int) ≤ cI (enc eT (Cmp.trades c)) (7 : Nat) (Int.ofNat k) (1) ∧ cI (enc eT (Cmp.trades c)) (7 : Nat) (Int.ofNat k) (1) < Int.ofNat n) ∧ n = n ∧ Int.toNat x9_ * (1 : Nat) + (1 : Nat) ≤ List.length x10_)
    let x12_ := (Int.toNat x9_ * (1 : Nat))
    let x13_ := (dI x10_ x12_ + cI (enc eI cl) (1 : Nat) (Int.ofNat k) (0 : Nat))
    let x14_ := [V.d (D.int IntKind.i64 x13_)]
    let x15_ := (Blk.map (List.map entE km))
    let x16_ := (Blk.box [V.d (D.int IntKind.i64 (Cmp.houses c)), V.d (D.sl false (List.length (Cmp.held c)) (enc eI (Cmp.held c))), V.d (D.sl false x2_ (enc eT (Cmp.trades c))), V.d (D.sl false (List.length (Cmp.divs c)) (enc eV (Cmp.divs c))), V.d (D.sl false (List.length (Cmp.splits c)) (enc eS (Cmp.splits c))), V.d (D.sl false (List.length (Cmp.closed c)) (enc eR (Cmp.closed c))), V.mp (0)])
    Tr.br x1_ (Tr.need ((0 : Int) ≤ Int.ofNat k ∧ Int.ofNat k < Int.ofNat (List.length cl) ∧ okEl [0] (enc eI cl) (1 : Nat) (Int.ofNat k)) (Tr.need x3_ (Tr.need x5_ (Tr.need (n = n ∧ (enc eI l)[Int.toNat x4_ * (1 : Nat)]? = some (D.int IntKind.i64 (dI (enc eI l) x6_))) (Tr.need ((-9223372036854775808 : Int) ≤ dI (enc eI l) x6_ - cI (enc eI cl) (1 : Nat) (Int.ofNat k) (0 : Nat) ∧ dI (enc eI l) x6_ - cI (enc eI cl) (1 : Nat) (Int.ofNat k) (0 : Nat) ≤ (9223372036854775807 : Int)) (Tr.need x5_ (Tr.need (n = n ∧ Int.toNat x4_ * (1 : Nat) + List.length x8_ ≤ List.length (enc eI l) ∧ List.length x8_ = (1 : Nat)) (Tr.need x3_ (Tr.need x11_ (Tr.need (n = n ∧ x10_[Int.toNat x9_ * (1 : Nat)]? = some (D.int IntKind.i64 (dI x10_ x12_))) (Tr.need ((-9223372036854775808 : Int) ≤ dI x10_ x12_ + cI (enc eI cl) (1 : Nat) (Int.ofNat k) (0 : Nat) ∧ dI x10_ x12_ + cI (enc eI cl) (1 : Nat) (Int.ofNat k) (0 : Nat) ≤ (9223372036854775807 : Int)) (Tr.need x11_ (Tr.need (n = n ∧ Int.toNat x9_ * (1 : Nat) + List.length x14_ ≤ List.length x10_ ∧ List.length x14_ = (1 : Nat)) (Tr.need ((-9223372036854775808 : Int) ≤ Int.ofNat k + (1 : Int) ∧ Int.ofNat k + (1 : Int) ≤ (9223372036854775807 : Int)) (Tr.leaf CExit.normal [(0, V.ptr (1) (0) (0)), (7, V.own (3) n n), (17, V.d (D.sl false (List.length cl) (enc eI cl))), (18, V.d (D.int IntKind.i64 (Int.ofNat (List.length cl)))), (19, V.d (D.int IntKind.i64 (Int.ofNat k + (1 : Int))))] [some x15_, some x16_, none, some (Blk.row (3) (1) n (putAt x10_ x12_ [D.int IntKind.i64 x13_]))]))))))))))))))) (Tr.leaf (CExit.exit (0)) [(0, V.ptr (1) (0) (0)), (7, V.own (3) n n), (17, V.d (D.sl false (List.length cl) (enc eI cl))), (18, V.d (D.int IntKind.i64 (Int.ofNat (List.length cl)))), (19, V.d (D.int IntKind.i64 (Int.ofNat k))), (20, V.d (D.bool x1_))] [some x15_, some x16_, none, some (Blk.row (3) (1) n (enc eI l))]) := by kernel_rfl
theorem x67 (u v w x y : V) (n : Nat) (h : Heap) : sS X22 (doneK r67) [Fr.blk 0, Fr.seq (CCode.at c67 [1,1,1])] (.exit 0) [(0, u), (7, .own 3 n n), (17, v), (18, w), (19, x), (20, y)] [] h =
    Tr.done (V.own (3) n n) h := by kernel_rfl
theorem enc_map (l : List Int) : enc eI l = l.map (D.int IntKind.i64) := by
  induction l with
  | nil => rfl
  | cons x l ih => show eI x ++ enc eI l = _; rw [ih]; rfl
theorem putAt_set {α : Type} (l : List α) (i : Nat) (x : α) (h : i < l.length) : putAt l i [x] = l.set i x := by
  rw [putAt, List.set_eq_take_append_cons_drop, if_pos h]; simp
theorem rl_get (f : Nat → Int) {n : Nat} {i : Int} (h0 : 0 ≤ i) (h : i < n) : (enc eI (rl f n))[i.toNat * 1]? = some (D.int IntKind.i64 (f i.toNat)) := by
  rw [enc_map, Nat.mul_one]
  have : i.toNat < n := by omega
  simp [rl, this]
theorem rl_dI (f : Nat → Int) {n : Nat} {i : Int} (h0 : 0 ≤ i) (h : i < n) : dI (enc eI (rl f n)) (i.toNat * 1) = f i.toNat := by
  unfold dI; rw [rl_get f h0 h]
theorem rl_put (f : Nat → Int) {n : Nat} {i : Int} (h0 : 0 ≤ i) (h : i < n) (x : Int) : putAt (enc eI (rl f n)) (i.toNat * 1) [D.int IntKind.i64 x] = enc eI (rl (setF f i.toNat x) n) := by
  have hi : i.toNat < n := by omega
  rw [Nat.mul_one, putAt_set _ _ _ (by simp; exact hi), enc_map, enc_map]
  apply List.ext_getElem
  · simp [rl]
  · intro j h1 h2
    simp only [rl, List.getElem_set, List.getElem_map, List.getElem_range, setF]
    by_cases e : i.toNat = j
    · rw [if_pos e, if_pos e.symm]
    · rw [if_neg e, if_neg (Ne.symm e)]
def rightT (c : Cmp) (t : Tru) (d : Dvd) : Nat → Nat → Int
  | 0 => fun h => d.pence * heldF c t d.record h
  | k + 1 => moveF (rightT c t d k) (lat c.trades (k : Nat)).seller.toNat (lat c.trades (k : Nat)).buyer.toNat (claimK c t d k)
def rightsM (c : Cmp) (t : Tru) (d : Dvd) : List Int := rl (rightT c t d c.trades.length) c.held.length
theorem heldF_in {c : Cmp} (hf : faultM c = 0) (t : Tru) (d : Int) (i : Nat) : -23328000 ≤ heldF c t d i ∧ heldF c t d i ≤ 23328000 := by
  have h1 := heldT_in hf t d c.trades.length (Nat.le_refl _) i
  have h2 := (fault_ok hf).1.2.2.2.1
  have e : heldF c t d i = heldT c t d c.trades.length i := rfl
  rw [e]; omega
theorem claimK_in {c : Cmp} (hf : faultM c = 0) (t : Tru) {d : Dvd} (hd : okDv d = true) {k : Nat} (hk : k < c.trades.length) : -50000000000 ≤ claimK c t d k ∧ claimK c t d k ≤ 50000000000 := by
  have hdv := div_in hd
  have hu := unitsT_in hf t d.record hk
  have hp := pence_in hdv.2.2.2.1 hdv.2.2.2.2 (n := unitsT c t d.record k) (by omega)
  have hp2 : (0 - d.pence) * unitsT c t d.record k = -(d.pence * unitsT c t d.record k) := by rw [Int.zero_sub, Int.neg_mul]
  unfold claimK
  split <;> split <;> omega
theorem rightT_in {c : Cmp} (hf : faultM c = 0) (t : Tru) {d : Dvd} (hd : okDv d = true) : ∀ k, k ≤ c.trades.length → ∀ i, -(50000000000 * (2 * (k : Int) + 1)) ≤ rightT c t d k i ∧ rightT c t d k i ≤ 50000000000 * (2 * (k : Int) + 1)
  | 0, _, i => by
    have hdv := div_in hd
    have hh := heldF_in hf t d.record i
    have hp := pence_in hdv.2.2.2.1 hdv.2.2.2.2 (n := heldF c t d.record i) (by omega)
    simp only [rightT]; omega
  | k + 1, hk, i => by
    have ih := rightT_in hf t hd k (by omega)
    have hu := claimK_in hf t hd (k := k) (by omega)
    simp only [rightT, moveF, setF]
    have h1 := ih i
    have h2 := ih (lat c.trades (k : Nat)).seller.toNat
    have h3 := ih (lat c.trades (k : Nat)).buyer.toNat
    split <;> split <;> omega
theorem paid_rl (c : Cmp) (t : Tru) (d : Dvd) : paidM c t d = rl (rightT c t d 0) c.held.length := by
  simp only [paidM, refH, refK, rl, List.map_map]; rfl
theorem claims_at {c : Cmp} {t : Tru} {d : Dvd} {k : Nat} (hk : k < c.trades.length) : lat (claimsM c t d) (k : Nat) = claimK c t d k := by
  simp [lat, claimsM, claimsK, hk]
theorem a67 (c : Cmp) (t : Tru) (d : Dvd) (km : List (Int × Int × Int)) (hf : faultM c = 0) (hd : datedB c t = true) (hv : okDv d = true) (hkm : kmOk c km) :
    ACalls Try.prog 67 [.ptr 1 0 0, Uv t, Dv d] (Wk c km []) fun v h' => v = .own 3 c.held.length c.held.length ∧ h' = Wk c (kmC c t d (kmT c t d.record km c.trades.length) c.trades.length) [none, some (.row 3 1 c.held.length (enc eI (rightsM c t d)))] := by
  obtain ⟨⟨g1, g2, g3, g4, g5, g6, g7⟩, g8, g9, g10, g11, g12⟩ := fault_ok hf
  have hk1 := kmT_ok hkm t d.record c.trades.length
  have hcl : (claimsM c t d).length = c.trades.length := claimsK_len c t d _
  have hpl : (paidM c t d).length = c.held.length := by rw [paid_rl, rl_len]
  refine q67.calls X22_ok (h := Wk c km []) rfl (w67 c t d km) ?_
  simp only [holds, dCe, dC_enc, dUe, dU_enc, dK_map, true_and, hpl]
  refine ⟨⟨rfl, hf, hd, hv, hkm⟩, ⟨rfl, hf, hd, hv, hk1⟩, ?_⟩
  refine lp_count X22_ok c.trades.length (fun _ => True) (fun k => E67 (claimsM c t d) c.held.length k) (fun k => Wk c (kmC c t d (kmT c t d.record km c.trades.length) c.trades.length) [none, some (.row 3 1 c.held.length (enc eI (rl (rightT c t d k) c.held.length)))]) rfl ?_ trivial (fun k _ => ⟨rfl, rfl, Wk_belr _ _ _ 4 (by decide) rfl⟩) ?_
  · rw [← paid_rl]; rfl
  intro k hk _ Q' hn he hr
  rw [b67]
  simp only [holds, Int.ofNat_eq_natCast, cI_I, cI_T0, cI_T1, true_and, hcl]
  refine ⟨fun e1 => ?_, fun e1 => ?_⟩
  · have hlt : k < c.trades.length := by have := of_decide_eq_true e1; omega
    have ht := trade_in hf hlt
    simp only [okTr, Bool.and_eq_true, decide_eq_true_eq] at ht
    have o1 : okEl [0, 0, 0, 0, 0, 0, 0] (enc eT c.trades) 7 (k : Nat) := ok_T (by simpa using hlt)
    have o2 : okEl [0] (enc eI (claimsM c t d)) 1 (k : Nat) := ok_I (by rw [hcl]; simpa using hlt)
    have hc := claimK_in hf t hv hlt
    have hb := fun i => rightT_in hf t hv k hk i
    have hs : 0 ≤ (lat c.trades (k : Nat)).seller ∧ (lat c.trades (k : Nat)).seller < (c.held.length : Int) := by omega
    have hbu : 0 ≤ (lat c.trades (k : Nat)).buyer ∧ (lat c.trades (k : Nat)).buyer < (c.held.length : Int) := by omega
    have hn1 := fun J => hn J hlt trivial
    simp only [E67, vsl, dsl, hcl] at hn1
    rw [claims_at hlt, rl_dI _ hs.1 hs.2, rl_put _ hs.1 hs.2, rl_dI _ hbu.1 hbu.2, rl_put _ hbu.1 hbu.2, rl_get _ hs.1 hs.2, rl_get _ hbu.1 hbu.2]
    have b1 := hb (lat c.trades (k : Nat)).seller.toNat
    have b2 : setF (rightT c t d k) (lat c.trades (k : Nat)).seller.toNat (rightT c t d k (lat c.trades (k : Nat)).seller.toNat - claimK c t d k) (lat c.trades (k : Nat)).buyer.toNat ≤ 50000000000 * (2 * (k : Int) + 2) ∧ -(50000000000 * (2 * (k : Int) + 2)) ≤ setF (rightT c t d k) (lat c.trades (k : Nat)).seller.toNat (rightT c t d k (lat c.trades (k : Nat)).seller.toNat - claimK c t d k) (lat c.trades (k : Nat)).buyer.toNat := by
      have b2 := hb (lat c.trades (k : Nat)).buyer.toNat
      simp only [setF]
      split <;> omega
    simp only [len_I, rl_len]
    refine ⟨⟨by omega, by omega, o2⟩, ⟨by omega, by omega, o1⟩, ⟨hs, by omega⟩, trivial, ⟨by omega, by omega⟩, ⟨hs, by omega⟩, ⟨by simp; omega, rfl⟩, ⟨by omega, by omega, o1⟩, ⟨hbu, by omega⟩, trivial, ⟨by omega, by omega⟩, ⟨hbu, by omega⟩, ⟨by simp; omega, rfl⟩, ⟨by omega, by omega⟩, ?_⟩
    exact hn1 []
  · have hge : k = c.trades.length := by have := of_decide_eq_false e1; omega
    subst hge
    refine he _ _ _ (ret_tree X22_ok (doneK_ok rfl) (x67 _ _ _ _ _ _ _) ?_)
    simp only [holds]
    exact ⟨trivial, rfl⟩
end
end Go.Proofs.Ytdnefcjbcieecaa
namespace Go.Proofs.Ytdnefcjbcieecaa
open Go Go.Proofs
noncomputable section
theorem q65 : FunIs Try.prog 65 G65 c65 r65 := ⟨Try.f65, Try.func65, k65, e65, by kernel_rfl, by kernel_rfl⟩
theorem q25 : FunIs Try.prog 25 G25 c25 r25 := ⟨Try.f25, Try.func25, k25, e25, by kernel_rfl, by kernel_rfl⟩
theorem q26 : FunIs Try.prog 26 G26 c26 r26 := ⟨Try.f26, Try.func26, k26, e26, by kernel_rfl, by kernel_rfl⟩
theorem q27 : FunIs Try.prog 27 G27 c27 r27 := ⟨Try.f27, Try.func27, k27, e27, by kernel_rfl, by kernel_rfl⟩
def ent67 : Ent := fun args h => match args, asW h with
  | [.ptr 1 0 0, x, y], some (c, km, []) => match asU x, asDv y with
    | some t, some d => some (h = Wk c km [] ∧ Uv t = x ∧ Dv d = y ∧ okCTD c t d km, .own 3 c.held.length c.held.length, some (Wk c (kmC c t d (kmT c t d.record km c.trades.length) c.trades.length) [none, some (.row 3 1 c.held.length (enc eI (rightsM c t d)))]))
    | _, _ => none
  | _, _ => none
theorem ent67_ok : EntOk Try.prog 67 ent67 := by
  intro args h p v h' he hp
  unfold ent67 at he
  split at he
  · split at he
    · cases he
      obtain ⟨h1, rfl, rfl, h2, h3, h4, h5⟩ := hp
      rw [h1]
      exact a67 _ _ _ _ h2 h3 h4 h5
    · cases he
  · cases he
def tab23 : Spec := (spAdd 67 ent67 tab22)
theorem tab23_ok : SpOk Try.prog tab23 := (spAdd_ok ent67_ok tab22_ok)
def X23 : Sx := { sp := tab23, md := fun k => bif Nat.beq k 15 then 4 else 0, sh := shI, alt := alt58 }
theorem X23_ok : SpOk Try.prog X23.sp := tab23_ok
theorem w65a (c : Cmp) (t : Tru) (n : Int) : sx X23 c65 [] (doneK r65) (envOf [.agg [.d (.fn (.func 64))], Cv c, Uv t, vi n]) [] [] =
    let x1_ := (D.int IntKind.i64 (askE (dCe c) (dUe t)))
    let x2_ := (D.int IntKind.i64 (0 : Int))
    let x3_ := (kmF (dCe c) (dUe t) [] (12 : Nat))
    let x4_ := [some (Blk.map (List.map entE x3_)), some (Blk.box [V.d (D.int IntKind.i64 (Cmp.houses (dCe c))), V.d (D.sl false (List.length (Cmp.held (dCe c))) (enc eI (Cmp.held (dCe c)))), V.d (D.sl false (List.length (Cmp.trades (dCe c))) (enc eT (Cmp.trades (dCe c)))), V.d (D.sl false (List.length (Cmp.divs (dCe c))) (enc eV (Cmp.divs (dCe c)))), V.d (D.sl false (List.length (Cmp.splits (dCe c))) (enc eS (Cmp.splits (dCe c)))), V.d (D.sl false (List.length (Cmp.closed (dCe c))) (enc eR (Cmp.closed (dCe c)))), V.mp (0)])]
    let x5_ := (List.length (Cmp.divs c))
    let x6_ := ((-9223372036854775808 : Int) ≤ Int.ofNat x5_ - (1 : Int) ∧ Int.ofNat x5_ - (1 : Int) ≤ (9223372036854775807 : Int))
    let x7_ := (!inR n (0 : Int) (Int.ofNat x5_ - (1 : Int)))
    let x8_ := (V.tup [V.d D.nils, V.d (D.int IntKind.i64 (2 : Int))])
    let x9_ := ((0 : Int) ≤ n ∧ n < Int.ofNat x5_ ∧ okEl [0, 0, 0] (enc eV (Cmp.divs c)) (3 : Nat) n)
    let x10_ := (dK (List.map entE x3_))
    let x11_ := (paidM (dCe (dCe c)) (dUe t) { ex := cI (enc eV (Cmp.divs c)) (3 : Nat) n (0 : Nat), record := cI (enc eV (Cmp.divs c)) (3 : Nat) n (1), pence := cI (enc eV (Cmp.divs c)) (3 : Nat) n (2) })
    let x12_ := (Cmp.trades (dCe (dCe c)))
    let x13_ := (Cmp.held (dCe (dCe c)))
    let x14_ := (Cmp.divs (dCe (dCe c)))
    let x15_ := (Cmp.splits (dCe (dCe c)))
    let x16_ := (Cmp.closed (dCe (dCe c)))
    Tr.alt false (58) [Cv c, Uv t] [] (V.tup [V.d D.nilp, V.d x1_]) [] (V.tup [V.ptr (1) (0) (0), V.d x2_]) x4_ (Tr.br (askE (dCe c) (dUe t) != (0 : Int)) (Tr.done (V.tup [V.d D.nils, V.d x1_]) []) (Tr.need x6_ (Tr.need True (Tr.br x7_ (Tr.done x8_ []) (Tr.need x9_ Tr.fail))))) (Tr.br ((0 : Int) != (0 : Int)) (Tr.done (V.tup [V.d D.nils, V.d x2_]) x4_) (Tr.need x6_ (Tr.need True (Tr.br x7_ (Tr.done x8_ x4_) (Tr.need x9_ (Tr.need (Wk (dCe c) x3_ [] = Wk (dCe (dCe c)) x10_ [] ∧ Uv (dUe t) = Uv t ∧ Dv { ex := cI (enc eV (Cmp.divs c)) (3 : Nat) n (0 : Nat), record := cI (enc eV (Cmp.divs c)) (3 : Nat) n (1), pence := cI (enc eV (Cmp.divs c)) (3 : Nat) n (2) } = V.agg [V.d (D.int IntKind.i64 (cI (enc eV (Cmp.divs c)) (3 : Nat) n (0 : Nat))), V.d (D.int IntKind.i64 (cI (enc eV (Cmp.divs c)) (3 : Nat) n (1))), V.d (D.int IntKind.i64 (cI (enc eV (Cmp.divs c)) (3 : Nat) n (2)))] ∧ okCTD (dCe (dCe c)) (dUe t) { ex := cI (enc eV (Cmp.divs c)) (3 : Nat) n (0 : Nat), record := cI (enc eV (Cmp.divs c)) (3 : Nat) n (1), pence := cI (enc eV (Cmp.divs c)) (3 : Nat) n (2) } x10_) (Tr.done (V.tup [V.own (3) (List.length x11_) (List.length x11_), V.d x2_]) [some (Blk.map (List.map entE (kmT (dCe (dCe c)) (dUe t) (Dvd.record { ex := cI (enc eV (Cmp.divs c)) (3 : Nat) n (0 : Nat), record := cI (enc eV (Cmp.divs c)) (3 : Nat) n (1), pence := cI (enc eV (Cmp.divs c)) (3 : Nat) n (2) }) x10_ (List.length x12_)))), some (Blk.box [V.d (D.int IntKind.i64 (Cmp.houses (dCe (dCe c)))), V.d (D.sl false (List.length x13_) (enc eI x13_)), V.d (D.sl false (List.length x12_) (enc eT x12_)), V.d (D.sl false (List.length x14_) (enc eV x14_)), V.d (D.sl false (List.length x15_) (enc eS x15_)), V.d (D.sl false (List.length x16_) (enc eR x16_)), V.mp (0)]), none, some (Blk.row (3) (1) (List.length x11_) (enc eI x11_))]))))))) := by kernel_rfl
theorem w65b (c : Cmp) (t : Tru) (n : Int) : sx X23 c65 [] (doneK r65) (envOf [.agg [.d (.fn (.func 66))], Cv c, Uv t, vi n]) [] [] =
    let x1_ := (D.int IntKind.i64 (askE (dCe c) (dUe t)))
    let x2_ := (D.int IntKind.i64 (0 : Int))
    let x3_ := (kmF (dCe c) (dUe t) [] (12 : Nat))
    let x4_ := [some (Blk.map (List.map entE x3_)), some (Blk.box [V.d (D.int IntKind.i64 (Cmp.houses (dCe c))), V.d (D.sl false (List.length (Cmp.held (dCe c))) (enc eI (Cmp.held (dCe c)))), V.d (D.sl false (List.length (Cmp.trades (dCe c))) (enc eT (Cmp.trades (dCe c)))), V.d (D.sl false (List.length (Cmp.divs (dCe c))) (enc eV (Cmp.divs (dCe c)))), V.d (D.sl false (List.length (Cmp.splits (dCe c))) (enc eS (Cmp.splits (dCe c)))), V.d (D.sl false (List.length (Cmp.closed (dCe c))) (enc eR (Cmp.closed (dCe c)))), V.mp (0)])]
    let x5_ := (List.length (Cmp.divs c))
    let x6_ := ((-9223372036854775808 : Int) ≤ Int.ofNat x5_ - (1 : Int) ∧ Int.ofNat x5_ - (1 : Int) ≤ (9223372036854775807 : Int))
    let x7_ := (!inR n (0 : Int) (Int.ofNat x5_ - (1 : Int)))
    let x8_ := (V.tup [V.d D.nils, V.d (D.int IntKind.i64 (2 : Int))])
    let x9_ := ((0 : Int) ≤ n ∧ n < Int.ofNat x5_ ∧ okEl [0, 0, 0] (enc eV (Cmp.divs c)) (3 : Nat) n)
    let x10_ := (dK (List.map entE x3_))
    let x11_ := (claimsM (dCe (dCe c)) (dUe t) { ex := cI (enc eV (Cmp.divs c)) (3 : Nat) n (0 : Nat), record := cI (enc eV (Cmp.divs c)) (3 : Nat) n (1), pence := cI (enc eV (Cmp.divs c)) (3 : Nat) n (2) })
    let x12_ := (Cmp.trades (dCe (dCe c)))
    let x13_ := (Cmp.held (dCe (dCe c)))
    let x14_ := (Cmp.divs (dCe (dCe c)))
    let x15_ := (Cmp.splits (dCe (dCe c)))
    let x16_ := (Cmp.closed (dCe (dCe c)))
    Tr.alt false (58) [Cv c, Uv t] [] (V.tup [V.d D.nilp, V.d x1_]) [] (V.tup [V.ptr (1) (0) (0), V.d x2_]) x4_ (Tr.br (askE (dCe c) (dUe t) != (0 : Int)) (Tr.done (V.tup [V.d D.nils, V.d x1_]) []) (Tr.need x6_ (Tr.need True (Tr.br x7_ (Tr.done x8_ []) (Tr.need x9_ Tr.fail))))) (Tr.br ((0 : Int) != (0 : Int)) (Tr.done (V.tup [V.d D.nils, V.d x2_]) x4_) (Tr.need x6_ (Tr.need True (Tr.br x7_ (Tr.done x8_ x4_) (Tr.need x9_ (Tr.need (Wk (dCe c) x3_ [] = Wk (dCe (dCe c)) x10_ [] ∧ Uv (dUe t) = Uv t ∧ Dv { ex := cI (enc eV (Cmp.divs c)) (3 : Nat) n (0 : Nat), record := cI (enc eV (Cmp.divs c)) (3 : Nat) n (1), pence := cI (enc eV (Cmp.divs c)) (3 : Nat) n (2) } = V.agg [V.d (D.int IntKind.i64 (cI (enc eV (Cmp.divs c)) (3 : Nat) n (0 : Nat))), V.d (D.int IntKind.i64 (cI (enc eV (Cmp.divs c)) (3 : Nat) n (1))), V.d (D.int IntKind.i64 (cI (enc eV (Cmp.divs c)) (3 : Nat) n (2)))] ∧ okCTD (dCe (dCe c)) (dUe t) { ex := cI (enc eV (Cmp.divs c)) (3 : Nat) n (0 : Nat), record := cI (enc eV (Cmp.divs c)) (3 : Nat) n (1), pence := cI (enc eV (Cmp.divs c)) (3 : Nat) n (2) } x10_) (Tr.done (V.tup [V.d (D.sl false (List.length x11_) (enc eI x11_)), V.d x2_]) [some (Blk.map (List.map entE (kmC (dCe (dCe c)) (dUe t) { ex := cI (enc eV (Cmp.divs c)) (3 : Nat) n (0 : Nat), record := cI (enc eV (Cmp.divs c)) (3 : Nat) n (1), pence := cI (enc eV (Cmp.divs c)) (3 : Nat) n (2) } x10_ (List.length x12_)))), some (Blk.box [V.d (D.int IntKind.i64 (Cmp.houses (dCe (dCe c)))), V.d (D.sl false (List.length x13_) (enc eI x13_)), V.d (D.sl false (List.length x12_) (enc eT x12_)), V.d (D.sl false (List.length x14_) (enc eV x14_)), V.d (D.sl false (List.length x15_) (enc eS x15_)), V.d (D.sl false (List.length x16_) (enc eR x16_)), V.mp (0)])]))))))) := by kernel_rfl
theorem w65c (c : Cmp) (t : Tru) (n : Int) : sx X23 c65 [] (doneK r65) (envOf [.agg [.d (.fn (.func 67))], Cv c, Uv t, vi n]) [] [] =
    let x1_ := (D.int IntKind.i64 (askE (dCe c) (dUe t)))
    let x2_ := (D.int IntKind.i64 (0 : Int))
    let x3_ := (kmF (dCe c) (dUe t) [] (12 : Nat))
    let x4_ := [some (Blk.map (List.map entE x3_)), some (Blk.box [V.d (D.int IntKind.i64 (Cmp.houses (dCe c))), V.d (D.sl false (List.length (Cmp.held (dCe c))) (enc eI (Cmp.held (dCe c)))), V.d (D.sl false (List.length (Cmp.trades (dCe c))) (enc eT (Cmp.trades (dCe c)))), V.d (D.sl false (List.length (Cmp.divs (dCe c))) (enc eV (Cmp.divs (dCe c)))), V.d (D.sl false (List.length (Cmp.splits (dCe c))) (enc eS (Cmp.splits (dCe c)))), V.d (D.sl false (List.length (Cmp.closed (dCe c))) (enc eR (Cmp.closed (dCe c)))), V.mp (0)])]
    let x5_ := (List.length (Cmp.divs c))
    let x6_ := ((-9223372036854775808 : Int) ≤ Int.ofNat x5_ - (1 : Int) ∧ Int.ofNat x5_ - (1 : Int) ≤ (9223372036854775807 : Int))
    let x7_ := (!inR n (0 : Int) (Int.ofNat x5_ - (1 : Int)))
    let x8_ := (V.tup [V.d D.nils, V.d (D.int IntKind.i64 (2 : Int))])
    let x9_ := ((0 : Int) ≤ n ∧ n < Int.ofNat x5_ ∧ okEl [0, 0, 0] (enc eV (Cmp.divs c)) (3 : Nat) n)
    let x10_ := (dK (List.map entE x3_))
    let x11_ := (Cmp.held (dCe (dCe c)))
    let x12_ := (Cmp.trades (dCe (dCe c)))
    let x13_ := (Cmp.divs (dCe (dCe c)))
    let x14_ := (Cmp.splits (dCe (dCe c)))
    let x15_ := (Cmp.closed (dCe (dCe c)))
    Tr.alt false (58) [Cv c, Uv t] [] (V.tup [V.d D.nilp, V.d x1_]) [] (V.tup [V.ptr (1) (0) (0), V.d x2_]) x4_ (Tr.br (askE (dCe c) (dUe t) != (0 : Int)) (Tr.done (V.tup [V.d D.nils, V.d x1_]) []) (Tr.need x6_ (Tr.need True (Tr.br x7_ (Tr.done x8_ []) (Tr.need x9_ Tr.fail))))) (Tr.br ((0 : Int) != (0 : Int)) (Tr.done (V.tup [V.d D.nils, V.d x2_]) x4_) (Tr.need x6_ (Tr.need True (Tr.br x7_ (Tr.done x8_ x4_) (Tr.need x9_ (Tr.need (Wk (dCe c) x3_ [] = Wk (dCe (dCe c)) x10_ [] ∧ Uv (dUe t) = Uv t ∧ Dv { ex := cI (enc eV (Cmp.divs c)) (3 : Nat) n (0 : Nat), record := cI (enc eV (Cmp.divs c)) (3 : Nat) n (1), pence := cI (enc eV (Cmp.divs c)) (3 : Nat) n (2) } = V.agg [V.d (D.int IntKind.i64 (cI (enc eV (Cmp.divs c)) (3 : Nat) n (0 : Nat))), V.d (D.int IntKind.i64 (cI (enc eV (Cmp.divs c)) (3 : Nat) n (1))), V.d (D.int IntKind.i64 (cI (enc eV (Cmp.divs c)) (3 : Nat) n (2)))] ∧ okCTD (dCe (dCe c)) (dUe t) { ex := cI (enc eV (Cmp.divs c)) (3 : Nat) n (0 : Nat), record := cI (enc eV (Cmp.divs c)) (3 : Nat) n (1), pence := cI (enc eV (Cmp.divs c)) (3 : Nat) n (2) } x10_) (Tr.done (V.tup [V.own (3) (List.length x11_) (List.length x11_), V.d x2_]) [some (Blk.map (List.map entE (kmC (dCe (dCe c)) (dUe t) { ex := cI (enc eV (Cmp.divs c)) (3 : Nat) n (0 : Nat), record := cI (enc eV (Cmp.divs c)) (3 : Nat) n (1), pence := cI (enc eV (Cmp.divs c)) (3 : Nat) n (2) } (kmT (dCe (dCe c)) (dUe t) (Dvd.record { ex := cI (enc eV (Cmp.divs c)) (3 : Nat) n (0 : Nat), record := cI (enc eV (Cmp.divs c)) (3 : Nat) n (1), pence := cI (enc eV (Cmp.divs c)) (3 : Nat) n (2) }) x10_ (List.length x12_)) (List.length x12_)))), some (Blk.box [V.d (D.int IntKind.i64 (Cmp.houses (dCe (dCe c)))), V.d (D.sl false (List.length x11_) (enc eI x11_)), V.d (D.sl false (List.length x12_) (enc eT x12_)), V.d (D.sl false (List.length x13_) (enc eV x13_)), V.d (D.sl false (List.length x14_) (enc eS x14_)), V.d (D.sl false (List.length x15_) (enc eR x15_)), V.mp (0)]), none, some (Blk.row (3) (1) (List.length x11_) (enc eI (rightsM (dCe (dCe c)) (dUe t) { ex := cI (enc eV (Cmp.divs c)) (3 : Nat) n (0 : Nat), record := cI (enc eV (Cmp.divs c)) (3 : Nat) n (1), pence := cI (enc eV (Cmp.divs c)) (3 : Nat) n (2) })))]))))))) := by kernel_rfl
def sumE (c : Cmp) (t : Tru) (n : Int) : Int := if askE c t ≠ 0 then askE c t else if inR n 0 (c.divs.length - 1) = true then 0 else 2
def sumL (M : Cmp → Tru → Dvd → List Int) (c : Cmp) (t : Tru) (n : Int) : List Int := if sumE c t n = 0 then M c t (lat c.divs n) else []
theorem fin_nil1 (n : Int) (h : Heap) : VLe (finX 0 (.tup [V.d D.nils, V.d (D.int IntKind.i64 n)]) h).1 (.tup [vsl eI [], vi n]) := by
  simp [finX, rowsIn, rowsIn1, rowIn, frzRows, bel2, bel1, bel0]
  exact .tup (.cons .nilsF (.cons (.refl _) .nil))
theorem fin_own1 (x y : Option Blk) (a : List Int) (m : Nat) (hm : a.length = m) (n : Int) : VLe (finX 0 (.tup [.own 3 m m, V.d (D.int IntKind.i64 n)]) [x, y, none, some (.row 3 1 m (enc eI a))]).1 (.tup [vsl eI a, vi n]) := by
  subst hm
  simp [finX, rowsIn, rowsIn1, rowIn, frzRows, frzB, blkDs, fzV, fz2, fz1, bel2, bel1, bel0]
  exact .tup (.cons .slx (.cons (.refl _) .nil))
theorem fin_sl1 (a : List Int) (n : Int) (h : Heap) : VLe (finX 0 (.tup [V.d (D.sl false a.length (enc eI a)), V.d (D.int IntKind.i64 n)]) h).1 (.tup [vsl eI a, vi n]) := by
  simp [finX, rowsIn, rowsIn1, rowIn, frzRows, bel2, bel1, bel0]
  exact .refl _
theorem divs_ok {c : Cmp} (hf : faultM c = 0) {n : Int} (h0 : 0 ≤ n) (h : n < c.divs.length) : okDv (lat c.divs n) = true := by
  have := List.all_eq_true.1 (fault_ok hf).2.2.2.1 _ (lat_mem (l := c.divs) (k := n.toNat) (by omega))
  have e : ((n.toNat : Nat) : Int) = n := by omega
  rw [e] at this
  exact this
theorem y65a (c : Cmp) (t : Tru) (n : Int) : Yields Try.prog 65 [.agg [.d (.fn (.func 64))], Cv c, Uv t, vi n] (.tup [vsl eI (sumL paidM c t n), vi (sumE c t n)]) := by
  refine q65.yieldsX X23_ok rfl rfl ?_ (w65a c t n) ?_
  · rfl
  simp only [holds, Int.ofNat_eq_natCast, cI_V0, cI_V1, cI_V2, dCe, dC_enc, dUe, dU_enc, dK_map, true_and]
  refine (a58 c t).mono ?_
  rintro v h' (⟨h1, rfl, rfl⟩ | ⟨h1, rfl, rfl⟩)
  · refine .inl ⟨rfl, rfl, fun e => (by cases e), fun _ => ?_, fun h => ?_⟩
    · have e : sumE c t n = askE c t := by simp [sumE, h1]
      have e2 : sumL paidM c t n = [] := by simp [sumL, e, h1]
      rw [e, e2]
      exact fin_nil1 _ _
    · exact (h1 (by simpa using h)).elim
  · obtain ⟨hf, hd, hfi⟩ := askE_ok h1
    have hbs := (fault_ok hf).1
    refine .inr ⟨rfl, rfl, fun e => (by cases e), fun h => (by simp at h), fun _ => ⟨⟨by omega, by omega⟩, fun h2 => ?_, fun h2 => ?_⟩⟩
    · have h2 : inR n 0 (c.divs.length - 1) = false := by simpa using h2
      have e : sumE c t n = 2 := by simp [sumE, h1, h2]
      have e2 : sumL paidM c t n = [] := by simp [sumL, e]
      rw [e, e2]
      exact fin_nil1 _ _
    · have h2 : inR n 0 (c.divs.length - 1) = true := by simpa using h2
      have e : sumE c t n = 0 := by simp [sumE, h1, h2]
      have e2 : sumL paidM c t n = paidM c t (lat c.divs n) := by simp [sumL, e]
      have h3 : 0 ≤ n ∧ n < (c.divs.length : Int) := by simp only [inR, decide_eq_true_eq] at h2; omega
      rw [e, e2]
      refine ⟨⟨by omega, by omega, ok_V (by omega)⟩, ⟨rfl, hf, hd, divs_ok hf h3.1 h3.2, kmF_ok (kmOk_nil c) t 12⟩, ?_⟩
      exact fin_own1 _ _ _ _ rfl _
theorem y65b (c : Cmp) (t : Tru) (n : Int) : Yields Try.prog 65 [.agg [.d (.fn (.func 66))], Cv c, Uv t, vi n] (.tup [vsl eI (sumL claimsM c t n), vi (sumE c t n)]) := by
  refine q65.yieldsX X23_ok rfl rfl ?_ (w65b c t n) ?_
  · rfl
  simp only [holds, Int.ofNat_eq_natCast, cI_V0, cI_V1, cI_V2, dCe, dC_enc, dUe, dU_enc, dK_map, true_and]
  refine (a58 c t).mono ?_
  rintro v h' (⟨h1, rfl, rfl⟩ | ⟨h1, rfl, rfl⟩)
  · refine .inl ⟨rfl, rfl, fun e => (by cases e), fun _ => ?_, fun h => ?_⟩
    · have e : sumE c t n = askE c t := by simp [sumE, h1]
      have e2 : sumL claimsM c t n = [] := by simp [sumL, e, h1]
      rw [e, e2]
      exact fin_nil1 _ _
    · exact (h1 (by simpa using h)).elim
  · obtain ⟨hf, hd, hfi⟩ := askE_ok h1
    have hbs := (fault_ok hf).1
    refine .inr ⟨rfl, rfl, fun e => (by cases e), fun h => (by simp at h), fun _ => ⟨⟨by omega, by omega⟩, fun h2 => ?_, fun h2 => ?_⟩⟩
    · have h2 : inR n 0 (c.divs.length - 1) = false := by simpa using h2
      have e : sumE c t n = 2 := by simp [sumE, h1, h2]
      have e2 : sumL claimsM c t n = [] := by simp [sumL, e]
      rw [e, e2]
      exact fin_nil1 _ _
    · have h2 : inR n 0 (c.divs.length - 1) = true := by simpa using h2
      have e : sumE c t n = 0 := by simp [sumE, h1, h2]
      have e2 : sumL claimsM c t n = claimsM c t (lat c.divs n) := by simp [sumL, e]
      have h3 : 0 ≤ n ∧ n < (c.divs.length : Int) := by simp only [inR, decide_eq_true_eq] at h2; omega
      rw [e, e2]
      refine ⟨⟨by omega, by omega, ok_V (by omega)⟩, ⟨rfl, hf, hd, divs_ok hf h3.1 h3.2, kmF_ok (kmOk_nil c) t 12⟩, ?_⟩
      exact fin_sl1 _ _ _
theorem y65c (c : Cmp) (t : Tru) (n : Int) : Yields Try.prog 65 [.agg [.d (.fn (.func 67))], Cv c, Uv t, vi n] (.tup [vsl eI (sumL rightsM c t n), vi (sumE c t n)]) := by
  refine q65.yieldsX X23_ok rfl rfl ?_ (w65c c t n) ?_
  · rfl
  simp only [holds, Int.ofNat_eq_natCast, cI_V0, cI_V1, cI_V2, dCe, dC_enc, dUe, dU_enc, dK_map, true_and]
  refine (a58 c t).mono ?_
  rintro v h' (⟨h1, rfl, rfl⟩ | ⟨h1, rfl, rfl⟩)
  · refine .inl ⟨rfl, rfl, fun e => (by cases e), fun _ => ?_, fun h => ?_⟩
    · have e : sumE c t n = askE c t := by simp [sumE, h1]
      have e2 : sumL rightsM c t n = [] := by simp [sumL, e, h1]
      rw [e, e2]
      exact fin_nil1 _ _
    · exact (h1 (by simpa using h)).elim
  · obtain ⟨hf, hd, hfi⟩ := askE_ok h1
    have hbs := (fault_ok hf).1
    refine .inr ⟨rfl, rfl, fun e => (by cases e), fun h => (by simp at h), fun _ => ⟨⟨by omega, by omega⟩, fun h2 => ?_, fun h2 => ?_⟩⟩
    · have h2 : inR n 0 (c.divs.length - 1) = false := by simpa using h2
      have e : sumE c t n = 2 := by simp [sumE, h1, h2]
      have e2 : sumL rightsM c t n = [] := by simp [sumL, e]
      rw [e, e2]
      exact fin_nil1 _ _
    · have h2 : inR n 0 (c.divs.length - 1) = true := by simpa using h2
      have e : sumE c t n = 0 := by simp [sumE, h1, h2]
      have e2 : sumL rightsM c t n = rightsM c t (lat c.divs n) := by simp [sumL, e]
      have h3 : 0 ≤ n ∧ n < (c.divs.length : Int) := by simp only [inR, decide_eq_true_eq] at h2; omega
      rw [e, e2]
      refine ⟨⟨by omega, by omega, ok_V (by omega)⟩, ⟨rfl, hf, hd, divs_ok hf h3.1 h3.2, kmF_ok (kmOk_nil c) t 12⟩, ?_⟩
      exact fin_own1 _ _ _ _ (rl_len _ _) _
def ent65 : Ent := fun args _ => match args with
  | [.agg [.d (.fn (.func g))], x, y, .d (.int .i64 n)] => match asC x, asU y with
    | some c, some t => some (Cv c = x ∧ Uv t = y ∧ (g = 64 ∨ g = 66 ∨ g = 67), .tup [vsl eI (sumL (match g with | 64 => paidM | 66 => claimsM | _ => rightsM) c t n), vi (sumE c t n)], none)
    | _, _ => none
  | _ => none
theorem ent65_ok : EntOk Try.prog 65 ent65 := by
  intro args h p v h' he hp
  unfold ent65 at he
  split at he
  · split at he
    · cases he
      rw [← hp.1, ← hp.2.1]
      rcases hp.2.2 with rfl | rfl | rfl
      · exact y65a _ _ _ h
      · exact y65b _ _ _ h
      · exact y65c _ _ _ h
    · cases he
  · cases he
def tab24 : Spec := (spAdd 65 ent65 tab20)
theorem tab24_ok : SpOk Try.prog tab24 := (spAdd_ok ent65_ok tab20_ok)
def X24 : Sx := mkX tab24
theorem X24_ok : SpOk Try.prog X24.sp := tab24_ok
theorem w25 (c : Cmp) (t : Tru) (n : Int) : sx X24 c25 [] (doneF 0 r25) (envOf [Cv c, Uv t, vi n]) [] [] =
    Tr.need (Cv (dCe c) = Cv c ∧ Uv (dUe t) = Uv t ∧ ((64 : FuncId) = (64 : FuncId) ∨ (64 : FuncId) = (66 : FuncId) ∨ (64 : FuncId) = (67 : FuncId))) (Tr.done (V.tup [V.d (D.sl false (List.length (sumL paidM (dCe c) (dUe t) n)) (enc eI (sumL paidM (dCe c) (dUe t) n))), V.d (D.int IntKind.i64 (sumE (dCe c) (dUe t) n))]) []) := by kernel_rfl
theorem y25 (c : Cmp) (t : Tru) (n : Int) : Yields Try.prog 25 [Cv c, Uv t, vi n] (.tup [vsl eI (sumL paidM c t n), vi (sumE c t n)]) := by
  refine q25.yields X24_ok rfl rfl rfl (w25 c t n) ?_
  simp only [holds]
  simp only [dCe, dC_enc, dUe, dU_enc]
  exact ⟨⟨trivial, trivial, by simp⟩, .refl _⟩
theorem w26 (c : Cmp) (t : Tru) (n : Int) : sx X24 c26 [] (doneF 0 r26) (envOf [Cv c, Uv t, vi n]) [] [] =
    Tr.need (Cv (dCe c) = Cv c ∧ Uv (dUe t) = Uv t ∧ ((66 : FuncId) = (64 : FuncId) ∨ (66 : FuncId) = (66 : FuncId) ∨ (66 : FuncId) = (67 : FuncId))) (Tr.done (V.tup [V.d (D.sl false (List.length (sumL claimsM (dCe c) (dUe t) n)) (enc eI (sumL claimsM (dCe c) (dUe t) n))), V.d (D.int IntKind.i64 (sumE (dCe c) (dUe t) n))]) []) := by kernel_rfl
theorem y26 (c : Cmp) (t : Tru) (n : Int) : Yields Try.prog 26 [Cv c, Uv t, vi n] (.tup [vsl eI (sumL claimsM c t n), vi (sumE c t n)]) := by
  refine q26.yields X24_ok rfl rfl rfl (w26 c t n) ?_
  simp only [holds]
  simp only [dCe, dC_enc, dUe, dU_enc]
  exact ⟨⟨trivial, trivial, by simp⟩, .refl _⟩
theorem w27 (c : Cmp) (t : Tru) (n : Int) : sx X24 c27 [] (doneF 0 r27) (envOf [Cv c, Uv t, vi n]) [] [] =
    Tr.need (Cv (dCe c) = Cv c ∧ Uv (dUe t) = Uv t ∧ ((67 : FuncId) = (64 : FuncId) ∨ (67 : FuncId) = (66 : FuncId) ∨ (67 : FuncId) = (67 : FuncId))) (Tr.done (V.tup [V.d (D.sl false (List.length (sumL rightsM (dCe c) (dUe t) n)) (enc eI (sumL rightsM (dCe c) (dUe t) n))), V.d (D.int IntKind.i64 (sumE (dCe c) (dUe t) n))]) []) := by kernel_rfl
theorem y27 (c : Cmp) (t : Tru) (n : Int) : Yields Try.prog 27 [Cv c, Uv t, vi n] (.tup [vsl eI (sumL rightsM c t n), vi (sumE c t n)]) := by
  refine q27.yields X24_ok rfl rfl rfl (w27 c t n) ?_
  simp only [holds]
  simp only [dCe, dC_enc, dUe, dU_enc]
  exact ⟨⟨trivial, trivial, by simp⟩, .refl _⟩
end
end Go.Proofs.Ytdnefcjbcieecaa
namespace Go.Proofs.Ytdnefcjbcieecaa
open Go Go.Proofs
noncomputable section
theorem q68 : FunIs Try.prog 68 G68 c68 r68 := ⟨Try.f68, Try.func68, k68, e68, by kernel_rfl, by kernel_rfl⟩
theorem q28 : FunIs Try.prog 28 G28 c28 r28 := ⟨Try.f28, Try.func28, k28, e28, by kernel_rfl, by kernel_rfl⟩
theorem q29 : FunIs Try.prog 29 G29 c29 r29 := ⟨Try.f29, Try.func29, k29, e29, by kernel_rfl, by kernel_rfl⟩
theorem q30 : FunIs Try.prog 30 G30 c30 r30 := ⟨Try.f30, Try.func30, k30, e30, by kernel_rfl, by kernel_rfl⟩
theorem q31 : FunIs Try.prog 31 G31 c31 r31 := ⟨Try.f31, Try.func31, k31, e31, by kernel_rfl, by kernel_rfl⟩
def E68 (a b : List Int) (k : Nat) : Env := [(0, vsl eI a), (1, vsl eI b), (5, vi k)]
theorem w68 (a b : List Int) : sx X18 c68 [] (doneK r68) (envOf [vsl eI a, vsl eI b]) [] [] =
    Tr.lp (CCode.at c68 [(1 : Nat), (0 : Nat), (1 : Nat), (0 : Nat), (0 : Nat)]) [Fr.blk (0), Fr.seq (CCode.at c68 [(1 : Nat), (1 : Nat)])] [(0, V.d (D.sl false (List.length a) (enc eI a))), (1, V.d (D.sl false (List.length b) (enc eI b))), (5, V.d (D.int IntKind.i64 (0 : Int)))] [] := by kernel_rfl
theorem b68 (a b : List Int) (k : Nat) : sx X18 (CCode.at c68 [1,0,1,0,0]) [] (bodyK r68) (E68 a b k) [] [] =
    let x1_ := (decide (Int.ofNat k < Int.ofNat (List.length b)))
    let x2_ := ((0 : Int) ≤ Int.ofNat k ∧ Int.ofNat k < Int.ofNat (List.length a) ∧ okEl [0] (enc eI a) (1 : Nat) (Int.ofNat k))
    let x3_ := ((0 : Int) ≤ Int.ofNat k ∧ Int.ofNat k < Int.ofNat (List.length b) ∧ okEl [0] (enc eI b) (1 : Nat) (Int.ofNat k))
    Tr.br (decide (Int.ofNat k < Int.ofNat (List.length a))) (Tr.br x1_ (Tr.need x2_ (Tr.need x3_ (Tr.br (cI (enc eI a) (1 : Nat) (Int.ofNat k) (0 : Nat) != cI (enc eI b) (1 : Nat) (Int.ofNat k) (0 : Nat)) (Tr.need x2_ (Tr.need x3_ (Tr.done (V.d (D.bool (decide (cI (enc eI a) (1 : Nat) (Int.ofNat k) (0 : Nat) < cI (enc eI b) (1 : Nat) (Int.ofNat k) (0 : Nat))))) []))) (Tr.need ((-9223372036854775808 : Int) ≤ Int.ofNat k + (1 : Int) ∧ Int.ofNat k + (1 : Int) ≤ (9223372036854775807 : Int)) (Tr.leaf CExit.normal [(0, V.d (D.sl false (List.length a) (enc eI a))), (1, V.d (D.sl false (List.length b) (enc eI b))), (5, V.d (D.int IntKind.i64 (Int.ofNat k + (1 : Int))))] []))))) (Tr.leaf (CExit.exit (0)) [(0, V.d (D.sl false (List.length a) (enc eI a))), (1, V.d (D.sl false (List.length b) (enc eI b))), (5, V.d (D.int IntKind.i64 (Int.ofNat k))), (15, V.d (D.bool x1_))] [])) (Tr.leaf (CExit.exit (0)) [(0, V.d (D.sl false (List.length a) (enc eI a))), (1, V.d (D.sl false (List.length b) (enc eI b))), (5, V.d (D.int IntKind.i64 (Int.ofNat k))), (15, V.d (D.bool false))] []) := by kernel_rfl
theorem x68 (a b : List Int) (u v : V) : sS X18 (doneK r68) [Fr.blk 0, Fr.seq (CCode.at c68 [1,1])] (.exit 0) [(0, vsl eI a), (1, vsl eI b), (5, u), (15, v)] [] [] =
    Tr.done (V.d (D.bool (decide (Int.ofNat (List.length a) < Int.ofNat (List.length b))))) [] := by kernel_rfl
def ent24o : Ent := fun args h => match args, h with
  | [x, y, .d (.int .i64 n)], [] => match asC x, asU y with
    | some c, some t => some (Cv c = x ∧ Uv t = y ∧ faultM c = 0 ∧ datedB c t = true ∧ n ≤ 1000, .own 0 (refH c t n).length (refH c t n).length, some (H24 (refH c t n)))
    | _, _ => none
  | _, _ => none
theorem ent24o_ok : EntOk Try.prog 24 ent24o := by
  intro args h p v h' he hp
  unfold ent24o at he
  split at he
  · split at he
    · cases he
      obtain ⟨rfl, rfl, h2, h3, h4⟩ := hp
      exact a24 _ _ _ h2 h3 h4
    · cases he
  · cases he
def tab24o : Spec := spAdd 24 ent24o tab18
theorem tab24o_ok : SpOk Try.prog tab24o := spAdd_ok ent24o_ok tab18_ok
def X29 : Sx := mkX tab24o
theorem X29_ok : SpOk Try.prog X29.sp := tab24o_ok
theorem w29 (c : Cmp) (t : Tru) (d : Dvd) : sx X29 c29 [] (doneK r29) (envOf [Cv c, Uv t, Dv d]) [] [] =
    Tr.need (Cv (dCe c) = Cv c ∧ Uv (dUe t) = Uv t ∧ faultM (dCe c) = (0 : Int) ∧ datedB (dCe c) (dUe t) = true ∧ Dvd.record d ≤ (1000 : Int)) (Tr.lp (CCode.at c29 [(1 : Nat), (1 : Nat), (0 : Nat), (1 : Nat), (0 : Nat), (0 : Nat)]) [Fr.blk (0), Fr.seq (CCode.at c29 [(1 : Nat), (1 : Nat), (1 : Nat)])] [(5, V.rptr [D.int IntKind.i64 (Dvd.ex d), D.int IntKind.i64 (Dvd.record d), D.int IntKind.i64 (Dvd.pence d)] (0)), (7, V.own (0) (List.length (refH (dCe c) (dUe t) (Dvd.record d))) (List.length (refH (dCe c) (dUe t) (Dvd.record d)))), (8, V.d (D.int IntKind.i64 (0 : Int)))] [some (Blk.row (3) (1) (List.length (refH (dCe c) (dUe t) (Dvd.record d))) (enc eI (refH (dCe c) (dUe t) (Dvd.record d))))]) := by kernel_rfl
def E29 (d : Dvd) (n k : Nat) : Env := [(5, .rptr (Dds d) 0), (7, .own 0 n n), (8, vi k)]
theorem b29 (d : Dvd) (n k : Nat) (l : List Int) : sx X29 (CCode.at c29 [1,1,0,1,0,0]) [] leafK (E29 d n k) [] [some (.row 3 1 n (enc eI l))] =
    let x1_ := (decide (Int.ofNat k < Int.ofNat n))
    let x2_ := (((0 : Int) ≤ Int.ofNat k ∧ Int.ofNat k < Int.ofNat n) ∧ n = n ∧ Int.toNat (Int.ofNat k) * (1 : Nat) + (1 : Nat) ≤ List.length (enc eI l))
    let x3_ := (Int.toNat (Int.ofNat k) * (1 : Nat))
    let x4_ := (Dvd.pence d * dI (enc eI l) x3_)
    let x5_ := [V.d (D.int IntKind.i64 x4_)]
    Tr.br x1_ (Tr.need x2_ (Tr.need (n = n ∧ (enc eI l)[Int.toNat (Int.ofNat k) * (1 : Nat)]? = some (D.int IntKind.i64 (dI (enc eI l) x3_))) (Tr.need ((-9223372036854775808 : Int) ≤ Dvd.pence d * dI (enc eI l) x3_ ∧ Dvd.pence d * dI (enc eI l) x3_ ≤ (9223372036854775807 : Int)) (Tr.need x2_ (Tr.need (n = n ∧ Int.toNat (Int.ofNat k) * (1 : Nat) + List.length x5_ ≤ List.length (enc eI l) ∧ List.length x5_ = (1 : Nat)) (Tr.need ((-9223372036854775808 : Int) ≤ Int.ofNat k + (1 : Int) ∧ Int.ofNat k + (1 : Int) ≤ (9223372036854775807 : Int)) (Tr.leaf CExit.normal [(5, V.rptr [D.int IntKind.i64 (Dvd.ex d), D.int IntKind.i64 (Dvd.record d), D.int IntKind.i64 (Dvd.pence d)] (0)), (7, V.own (0) n n), (8, V.d (D.int IntKind.i64 (Int.ofNat k + (1 : Int))))] [some (Blk.row (3) (1) n (putAt (enc eI l) x3_ [D.int IntKind.i64 x4_]))]))))))) (Tr.leaf (CExit.exit (0)) [(5, V.rptr [D.int IntKind.i64 (Dvd.ex d), D.int IntKind.i64 (Dvd.record d), D.int IntKind.i64 (Dvd.pence d)] (0)), (7, V.own (0) n n), (8, V.d (D.int IntKind.i64 (Int.ofNat k))), (17, V.d (D.bool x1_))] [some (Blk.row (3) (1) n (enc eI l))]) := by kernel_rfl
theorem x29 (u v w : V) (n : Nat) (h : Heap) : sS X29 (doneK r29) [Fr.blk 0, Fr.seq (CCode.at c29 [1,1,1])] (.exit 0) [(5, u), (7, .own 0 n n), (8, v), (17, w)] [] h =
    Tr.done (V.own (0) n n) h := by kernel_rfl
def E30 (c : Cmp) (t : Tru) (d : Dvd) (a : List Int) (k : Nat) : Env := [(3, .rptr (Cds c) 0), (4, .rptr (Uds t) 0), (5, .rptr (Dds d) 0), (7, .own 0 a.length a.length), (8, vi k)]
theorem w30 (c : Cmp) (t : Tru) (d : Dvd) : sx X18 c30 [] (doneK r30) (envOf [Cv c, Uv t, Dv d]) [] [] =
    Tr.lp (CCode.at c30 [(1 : Nat), (1 : Nat), (0 : Nat), (1 : Nat), (0 : Nat), (0 : Nat)]) [Fr.blk (0), Fr.seq (CCode.at c30 [(1 : Nat), (1 : Nat), (1 : Nat)])] [(3, V.rptr (Cds c) (0)), (4, V.rptr (Uds t) (0)), (5, V.rptr [D.int IntKind.i64 (Dvd.ex d), D.int IntKind.i64 (Dvd.record d), D.int IntKind.i64 (Dvd.pence d)] (0)), (7, V.d D.nils), (8, V.d (D.int IntKind.i64 (0 : Int)))] [] := by kernel_rfl
theorem b30 (c : Cmp) (t : Tru) (d : Dvd) (a : List Int) (k : Nat) : sx X18 (CCode.at c30 [1,1,0,1,0,0]) [] leafK (E30 c t d a k) [] (H24 a) =
    let x1_ := (List.length (Cmp.trades c))
    let x2_ := (decide (Int.ofNat k < Int.ofNat x1_))
    let x3_ := ((0 : Int) ≤ Int.ofNat k ∧ Int.ofNat k < Int.ofNat (List.length (Tru.sold t)) ∧ okEl [0] (enc eI (Tru.sold t)) (1 : Nat) (Int.ofNat k))
    let x4_ := (regR (Cmp.closed (dCe c)) (cI (enc eI (Tru.deliv t)) (1 : Nat) (Int.ofNat k) (0 : Nat)))
    let x5_ := ((0 : Int) ≤ Int.ofNat k ∧ Int.ofNat k < Int.ofNat x1_ ∧ okEl [0, 0, 0, 0, 0, 0, 0] (enc eT (Cmp.trades c)) (7 : Nat) (Int.ofNat k))
    let x6_ := (Cv (dCe c) = Cv c ∧ okSs (-1 : Int) (Cmp.splits (dCe c)) = true ∧ List.length (Cmp.splits (dCe c)) ≤ (2 : Nat) ∧ (0 : Int) ≤ cI (enc eT (Cmp.trades c)) (7 : Nat) (Int.ofNat k) (2) ∧ cI (enc eT (Cmp.trades c)) (7 : Nat) (Int.ofNat k) (2) ≤ (100 : Int) ∧ (-1000 : Int) ≤ cI (enc eI (Tru.sold t)) (1 : Nat) (Int.ofNat k) (0 : Nat) ∧ cI (enc eI (Tru.sold t)) (1 : Nat) (Int.ofNat k) (0 : Nat) ≤ (1000 : Int) ∧ Dvd.record d ≤ (1000 : Int))
    let x7_ := (cI (enc eT (Cmp.trades c)) (7 : Nat) (Int.ofNat k) (2) * facM (Cmp.splits (dCe c)) (cI (enc eI (Tru.sold t)) (1 : Nat) (Int.ofNat k) (0 : Nat)) (Dvd.record d))
    let x8_ := (decide (Dvd.ex d ≤ cI (enc eI (Tru.sold t)) (1 : Nat) (Int.ofNat k) (0 : Nat)))
    let x9_ := (inR x4_ (0 : Int) (Dvd.record d))
    let x10_ := ((0 : Int) - Dvd.pence d)
    let x11_ := [D.int IntKind.i64 (x10_ * x7_)]
    let x12_ := (List.length a + (1 : Nat))
    let x13_ := ((-9223372036854775808 : Int) ≤ Int.ofNat k + (1 : Int) ∧ Int.ofNat k + (1 : Int) ≤ (9223372036854775807 : Int))
    let x14_ := (Nat.add (List.length a) (1 : Nat))
    let x15_ := [D.int IntKind.i64 (Dvd.pence d * x7_)]
    let x16_ := [D.int IntKind.i64 (0 : Int)]
    Tr.br x2_ (Tr.need ((0 : Int) ≤ Int.ofNat k ∧ Int.ofNat k < Int.ofNat (List.length (Tru.deliv t)) ∧ okEl [0] (enc eI (Tru.deliv t)) (1 : Nat) (Int.ofNat k)) (Tr.need (Cv (dCe c) = Cv c ∧ (-9223372036854775808 : Int) ≤ cI (enc eI (Tru.deliv t)) (1 : Nat) (Int.ofNat k) (0 : Nat) ∧ List.length (Cmp.closed (dCe c)) ≤ (140737488355328 : Nat)) (Tr.need True (Tr.need x3_ (Tr.br (decide (cI (enc eI (Tru.sold t)) (1 : Nat) (Int.ofNat k) (0 : Nat) < Dvd.ex d)) (Tr.br (!inR x4_ (0 : Int) (Dvd.record d)) (Tr.need x5_ (Tr.need x3_ (Tr.need x6_ (Tr.need ((-9223372036854775808 : Int) ≤ Dvd.pence d * x7_ ∧ Dvd.pence d * x7_ ≤ (9223372036854775807 : Int)) (Tr.need x3_ (Tr.br x8_ (Tr.br x9_ (Tr.need (DP.P (dp ((-9223372036854775808 : Int) ≤ (0 : Int) - Dvd.pence d ∧ (0 : Int) - Dvd.pence d ≤ (9223372036854775807 : Int)))) (Tr.need x5_ (Tr.need x3_ (Tr.need x6_ (Tr.need ((-9223372036854775808 : Int) ≤ x10_ * x7_ ∧ x10_ * x7_ ≤ (9223372036854775807 : Int)) (Tr.need (List.length a = List.length a ∧ (3 : Nat) = (3 : Nat) ∧ (1 : Nat) = (1 : Nat) ∧ List.length (enc eI a) = List.length a * (1 : Nat) ∧ List.length x11_ = (1 : Nat) * (1 : Nat) ∧ List.length a + (1 : Nat) ≤ (140737488355328 : Nat) ∧ x12_ * (8 : Nat) ≤ (140737488355328 : Nat)) (Tr.need x13_ (Tr.leaf CExit.normal [(3, V.rptr (Cds c) (0)), (4, V.rptr (Uds t) (0)), (5, V.rptr [D.int IntKind.i64 (Dvd.ex d), D.int IntKind.i64 (Dvd.record d), D.int IntKind.i64 (Dvd.pence d)] (0)), (7, V.own (0) x14_ x12_), (8, V.d (D.int IntKind.i64 (Int.ofNat k + (1 : Int))))] [some (Blk.row (3) (1) x14_ (enc eI a ++ x11_))])))))))) (Tr.need (List.length a = List.length a ∧ (3 : Nat) = (3 : Nat) ∧ (1 : Nat) = (1 : Nat) ∧ List.length (enc eI a) = List.length a * (1 : Nat) ∧ List.length x15_ = (1 : Nat) * (1 : Nat) ∧ List.length a + (1 : Nat) ≤ (140737488355328 : Nat) ∧ x12_ * (8 : Nat) ≤ (140737488355328 : Nat)) (Tr.need x13_ (Tr.leaf CExit.normal [(3, V.rptr (Cds c) (0)), (4, V.rptr (Uds t) (0)), (5, V.rptr [D.int IntKind.i64 (Dvd.ex d), D.int IntKind.i64 (Dvd.record d), D.int IntKind.i64 (Dvd.pence d)] (0)), (7, V.own (0) x14_ x12_), (8, V.d (D.int IntKind.i64 (Int.ofNat k + (1 : Int))))] [some (Blk.row (3) (1) x14_ (enc eI a ++ x15_))])))) (Tr.need (List.length a = List.length a ∧ (3 : Nat) = (3 : Nat) ∧ (1 : Nat) = (1 : Nat) ∧ List.length (enc eI a) = List.length a * (1 : Nat) ∧ List.length x15_ = (1 : Nat) * (1 : Nat) ∧ List.length a + (1 : Nat) ≤ (140737488355328 : Nat) ∧ x12_ * (8 : Nat) ≤ (140737488355328 : Nat)) (Tr.need x13_ (Tr.leaf CExit.normal [(3, V.rptr (Cds c) (0)), (4, V.rptr (Uds t) (0)), (5, V.rptr [D.int IntKind.i64 (Dvd.ex d), D.int IntKind.i64 (Dvd.record d), D.int IntKind.i64 (Dvd.pence d)] (0)), (7, V.own (0) x14_ x12_), (8, V.d (D.int IntKind.i64 (Int.ofNat k + (1 : Int))))] [some (Blk.row (3) (1) x14_ (enc eI a ++ x15_))]))))))))) (Tr.need x3_ (Tr.br x8_ (Tr.br x9_ (Tr.need (DP.P (dp ((-9223372036854775808 : Int) ≤ (0 : Int) - Dvd.pence d ∧ (0 : Int) - Dvd.pence d ≤ (9223372036854775807 : Int)))) (Tr.need x5_ (Tr.need x3_ (Tr.need x6_ (Tr.need ((-9223372036854775808 : Int) ≤ x10_ * x7_ ∧ x10_ * x7_ ≤ (9223372036854775807 : Int)) (Tr.need (List.length a = List.length a ∧ (3 : Nat) = (3 : Nat) ∧ (1 : Nat) = (1 : Nat) ∧ List.length (enc eI a) = List.length a * (1 : Nat) ∧ List.length x11_ = (1 : Nat) * (1 : Nat) ∧ List.length a + (1 : Nat) ≤ (140737488355328 : Nat) ∧ x12_ * (8 : Nat) ≤ (140737488355328 : Nat)) (Tr.need x13_ (Tr.leaf CExit.normal [(3, V.rptr (Cds c) (0)), (4, V.rptr (Uds t) (0)), (5, V.rptr [D.int IntKind.i64 (Dvd.ex d), D.int IntKind.i64 (Dvd.record d), D.int IntKind.i64 (Dvd.pence d)] (0)), (7, V.own (0) x14_ x12_), (8, V.d (D.int IntKind.i64 (Int.ofNat k + (1 : Int))))] [some (Blk.row (3) (1) x14_ (enc eI a ++ x11_))])))))))) (Tr.need (List.length a = List.length a ∧ (3 : Nat) = (3 : Nat) ∧ (1 : Nat) = (1 : Nat) ∧ List.length (enc eI a) = List.length a * (1 : Nat) ∧ List.length x16_ = (1 : Nat) * (1 : Nat) ∧ List.length a + (1 : Nat) ≤ (140737488355328 : Nat) ∧ x12_ * (8 : Nat) ≤ (140737488355328 : Nat)) (Tr.need x13_ (Tr.leaf CExit.normal [(3, V.rptr (Cds c) (0)), (4, V.rptr (Uds t) (0)), (5, V.rptr [D.int IntKind.i64 (Dvd.ex d), D.int IntKind.i64 (Dvd.record d), D.int IntKind.i64 (Dvd.pence d)] (0)), (7, V.own (0) x14_ x12_), (8, V.d (D.int IntKind.i64 (Int.ofNat k + (1 : Int))))] [some (Blk.row (3) (1) x14_ (enc eI a ++ x16_))])))) (Tr.need (List.length a = List.length a ∧ (3 : Nat) = (3 : Nat) ∧ (1 : Nat) = (1 : Nat) ∧ List.length (enc eI a) = List.length a * (1 : Nat) ∧ List.length x16_ = (1 : Nat) * (1 : Nat) ∧ List.length a + (1 : Nat) ≤ (140737488355328 : Nat) ∧ x12_ * (8 : Nat) ≤ (140737488355328 : Nat)) (Tr.need x13_ (Tr.leaf CExit.normal [(3, V.rptr (Cds c) (0)), (4, V.rptr (Uds t) (0)), (5, V.rptr [D.int IntKind.i64 (Dvd.ex d), D.int IntKind.i64 (Dvd.record d), D.int IntKind.i64 (Dvd.pence d)] (0)), (7, V.own (0) x14_ x12_), (8, V.d (D.int IntKind.i64 (Int.ofNat k + (1 : Int))))] [some (Blk.row (3) (1) x14_ (enc eI a ++ x16_))])))))) (Tr.need x3_ (Tr.br x8_ (Tr.br x9_ (Tr.need (DP.P (dp ((-9223372036854775808 : Int) ≤ (0 : Int) - Dvd.pence d ∧ (0 : Int) - Dvd.pence d ≤ (9223372036854775807 : Int)))) (Tr.need x5_ (Tr.need x3_ (Tr.need x6_ (Tr.need ((-9223372036854775808 : Int) ≤ x10_ * x7_ ∧ x10_ * x7_ ≤ (9223372036854775807 : Int)) (Tr.need (List.length a = List.length a ∧ (3 : Nat) = (3 : Nat) ∧ (1 : Nat) = (1 : Nat) ∧ List.length (enc eI a) = List.length a * (1 : Nat) ∧ List.length x11_ = (1 : Nat) * (1 : Nat) ∧ List.length a + (1 : Nat) ≤ (140737488355328 : Nat) ∧ x12_ * (8 : Nat) ≤ (140737488355328 : Nat)) (Tr.need x13_ (Tr.leaf CExit.normal [(3, V.rptr (Cds c) (0)), (4, V.rptr (Uds t) (0)), (5, V.rptr [D.int IntKind.i64 (Dvd.ex d), D.int IntKind.i64 (Dvd.record d), D.int IntKind.i64 (Dvd.pence d)] (0)), (7, V.own (0) x14_ x12_), (8, V.d (D.int IntKind.i64 (Int.ofNat k + (1 : Int))))] [some (Blk.row (3) (1) x14_ (enc eI a ++ x11_))])))))))) (Tr.need (List.length a = List.length a ∧ (3 : Nat) = (3 : Nat) ∧ (1 : Nat) = (1 : Nat) ∧ List.length (enc eI a) = List.length a * (1 : Nat) ∧ List.length x16_ = (1 : Nat) * (1 : Nat) ∧ List.length a + (1 : Nat) ≤ (140737488355328 : Nat) ∧ x12_ * (8 : Nat) ≤ (140737488355328 : Nat)) (Tr.need x13_ (Tr.leaf CExit.normal [(3, V.rptr (Cds c) (0)), (4, V.rptr (Uds t) (0)), (5, V.rptr [D.int IntKind.i64 (Dvd.ex d), D.int IntKind.i64 (Dvd.record d), D.int IntKind.i64 (Dvd.pence d)] (0)), (7, V.own (0) x14_ x12_), (8, V.d (D.int IntKind.i64 (Int.ofNat k + (1 : Int))))] [some (Blk.row (3) (1) x14_ (enc eI a ++ x16_))])))) (Tr.need (List.length a = List.length a ∧ (3 : Nat) = (3 : Nat) ∧ (1 : Nat) = (1 : Nat) ∧ List.length (enc eI a) = List.length a * (1 : Nat) ∧ List.length x16_ = (1 : Nat) * (1 : Nat) ∧ List.length a + (1 : Nat) ≤ (140737488355328 : Nat) ∧ x12_ * (8 : Nat) ≤ (140737488355328 : Nat)) (Tr.need x13_ (Tr.leaf CExit.normal [(3, V.rptr (Cds c) (0)), (4, V.rptr (Uds t) (0)), (5, V.rptr [D.int IntKind.i64 (Dvd.ex d), D.int IntKind.i64 (Dvd.record d), D.int IntKind.i64 (Dvd.pence d)] (0)), (7, V.own (0) x14_ x12_), (8, V.d (D.int IntKind.i64 (Int.ofNat k + (1 : Int))))] [some (Blk.row (3) (1) x14_ (enc eI a ++ x16_))])))))))))) (Tr.leaf (CExit.exit (0)) [(3, V.rptr (Cds c) (0)), (4, V.rptr (Uds t) (0)), (5, V.rptr [D.int IntKind.i64 (Dvd.ex d), D.int IntKind.i64 (Dvd.record d), D.int IntKind.i64 (Dvd.pence d)] (0)), (7, V.own (0) (List.length a) (List.length a)), (8, V.d (D.int IntKind.i64 (Int.ofNat k))), (15, V.d (D.bool x2_))] [some (Blk.row (3) (1) (List.length a) (enc eI a))]) := by kernel_rfl
theorem x30 (u v w x y : V) (a : List Int) : sS X18 (doneK r30) [Fr.blk 0, Fr.seq (CCode.at c30 [1,1,1])] (.exit 0) [(3, u), (4, v), (5, w), (7, .own 0 a.length a.length), (8, x), (15, y)] [] (H24 a) =
    Tr.done (V.own (0) (List.length a) (List.length a)) [some (Blk.row (3) (1) (List.length a) (enc eI a))] := by kernel_rfl
theorem w31 (c : Cmp) (t : Tru) (d : Dvd) : sx X18 c31 [] (doneK r31) (envOf [Cv c, Uv t, Dv d]) [] [] =
    Tr.lp (CCode.at c31 [(1 : Nat), (1 : Nat), (0 : Nat), (1 : Nat), (0 : Nat), (0 : Nat)]) [Fr.blk (0), Fr.seq (CCode.at c31 [(1 : Nat), (1 : Nat), (1 : Nat)])] [(3, V.rptr (Cds c) (0)), (4, V.rptr (Uds t) (0)), (5, V.rptr [D.int IntKind.i64 (Dvd.ex d), D.int IntKind.i64 (Dvd.record d), D.int IntKind.i64 (Dvd.pence d)] (0)), (7, V.d D.nils), (8, V.d (D.int IntKind.i64 (0 : Int)))] [] := by kernel_rfl
theorem b31 (c : Cmp) (t : Tru) (d : Dvd) (a : List Int) (k : Nat) : sx X18 (CCode.at c31 [1,1,0,1,0,0]) [] leafK (E30 c t d a k) [] (H24 a) =
    let x1_ := (decide (Int.ofNat k < Cmp.houses c))
    let x2_ := [some (Blk.row (3) (1) (List.length a) (enc eI a))]
    Tr.br x1_ (Tr.need ((0 : Int) ≤ Int.ofNat k ∧ Int.ofNat k < Int.ofNat (List.length (Cmp.held c)) ∧ okEl [0] (enc eI (Cmp.held c)) (1 : Nat) (Int.ofNat k)) (Tr.need (Cv (dCe c) = Cv c ∧ okSs (-1 : Int) (Cmp.splits (dCe c)) = true ∧ List.length (Cmp.splits (dCe c)) ≤ (2 : Nat) ∧ (0 : Int) ≤ cI (enc eI (Cmp.held c)) (1 : Nat) (Int.ofNat k) (0 : Nat) ∧ cI (enc eI (Cmp.held c)) (1 : Nat) (Int.ofNat k) (0 : Nat) ≤ (100 : Int) ∧ (-1000 : Int) ≤ (-1 : Int) ∧ (-1 : Int) ≤ (1000 : Int) ∧ Dvd.record d ≤ (1000 : Int)) (Tr.lp (CCode.at c31 [(1 : Nat), (1 : Nat), (0 : Nat), (1 : Nat), (0 : Nat), (0 : Nat), (1 : Nat), (0 : Nat), (0 : Nat), (1 : Nat), (0 : Nat), (1 : Nat), (0 : Nat), (0 : Nat)]) [Fr.blk (2), Fr.seq (CCode.at c31 [(1 : Nat), (1 : Nat), (0 : Nat), (1 : Nat), (0 : Nat), (0 : Nat), (1 : Nat), (0 : Nat), (0 : Nat), (1 : Nat), (1 : Nat)]), Fr.blk (1), Fr.seq (CCode.at c31 [(1 : Nat), (1 : Nat), (0 : Nat), (1 : Nat), (0 : Nat), (0 : Nat), (1 : Nat), (1 : Nat)])] [(3, V.rptr (Cds c) (0)), (4, V.rptr (Uds t) (0)), (5, V.rptr [D.int IntKind.i64 (Dvd.ex d), D.int IntKind.i64 (Dvd.record d), D.int IntKind.i64 (Dvd.pence d)] (0)), (7, V.own (0) (List.length a) (List.length a)), (8, V.d (D.int IntKind.i64 (Int.ofNat k))), (9, V.d (D.int IntKind.i64 (cI (enc eI (Cmp.held c)) (1 : Nat) (Int.ofNat k) (0 : Nat) * facM (Cmp.splits (dCe c)) (-1 : Int) (Dvd.record d)))), (10, V.d (D.int IntKind.i64 (0 : Int)))] x2_))) (Tr.leaf (CExit.exit (0)) [(3, V.rptr (Cds c) (0)), (4, V.rptr (Uds t) (0)), (5, V.rptr [D.int IntKind.i64 (Dvd.ex d), D.int IntKind.i64 (Dvd.record d), D.int IntKind.i64 (Dvd.pence d)] (0)), (7, V.own (0) (List.length a) (List.length a)), (8, V.d (D.int IntKind.i64 (Int.ofNat k))), (15, V.d (D.bool x1_))] x2_) := by kernel_rfl
def E31i (c : Cmp) (t : Tru) (d : Dvd) (a : List Int) (h : Nat) (n : Int) (k : Nat) : Env := [(3, .rptr (Cds c) 0), (4, .rptr (Uds t) 0), (5, .rptr (Dds d) 0), (7, .own 0 a.length a.length), (8, vi h), (9, vi n), (10, vi k)]
theorem b31i (c : Cmp) (t : Tru) (d : Dvd) (a : List Int) (h : Nat) (n : Int) (k : Nat) : sx X18 (CCode.at c31 [1,1,0,1,0,0,1,0,0,1,0,1,0,0]) [] leafK (E31i c t d a h n k) [] (H24 a) =
    let x1_ := (List.length (Cmp.trades c))
    let x2_ := (decide (Int.ofNat k < Int.ofNat x1_))
    let x3_ := ((0 : Int) ≤ Int.ofNat k ∧ Int.ofNat k < Int.ofNat (List.length (Tru.sold t)) ∧ okEl [0] (enc eI (Tru.sold t)) (1 : Nat) (Int.ofNat k))
    let x4_ := (decide (cI (enc eI (Tru.sold t)) (1 : Nat) (Int.ofNat k) (0 : Nat) < Dvd.ex d))
    let x5_ := (Cv (dCe c) = Cv c ∧ okSs (-1 : Int) (Cmp.splits (dCe c)) = true ∧ List.length (Cmp.splits (dCe c)) ≤ (2 : Nat) ∧ (0 : Int) ≤ cI (enc eT (Cmp.trades c)) (7 : Nat) (Int.ofNat k) (2) ∧ cI (enc eT (Cmp.trades c)) (7 : Nat) (Int.ofNat k) (2) ≤ (100 : Int) ∧ (-1000 : Int) ≤ cI (enc eI (Tru.sold t)) (1 : Nat) (Int.ofNat k) (0 : Nat) ∧ cI (enc eI (Tru.sold t)) (1 : Nat) (Int.ofNat k) (0 : Nat) ≤ (1000 : Int) ∧ Dvd.record d ≤ (1000 : Int))
    let x6_ := (cI (enc eI (Tru.sold t)) (1 : Nat) (Int.ofNat k) (0 : Nat))
    let x7_ := (cI (enc eT (Cmp.trades c)) (7 : Nat) (Int.ofNat k) (0 : Nat) == Int.ofNat h)
    let x8_ := ((-9223372036854775808 : Int) ≤ Int.ofNat k + (1 : Int) ∧ Int.ofNat k + (1 : Int) ≤ (9223372036854775807 : Int))
    let x9_ := (Blk.row (3) (1) (List.length a) (enc eI a))
    let x10_ := [some x9_, some (Blk.box [V.d (D.int IntKind.i64 (cI (enc eT (Cmp.trades c)) (7 : Nat) (Int.ofNat k) (0 : Nat))), V.d (D.int IntKind.i64 (cI (enc eT (Cmp.trades c)) (7 : Nat) (Int.ofNat k) (1))), V.d (D.int IntKind.i64 (cI (enc eT (Cmp.trades c)) (7 : Nat) (Int.ofNat k) (2))), V.d (D.int IntKind.i64 (cI (enc eT (Cmp.trades c)) (7 : Nat) (Int.ofNat k) (3))), V.d (D.int IntKind.i64 (cI (enc eT (Cmp.trades c)) (7 : Nat) (Int.ofNat k) (4))), V.d (D.int IntKind.i64 (cI (enc eT (Cmp.trades c)) (7 : Nat) (Int.ofNat k) (5))), V.d (D.int IntKind.i64 (cI (enc eT (Cmp.trades c)) (7 : Nat) (Int.ofNat k) (6)))])]
    Tr.br x2_ (Tr.need ((0 : Int) ≤ Int.ofNat k ∧ Int.ofNat k < Int.ofNat x1_ ∧ okEl [0, 0, 0, 0, 0, 0, 0] (enc eT (Cmp.trades c)) (7 : Nat) (Int.ofNat k)) (Tr.need x3_ (Tr.br x4_ (Tr.br (cI (enc eT (Cmp.trades c)) (7 : Nat) (Int.ofNat k) (1) == Int.ofNat h) (Tr.need x3_ (Tr.need x5_ (Tr.need ((-9223372036854775808 : Int) ≤ n + cI (enc eT (Cmp.trades c)) (7 : Nat) (Int.ofNat k) (2) * facM (Cmp.splits (dCe c)) x6_ (Dvd.record d) ∧ n + cI (enc eT (Cmp.trades c)) (7 : Nat) (Int.ofNat k) (2) * facM (Cmp.splits (dCe c)) x6_ (Dvd.record d) ≤ (9223372036854775807 : Int)) (Tr.need x3_ (Tr.br x4_ (Tr.br x7_ (Tr.need x3_ (Tr.need x5_ (Tr.need ((-9223372036854775808 : Int) ≤ n + cI (enc eT (Cmp.trades c)) (7 : Nat) (Int.ofNat k) (2) * facM (Cmp.splits (dCe c)) x6_ (Dvd.record d) - cI (enc eT (Cmp.trades c)) (7 : Nat) (Int.ofNat k) (2) * facM (Cmp.splits (dCe c)) x6_ (Dvd.record d) ∧ n + cI (enc eT (Cmp.trades c)) (7 : Nat) (Int.ofNat k) (2) * facM (Cmp.splits (dCe c)) x6_ (Dvd.record d) - cI (enc eT (Cmp.trades c)) (7 : Nat) (Int.ofNat k) (2) * facM (Cmp.splits (dCe c)) x6_ (Dvd.record d) ≤ (9223372036854775807 : Int)) (Tr.need x8_ (Tr.leaf CExit.normal [(3, V.rptr (Cds c) (0)), (4, V.rptr (Uds t) (0)), (5, V.rptr [D.int IntKind.i64 (Dvd.ex d), D.int IntKind.i64 (Dvd.record d), D.int IntKind.i64 (Dvd.pence d)] (0)), (7, V.own (0) (List.length a) (List.length a)), (8, V.d (D.int IntKind.i64 (Int.ofNat h))), (9, V.d (D.int IntKind.i64 (n + cI (enc eT (Cmp.trades c)) (7 : Nat) (Int.ofNat k) (2) * facM (Cmp.splits (dCe c)) x6_ (Dvd.record d) - cI (enc eT (Cmp.trades c)) (7 : Nat) (Int.ofNat k) (2) * facM (Cmp.splits (dCe c)) x6_ (Dvd.record d)))), (10, V.d (D.int IntKind.i64 (Int.ofNat k + (1 : Int))))] x10_))))) (Tr.need x8_ (Tr.leaf CExit.normal [(3, V.rptr (Cds c) (0)), (4, V.rptr (Uds t) (0)), (5, V.rptr [D.int IntKind.i64 (Dvd.ex d), D.int IntKind.i64 (Dvd.record d), D.int IntKind.i64 (Dvd.pence d)] (0)), (7, V.own (0) (List.length a) (List.length a)), (8, V.d (D.int IntKind.i64 (Int.ofNat h))), (9, V.d (D.int IntKind.i64 (n + cI (enc eT (Cmp.trades c)) (7 : Nat) (Int.ofNat k) (2) * facM (Cmp.splits (dCe c)) x6_ (Dvd.record d)))), (10, V.d (D.int IntKind.i64 (Int.ofNat k + (1 : Int))))] x10_))) (Tr.need x8_ (Tr.leaf CExit.normal [(3, V.rptr (Cds c) (0)), (4, V.rptr (Uds t) (0)), (5, V.rptr [D.int IntKind.i64 (Dvd.ex d), D.int IntKind.i64 (Dvd.record d), D.int IntKind.i64 (Dvd.pence d)] (0)), (7, V.own (0) (List.length a) (List.length a)), (8, V.d (D.int IntKind.i64 (Int.ofNat h))), (9, V.d (D.int IntKind.i64 (n + cI (enc eT (Cmp.trades c)) (7 : Nat) (Int.ofNat k) (2) * facM (Cmp.splits (dCe c)) x6_ (Dvd.record d)))), (10, V.d (D.int IntKind.i64 (Int.ofNat k + (1 : Int))))] x10_))))))) (Tr.need x3_ (Tr.br x4_ (Tr.br x7_ (Tr.need x3_ (Tr.need x5_ (Tr.need ((-9223372036854775808 : Int) ≤ n - cI (enc eT (Cmp.trades c)) (7 : Nat) (Int.ofNat k) (2) * facM (Cmp.splits (dCe c)) x6_ (Dvd.record d) ∧ n - cI (enc eT (Cmp.trades c)) (7 : Nat) (Int.ofNat k) (2) * facM (Cmp.splits (dCe c)) x6_ (Dvd.record d) ≤ (9223372036854775807 : Int)) (Tr.need x8_ (Tr.leaf CExit.normal [(3, V.rptr (Cds c) (0)), (4, V.rptr (Uds t) (0)), (5, V.rptr [D.int IntKind.i64 (Dvd.ex d), D.int IntKind.i64 (Dvd.record d), D.int IntKind.i64 (Dvd.pence d)] (0)), (7, V.own (0) (List.length a) (List.length a)), (8, V.d (D.int IntKind.i64 (Int.ofNat h))), (9, V.d (D.int IntKind.i64 (n - cI (enc eT (Cmp.trades c)) (7 : Nat) (Int.ofNat k) (2) * facM (Cmp.splits (dCe c)) x6_ (Dvd.record d)))), (10, V.d (D.int IntKind.i64 (Int.ofNat k + (1 : Int))))] x10_))))) (Tr.need x8_ (Tr.leaf CExit.normal [(3, V.rptr (Cds c) (0)), (4, V.rptr (Uds t) (0)), (5, V.rptr [D.int IntKind.i64 (Dvd.ex d), D.int IntKind.i64 (Dvd.record d), D.int IntKind.i64 (Dvd.pence d)] (0)), (7, V.own (0) (List.length a) (List.length a)), (8, V.d (D.int IntKind.i64 (Int.ofNat h))), (9, V.d (D.int IntKind.i64 n)), (10, V.d (D.int IntKind.i64 (Int.ofNat k + (1 : Int))))] x10_))) (Tr.need x8_ (Tr.leaf CExit.normal [(3, V.rptr (Cds c) (0)), (4, V.rptr (Uds t) (0)), (5, V.rptr [D.int IntKind.i64 (Dvd.ex d), D.int IntKind.i64 (Dvd.record d), D.int IntKind.i64 (Dvd.pence d)] (0)), (7, V.own (0) (List.length a) (List.length a)), (8, V.d (D.int IntKind.i64 (Int.ofNat h))), (9, V.d (D.int IntKind.i64 n)), (10, V.d (D.int IntKind.i64 (Int.ofNat k + (1 : Int))))] x10_))))) (Tr.need x3_ (Tr.br x4_ (Tr.br x7_ (Tr.need x3_ (Tr.need x5_ (Tr.need ((-9223372036854775808 : Int) ≤ n - cI (enc eT (Cmp.trades c)) (7 : Nat) (Int.ofNat k) (2) * facM (Cmp.splits (dCe c)) x6_ (Dvd.record d) ∧ n - cI (enc eT (Cmp.trades c)) (7 : Nat) (Int.ofNat k) (2) * facM (Cmp.splits (dCe c)) x6_ (Dvd.record d) ≤ (9223372036854775807 : Int)) (Tr.need x8_ (Tr.leaf CExit.normal [(3, V.rptr (Cds c) (0)), (4, V.rptr (Uds t) (0)), (5, V.rptr [D.int IntKind.i64 (Dvd.ex d), D.int IntKind.i64 (Dvd.record d), D.int IntKind.i64 (Dvd.pence d)] (0)), (7, V.own (0) (List.length a) (List.length a)), (8, V.d (D.int IntKind.i64 (Int.ofNat h))), (9, V.d (D.int IntKind.i64 (n - cI (enc eT (Cmp.trades c)) (7 : Nat) (Int.ofNat k) (2) * facM (Cmp.splits (dCe c)) x6_ (Dvd.record d)))), (10, V.d (D.int IntKind.i64 (Int.ofNat k + (1 : Int))))] x10_))))) (Tr.need x8_ (Tr.leaf CExit.normal [(3, V.rptr (Cds c) (0)), (4, V.rptr (Uds t) (0)), (5, V.rptr [D.int IntKind.i64 (Dvd.ex d), D.int IntKind.i64 (Dvd.record d), D.int IntKind.i64 (Dvd.pence d)] (0)), (7, V.own (0) (List.length a) (List.length a)), (8, V.d (D.int IntKind.i64 (Int.ofNat h))), (9, V.d (D.int IntKind.i64 n)), (10, V.d (D.int IntKind.i64 (Int.ofNat k + (1 : Int))))] x10_))) (Tr.need x8_ (Tr.leaf CExit.normal [(3, V.rptr (Cds c) (0)), (4, V.rptr (Uds t) (0)), (5, V.rptr [D.int IntKind.i64 (Dvd.ex d), D.int IntKind.i64 (Dvd.record d), D.int IntKind.i64 (Dvd.pence d)] (0)), (7, V.own (0) (List.length a) (List.length a)), (8, V.d (D.int IntKind.i64 (Int.ofNat h))), (9, V.d (D.int IntKind.i64 n)), (10, V.d (D.int IntKind.i64 (Int.ofNat k + (1 : Int))))] x10_))))))) (Tr.leaf (CExit.exit (2)) [(3, V.rptr (Cds c) (0)), (4, V.rptr (Uds t) (0)), (5, V.rptr [D.int IntKind.i64 (Dvd.ex d), D.int IntKind.i64 (Dvd.record d), D.int IntKind.i64 (Dvd.pence d)] (0)), (7, V.own (0) (List.length a) (List.length a)), (8, V.d (D.int IntKind.i64 (Int.ofNat h))), (9, V.d (D.int IntKind.i64 n)), (10, V.d (D.int IntKind.i64 (Int.ofNat k))), (31, V.d (D.bool x2_))] [some x9_]) := by kernel_rfl
theorem x31i (c : Cmp) (t : Tru) (d : Dvd) (a : List Int) (h : Nat) (n : Int) (u v : V) : sS X18 leafK [Fr.blk 2, Fr.seq (CCode.at c31 [1,1,0,1,0,0,1,0,0,1,1]), Fr.blk 1, Fr.seq (CCode.at c31 [1,1,0,1,0,0,1,1])] (.exit 2) [(3, .rptr (Cds c) 0), (4, .rptr (Uds t) 0), (5, .rptr (Dds d) 0), (7, .own 0 a.length a.length), (8, vi h), (9, vi n), (10, u), (31, v)] [] (H24 a) =
    Tr.need ((-9223372036854775808 : Int) ≤ Dvd.pence d * n ∧ Dvd.pence d * n ≤ (9223372036854775807 : Int)) (Tr.need (List.length a = List.length a ∧ (3 : Nat) = (3 : Nat) ∧ (1 : Nat) = (1 : Nat) ∧ List.length (enc eI a) = List.length a * (1 : Nat) ∧ List.length [D.int IntKind.i64 (Dvd.pence d * n)] = (1 : Nat) * (1 : Nat) ∧ List.length a + (1 : Nat) ≤ (140737488355328 : Nat) ∧ (List.length a + (1 : Nat)) * (8 : Nat) ≤ (140737488355328 : Nat)) (Tr.need ((-9223372036854775808 : Int) ≤ Int.ofNat h + (1 : Int) ∧ Int.ofNat h + (1 : Int) ≤ (9223372036854775807 : Int)) (Tr.leaf CExit.normal [(3, V.rptr (Cds c) (0)), (4, V.rptr (Uds t) (0)), (5, V.rptr [D.int IntKind.i64 (Dvd.ex d), D.int IntKind.i64 (Dvd.record d), D.int IntKind.i64 (Dvd.pence d)] (0)), (7, V.own (0) (Nat.add (List.length a) (1 : Nat)) (List.length a + (1 : Nat))), (8, V.d (D.int IntKind.i64 (Int.ofNat h + (1 : Int))))] [some (Blk.row (3) (1) (Nat.add (List.length a) (1 : Nat)) (enc eI a ++ [D.int IntKind.i64 (Dvd.pence d * n)]))]))) := by kernel_rfl
theorem x31 (u v w x y : V) (a : List Int) : sS X18 (doneK r31) [Fr.blk 0, Fr.seq (CCode.at c31 [1,1,1])] (.exit 0) [(3, u), (4, v), (5, w), (7, .own 0 a.length a.length), (8, x), (15, y)] [] (H24 a) =
    Tr.done (V.own (0) (List.length a) (List.length a)) [some (Blk.row (3) (1) (List.length a) (enc eI a))] := by kernel_rfl
def befF (a b : List Int) : Nat → Nat → Bool
  | 0, _ => decide (a.length < b.length)
  | n + 1, k => if lat a (k : Nat) = lat b (k : Nat) then befF a b n (k + 1) else decide (lat a (k : Nat) < lat b (k : Nat))
def beforeB (a b : List Int) : Bool := befF a b (min a.length b.length) 0
theorem y68 (a b : List Int) (ha : a.length ≤ 1000000) : Yields Try.prog 68 [vsl eI a, vsl eI b] (vb (beforeB a b)) := by
  refine q68.yieldsK X18_ok rfl rfl rfl (w68 a b) ?_
  simp only [holds]
  refine lp_countK X18_ok rfl (min a.length b.length) (fun k => beforeB a b = befF a b (min a.length b.length - k) k) (E68 a b) (fun _ => []) rfl rfl rfl (fun k _ => ⟨rfl, rfl, rfl⟩) ?_
  intro k hk hA Q' hn he
  rw [b68]
  simp only [holds, Int.ofNat_eq_natCast, cI_I]
  have hend : min a.length b.length ≤ k → beforeB a b = decide ((a.length : Int) < b.length) := fun h => by
    have : min a.length b.length - k = 0 := by omega
    rw [hA, this, befF]
    exact decide_eq_decide.2 (by omega)
  refine ⟨fun e1 => ⟨fun e2 => ?_, fun e2 => ?_⟩, fun e1 => ?_⟩
  · have l1 : k < a.length := by have := of_decide_eq_true e1; omega
    have l2 : k < b.length := by have := of_decide_eq_true e2; omega
    have o1 : okEl [0] (enc eI a) 1 (k : Nat) := ok_I (by simpa using l1)
    have o2 : okEl [0] (enc eI b) 1 (k : Nat) := ok_I (by simpa using l2)
    have e : min a.length b.length - k = (min a.length b.length - (k + 1)) + 1 := by omega
    rw [e, befF] at hA
    refine ⟨⟨by omega, by omega, o1⟩, ⟨by omega, by omega, o2⟩, fun e3 => ⟨⟨by omega, by omega, o1⟩, ⟨by omega, by omega, o2⟩, ?_⟩, fun e3 => ⟨⟨by omega, by omega⟩, ?_⟩⟩
    · rw [if_neg (by simpa using e3)] at hA
      exact .of_eq (congrArg vb hA.symm)
    · rw [if_pos (by simpa using e3)] at hA
      exact hn [] (by omega) hA
  · refine he _ _ _ (ret_tree X18_ok (doneK_ok rfl) (x68 _ _ _ _) ?_)
    simp only [holds]
    exact .of_eq (congrArg vb (hend (by have := of_decide_eq_false e2; omega)).symm)
  · refine he _ _ _ (ret_tree X18_ok (doneK_ok rfl) (x68 _ _ _ _) ?_)
    simp only [holds]
    exact .of_eq (congrArg vb (hend (by have := of_decide_eq_false e1; omega)).symm)
def entLL (q : List Int → List Int → Prop) (m : List Int → List Int → V) : Ent := fun args _ => match args with
  | [.d (.sl false n1 d1), .d (.sl false n2 d2)] => some (okL eI 1 gI n1 d1 ∧ okL eI 1 gI n2 d2 ∧ q (dec 1 gI n1 d1) (dec 1 gI n2 d2), m (dec 1 gI n1 d1) (dec 1 gI n2 d2), none)
  | _ => none
theorem entLL_ok {P : Program} {f : Nat} {q : List Int → List Int → Prop} {m : List Int → List Int → V} (hy : ∀ a b, q a b → Yields P f [vsl eI a, vsl eI b] (m a b)) : EntOk P f (entLL q m) := by
  intro args h p v h' he hp
  unfold entLL at he
  split at he
  · cases he; rw [okL_vsl hp.1, okL_vsl hp.2.1]; exact hy _ _ hp.2.2 h
  · cases he
def ent68 := entLL (fun a _ => a.length ≤ 1000000) (fun a b => vb (beforeB a b))
theorem ent68_ok : EntOk Try.prog 68 ent68 := entLL_ok fun a b h => y68 a b h
def tab25 : Spec := (spAdd 68 ent68 tab24)
theorem tab25_ok : SpOk Try.prog tab25 := (spAdd_ok ent68_ok tab24_ok)
def X25 : Sx := mkX tab25
theorem X25_ok : SpOk Try.prog X25.sp := tab25_ok
theorem befF_self (a : List Int) : ∀ n k, befF a a n k = false
  | 0, _ => by simp [befF]
  | n + 1, k => by rw [befF, if_pos rfl]; exact befF_self a n _
theorem befF_eq {a b : List Int} (hl : a.length = b.length) : ∀ n k, befF a b n k = false → befF b a n k = false → ∀ j, k ≤ j → j < k + n → lat a (j : Nat) = lat b (j : Nat)
  | 0, k, _, _, j, h1, h2 => by omega
  | n + 1, k, h1, h2, j, h3, h4 => by
    rw [befF] at h1 h2
    by_cases e : lat a (k : Nat) = lat b (k : Nat)
    · rw [if_pos e] at h1
      rw [if_pos e.symm] at h2
      rcases Nat.eq_or_lt_of_le h3 with h | h
      · rw [← h]; exact e
      · exact befF_eq hl n (k + 1) h1 h2 j h (by omega)
    · rw [if_neg e] at h1
      rw [if_neg (Ne.symm e)] at h2
      have h1 := of_decide_eq_false h1
      have h2 := of_decide_eq_false h2
      omega
theorem lists_eq {a b : List Int} (hl : a.length = b.length) (h1 : beforeB a b = false) (h2 : beforeB b a = false) : a = b := by
  unfold beforeB at h1 h2
  rw [Nat.min_comm] at h2
  have := befF_eq hl _ _ h1 h2
  apply List.ext_getElem hl
  intro i g1 g2
  have h := this i (Nat.zero_le _) (by omega)
  simpa [lat, g1, g2] using h
theorem w28 (a b : List Int) (ha : a.length ≤ 1000000) (hb : b.length ≤ 1000000) : sx X25 c28 [] (doneF 0 r28) (envOf [vsl eI a, vsl eI b]) [] [] =
    Tr.br (Int.ofNat (List.length a) == Int.ofNat (List.length b)) (Tr.need (okL eI (1 : Nat) gI (List.length a) (enc eI a) ∧ okL eI (1 : Nat) gI (List.length b) (enc eI b) ∧ List.length (dec (1 : Nat) gI (List.length a) (enc eI a)) ≤ (1000000 : Nat)) (Tr.br (!beforeB (dec (1 : Nat) gI (List.length a) (enc eI a)) (dec (1 : Nat) gI (List.length b) (enc eI b))) (Tr.need (okL eI (1 : Nat) gI (List.length b) (enc eI b) ∧ okL eI (1 : Nat) gI (List.length a) (enc eI a) ∧ List.length (dec (1 : Nat) gI (List.length b) (enc eI b)) ≤ (1000000 : Nat)) (Tr.done (V.d (D.bool !beforeB (dec (1 : Nat) gI (List.length b) (enc eI b)) (dec (1 : Nat) gI (List.length a) (enc eI a)))) [])) (Tr.done (V.d (D.bool false)) []))) (Tr.done (V.d (D.bool false)) []) := by kernel_rfl
theorem y28 (a b : List Int) (ha : a.length ≤ 1000000) (hb : b.length ≤ 1000000) : Yields Try.prog 28 [vsl eI a, vsl eI b] (vb (decide (a = b))) := by
  refine q28.yields X25_ok rfl rfl rfl (w28 a b ha hb) ?_
  simp only [holds]
  simp only [okL_I, dec_I, Int.ofNat_eq_natCast]
  have hno : a ≠ b → VLe (V.d (D.bool false)) (vb (decide (a = b))) := fun h => .of_eq (congrArg vb (decide_eq_false h).symm)
  refine ⟨fun e1 => ⟨⟨by omega, by omega, ha⟩, fun e2 => ⟨⟨by omega, by omega, hb⟩, ?_⟩, fun e2 => hno ?_⟩, fun e1 => hno ?_⟩
  · have e1 : a.length = b.length := by have := eq_of_beq e1; omega
    have e2 : beforeB a b = false := by simpa using e2
    refine .of_eq (congrArg vb ?_)
    by_cases e : a = b
    · subst e
      simp [e2]
    · have : beforeB b a = true := by
        cases h : beforeB b a with
        | true => rfl
        | false => exact (e (lists_eq e1 e2 h)).elim
      simp [this, e]
  · rintro rfl
    have : beforeB a a = false := befF_self a _ _
    rw [this] at e2; simp at e2
  · rintro rfl; simp at e1
theorem fin_rl (f : Nat → Int) (n : Nat) : VLe (finX 0 (.own 0 n n) [some (.row 3 1 n (enc eI (rl f n)))]).1 (vsl eI (rl f n)) := by
  have := fin_own 3 (rl f n)
  rw [rl_len] at this
  exact this
theorem y29 (c : Cmp) (t : Tru) (d : Dvd) (hf : faultM c = 0) (hd : datedB c t = true) (hv : okDv d = true) : Yields Try.prog 29 [Cv c, Uv t, Dv d] (vsl eI (paidM c t d)) := by
  have hdv := div_in hv
  refine q29.yieldsX X29_ok rfl rfl ?_ (w29 c t d) ?_
  · rfl
  simp only [holds, dCe, dC_enc, dUe, dU_enc, true_and, refH_len]
  refine ⟨⟨hf, hd, by omega⟩, ?_⟩
  refine lp_count X29_ok c.held.length (fun _ => True) (fun k => E29 d c.held.length k) (fun k => [some (.row 3 1 c.held.length (enc eI (rl (fun i => if i < k then d.pence * heldF c t d.record i else heldF c t d.record i) c.held.length)))]) rfl ?_ trivial (fun k _ => ⟨rfl, rfl, rfl⟩) ?_
  · simp [refH, refK, rl]
  intro k hk _ Q' hn he hr
  rw [b29]
  simp only [holds, Int.ofNat_eq_natCast, true_and]
  refine ⟨fun e1 => ?_, fun e1 => ?_⟩
  · have hlt : k < c.held.length := by have := of_decide_eq_true e1; omega
    have h0 : (0 : Int) ≤ (k : Nat) := by omega
    have h1 : ((k : Nat) : Int) < (c.held.length : Nat) := by omega
    rw [rl_dI _ h0 h1, rl_put _ h0 h1, rl_get _ h0 h1]
    have hh := heldF_in hf t d.record k
    have hbs := (fault_ok hf).1
    have hp := pence_in hdv.2.2.2.1 hdv.2.2.2.2 (n := heldF c t d.record k) (by omega)
    have hn1 := hn [] hlt trivial
    have ef : setF (fun i => if i < k then d.pence * heldF c t d.record i else heldF c t d.record i) ((k : Nat) : Int).toNat (d.pence * (if ((k : Nat) : Int).toNat < k then d.pence * heldF c t d.record ((k : Nat) : Int).toNat else heldF c t d.record ((k : Nat) : Int).toNat)) = fun i => if i < k + 1 then d.pence * heldF c t d.record i else heldF c t d.record i := by
      funext i
      simp only [setF, Int.toNat_natCast]
      by_cases e : i = k
      · rw [if_pos e, if_neg (by omega), if_pos (by omega), e]
      · rw [if_neg e]
        by_cases e2 : i < k
        · rw [if_pos e2, if_pos (by omega)]
        · rw [if_neg e2, if_neg (by omega)]
    rw [ef]
    have hp2 : d.pence * (if ((k : Nat) : Int).toNat < k then d.pence * heldF c t d.record ((k : Nat) : Int).toNat else heldF c t d.record ((k : Nat) : Int).toNat) = d.pence * heldF c t d.record k := by
      rw [Int.toNat_natCast, if_neg (by omega)]
    rw [hp2]
    simp only [len_I, rl_len]
    exact ⟨⟨⟨h0, h1⟩, by omega⟩, trivial, ⟨by omega, by omega⟩, ⟨⟨h0, h1⟩, by omega⟩, ⟨by simp; omega, rfl⟩, ⟨by omega, by omega⟩, hn1⟩
  · have hge : k = c.held.length := by have := of_decide_eq_false e1; omega
    subst hge
    refine he _ _ _ (ret_tree (R := fun v1 h1 => VLe (finX 0 v1 h1).1 (vsl eI (paidM c t d))) X29_ok (doneK_ok rfl) (x29 _ _ _ _ _) ?_)
    simp only [holds]
    have ep : paidM c t d = rl (fun i => if i < c.held.length then d.pence * heldF c t d.record i else heldF c t d.record i) c.held.length := by
      rw [paid_rl]
      apply List.ext_getElem (by simp)
      intro i h1 h2
      simp only [rl, List.getElem_map, List.getElem_range]
      simp only [rl_len] at h1
      rw [if_pos h1]; rfl
    rw [ep]
    exact fin_rl _ _
theorem y30 (c : Cmp) (t : Tru) (d : Dvd) (hf : faultM c = 0) (hd : datedB c t = true) (hv : okDv d = true) : Yields Try.prog 30 [Cv c, Uv t, Dv d] (vsl eI (claimsM c t d)) := by
  obtain ⟨⟨g1, g2, g3, g4, g5, g6, g7⟩, g8, g9, g10, g11, g12⟩ := fault_ok hf
  obtain ⟨l1, l2⟩ := dated_len hd
  have hdv := div_in hv
  refine q30.yieldsX X18_ok rfl rfl ?_ (w30 c t d) ?_
  · rfl
  simp only [holds]
  refine LoopP.state (StLe.ghostTmp (t := 7) 3 1 rfl) ?_
  refine lp_count X18_ok c.trades.length (fun _ => True) (fun k => E30 c t d (claimsK c t d k) k) (fun k => H24 (claimsK c t d k)) rfl rfl trivial (fun k _ => ⟨rfl, rfl, rfl⟩) ?_
  intro k hk _ Q' hn he hr
  rw [b30]
  simp only [holds, Int.ofNat_eq_natCast, cI_I, cI_T2, dCe, dC_enc, true_and]
  refine ⟨fun e1 => ?_, fun e1 => ?_⟩
  · have hlt : k < c.trades.length := by have := of_decide_eq_true e1; omega
    have ht := trade_in hf hlt
    simp only [okTr, Bool.and_eq_true, decide_eq_true_eq] at ht
    have hdi := dat_in hf hd hlt
    have hu := unitsT_in hf t d.record hlt
    have o1 : okEl [0, 0, 0, 0, 0, 0, 0] (enc eT c.trades) 7 (k : Nat) := ok_T (by simpa using hlt)
    have o2 : okEl [0] (enc eI t.deliv) 1 (k : Nat) := ok_I (by simp; omega)
    have o3 : okEl [0] (enc eI t.sold) 1 (k : Nat) := ok_I (by simp; omega)
    have eu : (lat c.trades (k : Nat)).shares * facM c.splits (lat t.sold (k : Nat)) d.record = unitsT c t d.record k := rfl
    simp only [eu]
    have hp := pence_in hdv.2.2.2.1 hdv.2.2.2.2 (n := unitsT c t d.record k) (by omega)
    have hp2 : (0 - d.pence) * unitsT c t d.record k = -(d.pence * unitsT c t d.record k) := by rw [Int.zero_sub, Int.neg_mul]
    have hreg := isReg_ref hf hd hlt d.record
    have hlate : lateB c t d k = !(inR (regR c.closed (lat t.deliv (k : Nat))) 0 d.record) := by
      by_cases h : isReg c t d.record k
      · rw [hreg.2 h]
        have := h.1; have := h.2
        simp [lateB]; omega
      · have h2 : inR (regR c.closed (lat t.deliv (k : Nat))) 0 d.record = false := by
          cases h3 : inR (regR c.closed (lat t.deliv (k : Nat))) 0 d.record with
          | false => rfl
          | true => exact (h (hreg.1 h3)).elim
        rw [h2]
        unfold isReg at h
        simp [lateB]; omega
    have hearly : decide (d.ex ≤ lat t.sold (k : Nat)) = !(earlyB t d k) := by
      simp [earlyB, ← Int.not_lt]
    have hearly2 : decide (lat t.sold (k : Nat) < d.ex) = earlyB t d k := rfl
    generalize hR : inR (regR c.closed (lat t.deliv (k : Nat))) 0 d.record = had at hlate
    rw [hearly, hearly2]
    have hn1 := fun J => hn J hlt trivial
    simp only [E30, H24, claimsK_succ, enc_append, enc_one, List.length_append, List.length_cons, List.length_nil, claimK, hlate] at hn1
    generalize earlyB t d k = early at hn1
    clear hn he hr
    have k1 : (claimsK c t d k).length = k := claimsK_len c t d k
    have k2 : (enc eI (claimsK c t d k)).length = (claimsK c t d k).length * 1 := len_I _
    have hsh : 0 ≤ (lat c.trades (k : Nat)).shares ∧ (lat c.trades (k : Nat)).shares ≤ 100 ∧ -1000 ≤ lat t.sold (k : Nat) ∧ lat t.sold (k : Nat) ≤ 1000 ∧ d.record ≤ 1000 ∧ -9223372036854775808 ≤ lat t.deliv (k : Nat) := by omega
    cases early <;> cases had <;> simp only [Bool.not_true, Bool.not_false, Bool.false_eq_true, Bool.true_eq_false, if_true, if_false, false_imp_iff, true_imp_iff, and_true, true_and] at hn1 ⊢ <;>
      (repeat' (refine And.intro ?_ ?_)) <;> first
      | omega
      | assumption
      | rfl
      | exact hn1 []
      | (simp; done)
      | (simp; omega)
  · have hge : k = c.trades.length := by have := of_decide_eq_false e1; omega
    subst hge
    refine he _ _ _ (ret_tree (R := fun v1 h1 => VLe (finX 0 v1 h1).1 (vsl eI (claimsM c t d))) X18_ok (doneK_ok rfl) (x30 _ _ _ _ _ _) ?_)
    simp only [holds]
    exact fin_own 3 (claimsM c t d)
end
end Go.Proofs.Ytdnefcjbcieecaa
namespace Go.Proofs.Ytdnefcjbcieecaa
open Go Go.Proofs
noncomputable section
def rightR (c : Cmp) (t : Tru) (d : Dvd) (h : Nat) : Nat → Int
  | 0 => lat c.held (h : Nat) * fac c (-1) d.record
  | k + 1 => if earlyB t d k = true then (if (lat c.trades (k : Nat)).buyer = h then rightR c t d h k + unitsT c t d.record k else if (lat c.trades (k : Nat)).seller = h then rightR c t d h k - unitsT c t d.record k else rightR c t d h k) else rightR c t d h k
theorem rightR_in {c : Cmp} (hf : faultM c = 0) (t : Tru) (d : Dvd) {h : Nat} (hh : h < c.held.length) : ∀ k, k ≤ c.trades.length → -(2592000 * (2 * (k : Int) + 1)) ≤ rightR c t d h k ∧ rightR c t d h k ≤ 2592000 * (2 * (k : Int) + 1)
  | 0, _ => by
    have h1 := held_in hf hh
    have h2 := fac_in hf (-1) d.record
    have h3 := mul_in h1.1 h1.2 h2.1 h2.2
    simp only [rightR]; omega
  | k + 1, hk => by
    have ih := rightR_in hf t d hh k (by omega)
    have hu := unitsT_in hf t d.record (k := k) (by omega)
    rw [rightR]
    split
    · split
      · omega
      · split <;> omega
    · omega
def claimD (c : Cmp) (t : Tru) (d : Dvd) (h : Nat) : Nat → Int
  | 0 => 0
  | k + 1 => claimD c t d h k + (if (lat c.trades (k : Nat)).buyer = h then claimK c t d k else if (lat c.trades (k : Nat)).seller = h then -claimK c t d k else 0)
theorem rightT_D {c : Cmp} (hf : faultM c = 0) (t : Tru) (d : Dvd) (h : Nat) : ∀ k, k ≤ c.trades.length → rightT c t d k h = d.pence * heldF c t d.record h + claimD c t d h k
  | 0, _ => by simp [rightT, claimD]
  | k + 1, hk => by
    have ht := trade_in hf (show k < c.trades.length by omega)
    simp only [okTr, Bool.and_eq_true, decide_eq_true_eq] at ht
    rw [rightT, moveF_at _ (by omega) (by omega) (by omega), claimD, rightT_D hf t d h k (by omega)]
    split
    · omega
    · split <;> omega
theorem late_reg (c : Cmp) (t : Tru) (d : Dvd) (k : Nat) : lateB c t d k = !(decide (isReg c t d.record k)) := by
  cases hx : lateB c t d k with
  | true =>
    have : ¬ isReg c t d.record k := fun h => by
      have h1 := h.1
      have h2 := h.2
      simp only [lateB, Bool.or_eq_true, beq_iff_eq, decide_eq_true_eq] at hx
      omega
    simp [this]
  | false =>
    have : isReg c t d.record k := by
      simp only [lateB, Bool.or_eq_false_iff, beq_eq_false_iff_ne, decide_eq_false_iff_not] at hx
      exact ⟨hx.1, by omega⟩
    simp [this]
theorem right_law {c : Cmp} (hf : faultM c = 0) (t : Tru) (d : Dvd) {h : Nat} (hh : h < c.held.length) : ∀ k, k ≤ c.trades.length → d.pence * heldT c t d.record k h + claimD c t d h k = d.pence * rightR c t d h k
  | 0, _ => by
    have e : heldT c t d.record 0 h = lat c.held (h : Nat) * fac c (-1) d.record := heldA_at c d.record _ h hh
    rw [e]; simp [claimD, rightR]
  | k + 1, hk => by
    have ht := trade_in hf (show k < c.trades.length by omega)
    simp only [okTr, Bool.and_eq_true, decide_eq_true_eq] at ht
    have ih := right_law hf t d hh k (by omega)
    have hl := late_reg c t d k
    rw [heldT, claimD, rightR, claimK, hl]
    have m1 : (0 - d.pence) * unitsT c t d.record k = -(d.pence * unitsT c t d.record k) := by rw [Int.zero_sub, Int.neg_mul]
    by_cases hr : isReg c t d.record k
    · rw [if_pos hr, moveF_at _ (by omega) (by omega) (by omega)]
      simp only [hr, decide_true, Bool.not_true, Bool.false_eq_true, if_false]
      split <;> split <;> (try split) <;> (try simp only [Int.mul_add, Int.mul_sub, m1]) <;> omega
    · rw [if_neg hr]
      simp only [hr, decide_false, Bool.not_false, if_true]
      split <;> split <;> (try split) <;> (try simp only [Int.mul_add, Int.mul_sub]) <;> omega
def refR (c : Cmp) (t : Tru) (d : Dvd) (n : Nat) : List Int := rl (fun h => d.pence * rightR c t d h c.trades.length) n
theorem refR_succ (c : Cmp) (t : Tru) (d : Dvd) (h : Nat) : refR c t d (h + 1) = refR c t d h ++ [d.pence * rightR c t d h c.trades.length] := by simp [refR, rl, List.range_succ]
@[simp] theorem refR_len (c : Cmp) (t : Tru) (d : Dvd) (h : Nat) : (refR c t d h).length = h := by simp [refR]
theorem rights_eq {c : Cmp} (hf : faultM c = 0) (t : Tru) (d : Dvd) : refR c t d c.held.length = rightsM c t d := by
  unfold refR rightsM
  apply List.ext_getElem (by simp)
  intro i h1 h2
  simp only [rl_len] at h1
  simp only [rl, List.getElem_map, List.getElem_range]
  rw [rightT_D hf t d i _ (Nat.le_refl _), ← right_law hf t d h1 _ (Nat.le_refl _)]
  rfl
theorem y31 (c : Cmp) (t : Tru) (d : Dvd) (hf : faultM c = 0) (hd : datedB c t = true) (hv : okDv d = true) : Yields Try.prog 31 [Cv c, Uv t, Dv d] (vsl eI (rightsM c t d)) := by
  obtain ⟨⟨g1, g2, g3, g4, g5, g6, g7⟩, g8, g9, g10, g11, g12⟩ := fault_ok hf
  obtain ⟨l1, l2⟩ := dated_len hd
  have hdv := div_in hv
  refine q31.yieldsX X18_ok rfl rfl ?_ (w31 c t d) ?_
  · rfl
  simp only [holds]
  refine LoopP.state (StLe.ghostTmp (t := 7) 3 1 rfl) ?_
  refine lp_count X18_ok c.held.length (fun _ => True) (fun h => E30 c t d (refR c t d h) h) (fun h => H24 (refR c t d h)) rfl rfl trivial (fun k _ => ⟨rfl, rfl, rfl⟩) ?_
  intro h hh _ Q' hn he hr
  rw [b31]
  simp only [holds, Int.ofNat_eq_natCast, cI_I, dCe, dC_enc, true_and]
  refine ⟨fun e1 => ?_, fun e1 => ?_⟩
  · have hlt : h < c.held.length := by have := of_decide_eq_true e1; omega
    have hi := held_in hf hlt
    have hn1 := hn [] hlt trivial
    refine ⟨⟨by omega, by omega, ok_I (by simpa using hlt)⟩, ⟨g11, g6, by omega, by omega, by omega, by omega, by omega⟩, ?_⟩
    clear hn he hr
    have e0 : lat c.held (h : Nat) * facM c.splits (-1) d.record = rightR c t d h 0 := rfl
    rw [e0]
    refine lp_count X18_ok c.trades.length (fun _ => True) (fun k => E31i c t d (refR c t d h) h (rightR c t d h k) k) (fun _ => H24 (refR c t d h)) rfl rfl trivial (fun k _ => ⟨rfl, rfl, rfl⟩) ?_
    intro k hk _ Q2 hn he hr
    rw [b31i]
    simp only [holds, Int.ofNat_eq_natCast, cI_I, cI_T0, cI_T1, cI_T2, dCe, dC_enc, true_and]
    refine ⟨fun e2 => ?_, fun e2 => ?_⟩
    · have hlt2 : k < c.trades.length := by have := of_decide_eq_true e2; omega
      have ht := trade_in hf hlt2
      simp only [okTr, Bool.and_eq_true, decide_eq_true_eq] at ht
      have hdi := dat_in hf hd hlt2
      have hu := unitsT_in hf t d.record hlt2
      have hb := rightR_in hf t d hlt k hk
      have o1 : okEl [0, 0, 0, 0, 0, 0, 0] (enc eT c.trades) 7 (k : Nat) := ok_T (by simpa using hlt2)
      have o3 : okEl [0] (enc eI t.sold) 1 (k : Nat) := ok_I (by simp; omega)
      have hn2 := hn [some (.box [V.d (D.int IntKind.i64 (lat c.trades (k : Nat)).seller), V.d (D.int IntKind.i64 (lat c.trades (k : Nat)).buyer), V.d (D.int IntKind.i64 (lat c.trades (k : Nat)).shares), V.d (D.int IntKind.i64 (cI (enc eT c.trades) 7 (k : Nat) 3)), V.d (D.int IntKind.i64 (cI (enc eT c.trades) 7 (k : Nat) 4)), V.d (D.int IntKind.i64 (cI (enc eT c.trades) 7 (k : Nat) 5)), V.d (D.int IntKind.i64 (cI (enc eT c.trades) 7 (k : Nat) 6))])] hlt2 trivial
      have eu : (lat c.trades (k : Nat)).shares * facM c.splits (lat t.sold (k : Nat)) d.record = unitsT c t d.record k := rfl
      have hearly2 : decide (lat t.sold (k : Nat) < d.ex) = earlyB t d k := rfl
      simp only [eu, hearly2]
      have hsh : 0 ≤ (lat c.trades (k : Nat)).shares ∧ (lat c.trades (k : Nat)).shares ≤ 100 ∧ -1000 ≤ lat t.sold (k : Nat) ∧ lat t.sold (k : Nat) ≤ 1000 ∧ d.record ≤ 1000 := by omega
      have hne : ¬ ((lat c.trades (k : Nat)).buyer = (h : Int) ∧ (lat c.trades (k : Nat)).seller = (h : Int)) := by omega
      simp only [rightR] at hn2
      generalize earlyB t d k = early at hn2
      clear hn he hr
      by_cases hB : (lat c.trades (k : Nat)).buyer = (h : Int)
      · have hS : ¬ (lat c.trades (k : Nat)).seller = (h : Int) := fun e => hne ⟨hB, e⟩
        have b1 : ((lat c.trades (k : Nat)).buyer == (h : Int)) = true := by simpa using hB
        have b2 : ((lat c.trades (k : Nat)).seller == (h : Int)) = false := by simpa using hS
        rw [b1, b2]
        rw [if_pos hB] at hn2
        cases early <;> simp only [Bool.not_true, Bool.not_false, Bool.false_eq_true, Bool.true_eq_false, if_true, if_false, false_imp_iff, true_imp_iff, and_true, true_and] at hn2 ⊢ <;>
          (repeat' (refine And.intro ?_ ?_)) <;> first
          | omega
          | assumption
      · have b1 : ((lat c.trades (k : Nat)).buyer == (h : Int)) = false := by simpa using hB
        rw [b1]
        rw [if_neg hB] at hn2
        by_cases hS : (lat c.trades (k : Nat)).seller = (h : Int)
        · have b2 : ((lat c.trades (k : Nat)).seller == (h : Int)) = true := by simpa using hS
          rw [b2]
          rw [if_pos hS] at hn2
          cases early <;> simp only [Bool.not_true, Bool.not_false, Bool.false_eq_true, Bool.true_eq_false, if_true, if_false, false_imp_iff, true_imp_iff, and_true, true_and] at hn2 ⊢ <;>
            (repeat' (refine And.intro ?_ ?_)) <;> first
            | omega
            | assumption
        · have b2 : ((lat c.trades (k : Nat)).seller == (h : Int)) = false := by simpa using hS
          rw [b2]
          rw [if_neg hS] at hn2
          cases early <;> simp only [Bool.not_true, Bool.not_false, Bool.false_eq_true, Bool.true_eq_false, if_true, if_false, false_imp_iff, true_imp_iff, and_true, true_and] at hn2 ⊢ <;>
            (repeat' (refine And.intro ?_ ?_)) <;> first
            | omega
            | assumption
    · have hge : k = c.trades.length := by have := of_decide_eq_false e2; omega
      subst hge
      have hb := rightR_in hf t d hlt c.trades.length (Nat.le_refl _)
      have hp := pence_in hdv.2.2.2.1 hdv.2.2.2.2 (n := rightR c t d h c.trades.length) (by omega)
      refine he _ _ _ (ret_tree (R := fun _ _ => True) X18_ok leafK_ok (x31i _ _ _ _ _ _ _ _) ?_)
      simp only [holds, Int.ofNat_eq_natCast]
      refine ⟨⟨by omega, by omega⟩, ⟨trivial, trivial, trivial, by simp, rfl, by rw [refR_len]; omega, by rw [refR_len]; omega⟩, ⟨by omega, by omega⟩, ?_⟩
      simp only [E30, H24, refR_succ, enc_append, enc_one, List.length_append, List.length_cons, List.length_nil] at hn1
      exact hn1
  · have hge : h = c.held.length := by have := of_decide_eq_false e1; omega
    subst hge
    refine he _ _ _ (ret_tree (R := fun v1 h1 => VLe (finX 0 v1 h1).1 (vsl eI (rightsM c t d))) X18_ok (doneK_ok rfl) (x31 _ _ _ _ _ _) ?_)
    simp only [holds]
    rw [← rights_eq hf]
    exact fin_own 3 (refR c t d c.held.length)
end
end Go.Proofs.Ytdnefcjbcieecaa
namespace Go.Proofs.Ytdnefcjbcieecaa
open Go Go.Proofs
noncomputable section
theorem q4 : FunIs Try.prog 4 G4 c4 r4 := ⟨Try.f4, Try.func4, k4, e4, by kernel_rfl, by kernel_rfl⟩
def entCUV (q : Cmp → Tru → Dvd → Prop) (m : Cmp → Tru → Dvd → V) : Ent := fun args _ => match args with
  | [x, y, z] => match asC x, asU y, asDv z with
    | some c, some t, some d => some (Cv c = x ∧ Uv t = y ∧ Dv d = z ∧ q c t d, m c t d, none)
    | _, _, _ => none
  | _ => none
theorem entCUV_ok {P : Program} {f : Nat} {q : Cmp → Tru → Dvd → Prop} {m : Cmp → Tru → Dvd → V} (hy : ∀ c t d, q c t d → Yields P f [Cv c, Uv t, Dv d] (m c t d)) : EntOk P f (entCUV q m) := by
  intro args h p v h' he hp
  unfold entCUV at he
  split at he
  · split at he
    · cases he; rw [← hp.1, ← hp.2.1, ← hp.2.2.1]; exact hy _ _ _ hp.2.2.2 h
    · cases he
  · cases he
def okCUV (c : Cmp) (t : Tru) (d : Dvd) : Prop := faultM c = 0 ∧ datedB c t = true ∧ okDv d = true
def ent29 := entCUV okCUV (fun c t d => vsl eI (paidM c t d))
theorem ent29_ok : EntOk Try.prog 29 ent29 := entCUV_ok fun c t d h => y29 c t d h.1 h.2.1 h.2.2
def ent30 := entCUV okCUV (fun c t d => vsl eI (claimsM c t d))
theorem ent30_ok : EntOk Try.prog 30 ent30 := entCUV_ok fun c t d h => y30 c t d h.1 h.2.1 h.2.2
def ent31 := entCUV okCUV (fun c t d => vsl eI (rightsM c t d))
theorem ent31_ok : EntOk Try.prog 31 ent31 := entCUV_ok fun c t d h => y31 c t d h.1 h.2.1 h.2.2
def ent28 := entLL (fun a b => a.length ≤ 1000000 ∧ b.length ≤ 1000000) (fun a b => vb (decide (a = b)))
theorem ent28_ok : EntOk Try.prog 28 ent28 := entLL_ok fun a b h => y28 a b h.1 h.2
def ent25 := entCUI (fun _ _ _ => True) (fun c t n => .tup [vsl eI (sumL paidM c t n), vi (sumE c t n)])
theorem ent25_ok : EntOk Try.prog 25 ent25 := entCUI_ok fun c t d _ => y25 c t d
def ent26 := entCUI (fun _ _ _ => True) (fun c t n => .tup [vsl eI (sumL claimsM c t n), vi (sumE c t n)])
theorem ent26_ok : EntOk Try.prog 26 ent26 := entCUI_ok fun c t d _ => y26 c t d
def ent27 := entCUI (fun _ _ _ => True) (fun c t n => .tup [vsl eI (sumL rightsM c t n), vi (sumE c t n)])
theorem ent27_ok : EntOk Try.prog 27 ent27 := entCUI_ok fun c t d _ => y27 c t d
def tab26 : Spec := (spAdd 31 ent31 (spAdd 30 ent30 (spAdd 29 ent29 (spAdd 28 ent28 (spAdd 27 ent27 (spAdd 26 ent26 (spAdd 25 ent25 tab25)))))))
theorem tab26_ok : SpOk Try.prog tab26 := (spAdd_ok ent31_ok (spAdd_ok ent30_ok (spAdd_ok ent29_ok (spAdd_ok ent28_ok (spAdd_ok ent27_ok (spAdd_ok ent26_ok (spAdd_ok ent25_ok tab25_ok)))))))
def X26 : Sx := mkX tab26
theorem X26_ok : SpOk Try.prog X26.sp := tab26_ok
theorem w4 (c : Cmp) (t : Tru) (n : Int) : sx X26 c4 [] (doneP r4) (envOf [Cv c, Uv t, vi n]) [] [] =
    let x1_ := (Cv (dCe c) = Cv c ∧ small (dCe c))
    let x2_ := (Uv (dUe t) = Uv t ∧ List.length (Tru.sold (dUe t)) ≤ (1000000 : Nat) ∧ List.length (Tru.deliv (dUe t)) ≤ (1000000 : Nat))
    let x3_ := (Cv (dCe (dCe c)) = Cv (dCe c) ∧ Uv (dUe (dUe t)) = Uv (dUe t) ∧ True)
    let x4_ := (List.length (Cmp.divs c))
    let x5_ := (sumE (dCe (dCe c)) (dUe (dUe t)) n == (2 : Int))
    let x6_ := (sumL paidM (dCe (dCe c)) (dUe (dUe t)) n)
    let x7_ := (sumL claimsM (dCe (dCe c)) (dUe (dUe t)) n)
    let x8_ := (sumL rightsM (dCe (dCe c)) (dUe (dUe t)) n)
    let x9_ := (sumE (dCe (dCe c)) (dUe (dUe t)) n == (0 : Int))
    let x10_ := (Cv (dCe c) = Cv c ∧ Uv (dUe t) = Uv t ∧ Dv { ex := cI (enc eV (Cmp.divs c)) (3 : Nat) n (0 : Nat), record := cI (enc eV (Cmp.divs c)) (3 : Nat) n (1), pence := cI (enc eV (Cmp.divs c)) (3 : Nat) n (2) } = V.agg [V.d (D.int IntKind.i64 (cI (enc eV (Cmp.divs c)) (3 : Nat) n (0 : Nat))), V.d (D.int IntKind.i64 (cI (enc eV (Cmp.divs c)) (3 : Nat) n (1))), V.d (D.int IntKind.i64 (cI (enc eV (Cmp.divs c)) (3 : Nat) n (2)))] ∧ okCUV (dCe c) (dUe t) { ex := cI (enc eV (Cmp.divs c)) (3 : Nat) n (0 : Nat), record := cI (enc eV (Cmp.divs c)) (3 : Nat) n (1), pence := cI (enc eV (Cmp.divs c)) (3 : Nat) n (2) })
    let x11_ := (paidM (dCe c) (dUe t) { ex := cI (enc eV (Cmp.divs c)) (3 : Nat) n (0 : Nat), record := cI (enc eV (Cmp.divs c)) (3 : Nat) n (1), pence := cI (enc eV (Cmp.divs c)) (3 : Nat) n (2) })
    let x12_ := (claimsM (dCe c) (dUe t) { ex := cI (enc eV (Cmp.divs c)) (3 : Nat) n (0 : Nat), record := cI (enc eV (Cmp.divs c)) (3 : Nat) n (1), pence := cI (enc eV (Cmp.divs c)) (3 : Nat) n (2) })
    let x13_ := (rightsM (dCe c) (dUe t) { ex := cI (enc eV (Cmp.divs c)) (3 : Nat) n (0 : Nat), record := cI (enc eV (Cmp.divs c)) (3 : Nat) n (1), pence := cI (enc eV (Cmp.divs c)) (3 : Nat) n (2) })
    let x14_ := (sumE (dCe (dCe c)) (dUe (dUe t)) n == askE (dCe c) (dUe t))
    Tr.need (Cv (dCe c) = Cv c ∧ Uv (dUe t) = Uv t ∧ True) (Tr.br (!thin (dCe c) (dUe t)) (Tr.need True (Tr.done (V.d (D.bool true)) [])) (Tr.need x1_ (Tr.need x2_ (Tr.need x3_ (Tr.need x1_ (Tr.need x2_ (Tr.need x3_ (Tr.need x1_ (Tr.need x2_ (Tr.need x3_ (Tr.need (Cv (dCe c) = Cv c ∧ Uv (dUe t) = Uv t ∧ List.length (Cmp.trades (dCe c)) ≤ (1000000 : Nat)) (Tr.br (askE (dCe c) (dUe t) == (0 : Int)) (Tr.need ((-9223372036854775808 : Int) ≤ Int.ofNat x4_ - (1 : Int) ∧ Int.ofNat x4_ - (1 : Int) ≤ (9223372036854775807 : Int)) (Tr.need True (Tr.br (!inR n (0 : Int) (Int.ofNat x4_ - (1 : Int))) (Tr.br ((2 : Int) != (0 : Int)) (Tr.br x5_ (Tr.br x5_ (Tr.br x5_ (Tr.need ((-9223372036854775808 : Int) ≤ Int.ofNat (List.length x6_) + Int.ofNat (List.length x7_) ∧ Int.ofNat (List.length x6_) + Int.ofNat (List.length x7_) ≤ (9223372036854775807 : Int)) (Tr.need ((-9223372036854775808 : Int) ≤ Int.ofNat (List.length x6_) + Int.ofNat (List.length x7_) + Int.ofNat (List.length x8_) ∧ Int.ofNat (List.length x6_) + Int.ofNat (List.length x7_) + Int.ofNat (List.length x8_) ≤ (9223372036854775807 : Int)) (Tr.br (Int.ofNat (List.length x6_) + Int.ofNat (List.length x7_) + Int.ofNat (List.length x8_) == (0 : Int)) (Tr.need True (Tr.done (V.d (D.bool true)) [])) (Tr.done (V.d (D.bool false)) [])))) (Tr.done (V.d (D.bool false)) [])) (Tr.done (V.d (D.bool false)) [])) (Tr.done (V.d (D.bool false)) [])) (Tr.need ((0 : Int) ≤ n ∧ n < Int.ofNat x4_ ∧ okEl [0, 0, 0] (enc eV (Cmp.divs c)) (3 : Nat) n) (Tr.br x9_ (Tr.need x10_ (Tr.need (okL eI (1 : Nat) gI (List.length x6_) (enc eI x6_) ∧ okL eI (1 : Nat) gI (List.length x11_) (enc eI x11_) ∧ List.length (dec (1 : Nat) gI (List.length x6_) (enc eI x6_)) ≤ (1000000 : Nat) ∧ List.length (dec (1 : Nat) gI (List.length x11_) (enc eI x11_)) ≤ (1000000 : Nat)) (Tr.br (decide (dec (1 : Nat) gI (List.length x6_) (enc eI x6_) = dec (1 : Nat) gI (List.length x11_) (enc eI x11_))) (Tr.br x9_ (Tr.need x10_ (Tr.need (okL eI (1 : Nat) gI (List.length x7_) (enc eI x7_) ∧ okL eI (1 : Nat) gI (List.length x12_) (enc eI x12_) ∧ List.length (dec (1 : Nat) gI (List.length x7_) (enc eI x7_)) ≤ (1000000 : Nat) ∧ List.length (dec (1 : Nat) gI (List.length x12_) (enc eI x12_)) ≤ (1000000 : Nat)) (Tr.br (decide (dec (1 : Nat) gI (List.length x7_) (enc eI x7_) = dec (1 : Nat) gI (List.length x12_) (enc eI x12_))) (Tr.br x9_ (Tr.need x10_ (Tr.need (okL eI (1 : Nat) gI (List.length x8_) (enc eI x8_) ∧ okL eI (1 : Nat) gI (List.length x13_) (enc eI x13_) ∧ List.length (dec (1 : Nat) gI (List.length x8_) (enc eI x8_)) ≤ (1000000 : Nat) ∧ List.length (dec (1 : Nat) gI (List.length x13_) (enc eI x13_)) ≤ (1000000 : Nat)) (Tr.br (decide (dec (1 : Nat) gI (List.length x8_) (enc eI x8_) = dec (1 : Nat) gI (List.length x13_) (enc eI x13_))) (Tr.need True (Tr.done (V.d (D.bool true)) [])) (Tr.done (V.d (D.bool false)) [])))) (Tr.done (V.d (D.bool false)) [])) (Tr.done (V.d (D.bool false)) [])))) (Tr.done (V.d (D.bool false)) [])) (Tr.done (V.d (D.bool false)) [])))) (Tr.done (V.d (D.bool false)) [])))) (Tr.br (askE (dCe c) (dUe t) != (0 : Int)) (Tr.br x14_ (Tr.br x14_ (Tr.br x14_ (Tr.need ((-9223372036854775808 : Int) ≤ Int.ofNat (List.length x6_) + Int.ofNat (List.length x7_) ∧ Int.ofNat (List.length x6_) + Int.ofNat (List.length x7_) ≤ (9223372036854775807 : Int)) (Tr.need ((-9223372036854775808 : Int) ≤ Int.ofNat (List.length x6_) + Int.ofNat (List.length x7_) + Int.ofNat (List.length x8_) ∧ Int.ofNat (List.length x6_) + Int.ofNat (List.length x7_) + Int.ofNat (List.length x8_) ≤ (9223372036854775807 : Int)) (Tr.br (Int.ofNat (List.length x6_) + Int.ofNat (List.length x7_) + Int.ofNat (List.length x8_) == (0 : Int)) (Tr.need True (Tr.done (V.d (D.bool true)) [])) (Tr.done (V.d (D.bool false)) [])))) (Tr.done (V.d (D.bool false)) [])) (Tr.done (V.d (D.bool false)) [])) (Tr.done (V.d (D.bool false)) [])) (Tr.need ((0 : Int) ≤ n ∧ n < Int.ofNat x4_ ∧ okEl [0, 0, 0] (enc eV (Cmp.divs c)) (3 : Nat) n) (Tr.br x9_ (Tr.need x10_ (Tr.need (okL eI (1 : Nat) gI (List.length x6_) (enc eI x6_) ∧ okL eI (1 : Nat) gI (List.length x11_) (enc eI x11_) ∧ List.length (dec (1 : Nat) gI (List.length x6_) (enc eI x6_)) ≤ (1000000 : Nat) ∧ List.length (dec (1 : Nat) gI (List.length x11_) (enc eI x11_)) ≤ (1000000 : Nat)) (Tr.br (decide (dec (1 : Nat) gI (List.length x6_) (enc eI x6_) = dec (1 : Nat) gI (List.length x11_) (enc eI x11_))) (Tr.br x9_ (Tr.need x10_ (Tr.need (okL eI (1 : Nat) gI (List.length x7_) (enc eI x7_) ∧ okL eI (1 : Nat) gI (List.length x12_) (enc eI x12_) ∧ List.length (dec (1 : Nat) gI (List.length x7_) (enc eI x7_)) ≤ (1000000 : Nat) ∧ List.length (dec (1 : Nat) gI (List.length x12_) (enc eI x12_)) ≤ (1000000 : Nat)) (Tr.br (decide (dec (1 : Nat) gI (List.length x7_) (enc eI x7_) = dec (1 : Nat) gI (List.length x12_) (enc eI x12_))) (Tr.br x9_ (Tr.need x10_ (Tr.need (okL eI (1 : Nat) gI (List.length x8_) (enc eI x8_) ∧ okL eI (1 : Nat) gI (List.length x13_) (enc eI x13_) ∧ List.length (dec (1 : Nat) gI (List.length x8_) (enc eI x8_)) ≤ (1000000 : Nat) ∧ List.length (dec (1 : Nat) gI (List.length x13_) (enc eI x13_)) ≤ (1000000 : Nat)) (Tr.br (decide (dec (1 : Nat) gI (List.length x8_) (enc eI x8_) = dec (1 : Nat) gI (List.length x13_) (enc eI x13_))) (Tr.need True (Tr.done (V.d (D.bool true)) [])) (Tr.done (V.d (D.bool false)) [])))) (Tr.done (V.d (D.bool false)) [])) (Tr.done (V.d (D.bool false)) [])))) (Tr.done (V.d (D.bool false)) [])) (Tr.done (V.d (D.bool false)) [])))) (Tr.done (V.d (D.bool false)) []))))))) (Tr.br (askE (dCe c) (dUe t) != (0 : Int)) (Tr.br x14_ (Tr.br x14_ (Tr.br x14_ (Tr.need ((-9223372036854775808 : Int) ≤ Int.ofNat (List.length x6_) + Int.ofNat (List.length x7_) ∧ Int.ofNat (List.length x6_) + Int.ofNat (List.length x7_) ≤ (9223372036854775807 : Int)) (Tr.need ((-9223372036854775808 : Int) ≤ Int.ofNat (List.length x6_) + Int.ofNat (List.length x7_) + Int.ofNat (List.length x8_) ∧ Int.ofNat (List.length x6_) + Int.ofNat (List.length x7_) + Int.ofNat (List.length x8_) ≤ (9223372036854775807 : Int)) (Tr.br (Int.ofNat (List.length x6_) + Int.ofNat (List.length x7_) + Int.ofNat (List.length x8_) == (0 : Int)) (Tr.need True (Tr.done (V.d (D.bool true)) [])) (Tr.done (V.d (D.bool false)) [])))) (Tr.done (V.d (D.bool false)) [])) (Tr.done (V.d (D.bool false)) [])) (Tr.done (V.d (D.bool false)) [])) (Tr.need ((0 : Int) ≤ n ∧ n < Int.ofNat x4_ ∧ okEl [0, 0, 0] (enc eV (Cmp.divs c)) (3 : Nat) n) (Tr.br x9_ (Tr.need x10_ (Tr.need (okL eI (1 : Nat) gI (List.length x6_) (enc eI x6_) ∧ okL eI (1 : Nat) gI (List.length x11_) (enc eI x11_) ∧ List.length (dec (1 : Nat) gI (List.length x6_) (enc eI x6_)) ≤ (1000000 : Nat) ∧ List.length (dec (1 : Nat) gI (List.length x11_) (enc eI x11_)) ≤ (1000000 : Nat)) (Tr.br (decide (dec (1 : Nat) gI (List.length x6_) (enc eI x6_) = dec (1 : Nat) gI (List.length x11_) (enc eI x11_))) (Tr.br x9_ (Tr.need x10_ (Tr.need (okL eI (1 : Nat) gI (List.length x7_) (enc eI x7_) ∧ okL eI (1 : Nat) gI (List.length x12_) (enc eI x12_) ∧ List.length (dec (1 : Nat) gI (List.length x7_) (enc eI x7_)) ≤ (1000000 : Nat) ∧ List.length (dec (1 : Nat) gI (List.length x12_) (enc eI x12_)) ≤ (1000000 : Nat)) (Tr.br (decide (dec (1 : Nat) gI (List.length x7_) (enc eI x7_) = dec (1 : Nat) gI (List.length x12_) (enc eI x12_))) (Tr.br x9_ (Tr.need x10_ (Tr.need (okL eI (1 : Nat) gI (List.length x8_) (enc eI x8_) ∧ okL eI (1 : Nat) gI (List.length x13_) (enc eI x13_) ∧ List.length (dec (1 : Nat) gI (List.length x8_) (enc eI x8_)) ≤ (1000000 : Nat) ∧ List.length (dec (1 : Nat) gI (List.length x13_) (enc eI x13_)) ≤ (1000000 : Nat)) (Tr.br (decide (dec (1 : Nat) gI (List.length x8_) (enc eI x8_) = dec (1 : Nat) gI (List.length x13_) (enc eI x13_))) (Tr.need True (Tr.done (V.d (D.bool true)) [])) (Tr.done (V.d (D.bool false)) [])))) (Tr.done (V.d (D.bool false)) [])) (Tr.done (V.d (D.bool false)) [])))) (Tr.done (V.d (D.bool false)) [])) (Tr.done (V.d (D.bool false)) [])))) (Tr.done (V.d (D.bool false)) [])))))))))))))))) := by kernel_rfl
theorem paidM_len (c : Cmp) (t : Tru) (d : Dvd) : (paidM c t d).length = c.held.length := by rw [paid_rl, rl_len]
theorem claimsM_len (c : Cmp) (t : Tru) (d : Dvd) : (claimsM c t d).length = c.trades.length := claimsK_len c t d _
theorem rightsM_len (c : Cmp) (t : Tru) (d : Dvd) : (rightsM c t d).length = c.held.length := rl_len _ _
theorem y4 (c : Cmp) (t : Tru) (n : Int) : Yields Try.prog 4 [Cv c, Uv t, vi n] (vb true) := by
  refine q4.yieldsP X26_ok rfl rfl rfl (w4 c t n) ?_
  simp only [holds, Int.ofNat_eq_natCast, cI_V0, cI_V1, cI_V2, dCe, dC_enc, dUe, dU_enc, dec_I, okL_I, true_and, and_true]
  refine ⟨fun _ => .refl _, fun g => ?_⟩
  have g : thin c t = true := by simpa using g
  have hl := thin_len g
  have hs := thin_small g
  have hu : t.sold.length ≤ 1000000 ∧ t.deliv.length ≤ 1000000 := by omega
  have htr : c.trades.length ≤ 1000000 := by omega
  have hdl : -9223372036854775808 ≤ (c.divs.length : Int) - 1 ∧ (c.divs.length : Int) - 1 ≤ 9223372036854775807 := by omega
  have hT : VLe (V.d (D.bool true)) (vb true) := .refl _
  simp only [hs, hu, htr, hdl, and_self, true_and]
  by_cases h1 : askE c t = 0
  · obtain ⟨hf, hd, hfi⟩ := askE_ok h1
    have hbs := (fault_ok hf).1
    by_cases h2 : inR n 0 (c.divs.length - 1) = true
    · have e : sumE c t n = 0 := by simp [sumE, h1, h2]
      have e2 : ∀ M, sumL M c t n = M c t (lat c.divs n) := fun M => by simp [sumL, e]
      have h3 : 0 ≤ n ∧ n < (c.divs.length : Int) := by simp only [inR, decide_eq_true_eq] at h2; omega
      have hdv := divs_ok hf h3.1 h3.2
      have hok : okCUV c t (lat c.divs n) := ⟨hf, hd, hdv⟩
      have hok' : okCUV c t ⟨(lat c.divs n).ex, (lat c.divs n).record, (lat c.divs n).pence⟩ := hok
      have hDv : Dv ⟨(lat c.divs n).ex, (lat c.divs n).record, (lat c.divs n).pence⟩ = V.agg [V.d (D.int IntKind.i64 (lat c.divs n).ex), V.d (D.int IntKind.i64 (lat c.divs n).record), V.d (D.int IntKind.i64 (lat c.divs n).pence)] := rfl
      have b1 : c.held.length ≤ 140737488355328 ∧ c.held.length ≤ 1000000 ∧ c.trades.length ≤ 140737488355328 := by omega
      simp only [h1, h2, e, e2, hok', hDv, paidM_len, claimsM_len, rightsM_len, b1, htr, beq_self_eq_true, bne_self_eq_false, Bool.not_true, Bool.false_eq_true, false_imp_iff, true_imp_iff, true_and, Bool.true_eq_false, and_true, decide_true, and_self]
      exact ⟨⟨h3.1, h3.2, ok_V (by omega)⟩, hT⟩
    · have h2 : inR n 0 (c.divs.length - 1) = false := by simpa using h2
      have e : sumE c t n = 2 := by simp [sumE, h1, h2]
      have e2 : ∀ M, sumL M c t n = [] := fun M => by simp [sumL, e]
      simp only [h1, h2, e, e2, beq_self_eq_true, bne_self_eq_false, Bool.not_true, Bool.not_false, Bool.false_eq_true, false_imp_iff, true_imp_iff, true_and, List.length_nil, Bool.true_eq_false, and_true]
      exact ⟨fun _ => ⟨⟨by decide, by decide⟩, ⟨by decide, by decide⟩, fun _ => hT, fun h => by simp at h⟩, fun h => by simp at h⟩
  · have e : sumE c t n = askE c t := by simp [sumE, h1]
    have e2 : ∀ M, sumL M c t n = [] := fun M => by simp [sumL, e, h1]
    have b1 : (askE c t == 0) = false := by simpa using h1
    have b2 : (askE c t != 0) = true := by simpa using h1
    simp only [b1, b2, e, e2, beq_self_eq_true, bne_self_eq_false, Bool.not_true, Bool.not_false, Bool.false_eq_true, false_imp_iff, true_imp_iff, true_and, List.length_nil, Bool.true_eq_false, and_true]
    exact ⟨⟨by decide, by decide⟩, ⟨by decide, by decide⟩, fun _ => hT, fun h => by simp at h⟩
end
end Go.Proofs.Ytdnefcjbcieecaa
namespace Go.Proofs.Ytdnefcjbcieecaa
open Go Go.ChangeShapes Go.WideShapes Go.ChangeAt Go.RowKit
def flatFs (g : TypeId → Option (List IntKind)) (cell : TypeId → Nat) : List Field → Nat → Option (List IntKind)
  | [], _ => some []
  | f :: fs, off => if f.offset = off then match g f.type, flatFs g cell fs (off + cell f.type) with
      | some a, some b => if a.length = cell f.type then some (a ++ b) else none
      | _, _ => none
    else none
def flatOf (P : Program) : Nat → TypeId → Option (List IntKind)
  | 0, _ => none
  | m + 1, T => match P.underlying T with
    | some (.int k) => some [k]
    | some (.struct fs) => match flatFs (flatOf P m) P.cellsOf fs.toList 0 with
      | some ks => if ks.length = P.cellsOf T then some ks else none
      | none => none
    | _ => none
section
variable {H : Type} {enc : TypeId × Value → H} {P : Program} {w : World} {base : Nat} {spare : Nat → Bool} {held : Bool}
def IntsIn (ks : List IntKind) (cs : List Value) (ns : List Int) : Prop :=
  ns.length = ks.length ∧ cs = List.zipWith Value.int ks ns ∧ ∀ (j : Nat) k n, ks[j]? = some k → ns[j]? = some n → (Lit.int k n).wf = true
theorem IntsIn.append {k1 k2 : List IntKind} {c1 c2 : List Value} {n1 n2 : List Int} (h1 : IntsIn k1 c1 n1) (h2 : IntsIn k2 c2 n2) : IntsIn (k1 ++ k2) (c1 ++ c2) (n1 ++ n2) := by
  obtain ⟨a1, b1, d1⟩ := h1
  obtain ⟨a2, b2, d2⟩ := h2
  refine ⟨by simp [a1, a2], by rw [b1, b2, List.zipWith_append a1.symm], fun j k n hk hn => ?_⟩
  by_cases hj : j < k1.length
  · rw [List.getElem?_append_left hj] at hk
    rw [List.getElem?_append_left (by omega)] at hn
    exact d1 j k n hk hn
  · rw [List.getElem?_append_right (by omega)] at hk
    rw [List.getElem?_append_right (by omega)] at hn
    rw [a1] at hn
    exact d2 _ k n hk hn
theorem flat_sound : ∀ (m : Nat) (T : TypeId) (ks : List IntKind), flatOf P m T = some ks → ∀ (fuel : Nat) (cs : List Value) (x : DataW H × List MemPlace), DataW.trod enc P w base spare held fuel T cs = some x → ∃ ns, IntsIn ks cs ns
  | 0, _, _, h => by cases h
  | m + 1, T, ks, h => by
    intro fuel cs x hx
    unfold flatOf at h
    split at h
    · rename_i k hu
      cases h
      obtain ⟨n, rfl, _, hw⟩ := DataW.trod_int hu hx
      exact ⟨[n], rfl, rfl, fun j k' n' hk hn => by
        cases j with
        | zero => cases hk; cases hn; exact hw
        | succ j => simp at hk⟩
    · rename_i fs hu
      split at h
      · rename_i ks' hks
        split at h
        · rename_i hlen
          cases h
          obtain ⟨xs, n, _, _, hcl, hxl, hf⟩ := DataW.trod_struct hu hx
          have key : ∀ (fl : List Field) (off i0 : Nat) (ks : List IntKind), (∀ (j : Nat) f, fl[j]? = some f → fs[i0 + j]? = some f) → fl.length + i0 = fs.size → flatFs (flatOf P m) P.cellsOf fl off = some ks → off + ks.length = cs.length → ∃ ns, IntsIn ks (cs.drop off) ns := by
            intro fl
            induction fl with
            | nil =>
              intro off i0 ks hg hl hk ho
              cases hk
              exact ⟨[], rfl, List.drop_eq_nil_of_le (by simp at ho; omega), fun j k n h => by simp at h⟩
            | cons f fl ih =>
              intro off i0 ks hg hl hk ho
              unfold flatFs at hk
              split at hk
              · rename_i hoff
                split at hk
                · rename_i a b ha hb
                  split at hk
                  · rename_i hal
                    cases hk
                    have hfi := hg 0 f rfl
                    have h1 := hf i0 f (by simpa using hfi)
                    have hlt : i0 < xs.length := by rw [hxl]; simp at hl; omega
                    rw [List.getElem?_eq_getElem hlt, hoff] at h1
                    obtain ⟨n1, hn1⟩ := flat_sound m f.type a ha n _ _ h1
                    obtain ⟨n2, hn2⟩ := ih (off + P.cellsOf f.type) (i0 + 1) b (fun j g hj => by have := hg (j + 1) g hj; rwa [show i0 + (j + 1) = i0 + 1 + j by omega] at this) (by simp at hl ⊢; omega) hb (by simp at ho; omega)
                    refine ⟨n1 ++ n2, ?_⟩
                    have e : cs.drop off = (cs.drop off).take (P.cellsOf f.type) ++ cs.drop (off + P.cellsOf f.type) := by rw [← List.drop_drop, List.take_append_drop]
                    rw [e]
                    exact hn1.append hn2
                  · cases hk
                · cases hk
              · cases hk
          obtain ⟨ns, hns⟩ := key fs.toList 0 0 ks (fun j f hj => by simpa using hj) (by simp) hks (by rw [hcl, hlen]; simp)
          exact ⟨ns, by simpa using hns⟩
        · cases h
      · cases h
    · cases h
def memOf (P : Program) (w : World) : Mem := { ro := fun b o => w.cell? ⟨b, o, none⟩, mu := fun _ => none, df := fun _ => False, cc := ccP P }
theorem sim_memOf (P : Program) (w : World) : Sim (memOf P w) [] w :=
  ⟨fun i blk h => by simp at h, fun i j bi bj ri rj b h => by simp at h, fun b o v h => ⟨h, fun ⟨i, _, _, h, _⟩ => by simp at h⟩, fun _ _ => rfl, fun _ h => h.elim⟩
def rowD (ks : List IntKind) (ns : List Int) : List D := List.zipWith D.int ks ns
theorem rowD_len {ks : List IntKind} {cs : List Value} {ns : List Int} (h : IntsIn ks cs ns) : (rowD ks ns).length = ks.length := by simp [rowD, h.1]
theorem slice_sound {T e : TypeId} {ks : List IntKind} {m : Nat} (hT : P.underlying T = some (.slice e)) (he : flatOf P m e = some ks) (hsz : P.cellsOf e = ks.length) (hpos : 0 < ks.length) {fuel : Nat} {cs : List Value} {x : DataW H × List MemPlace}
    (hx : DataW.trod enc P w base spare held fuel T cs = some x) :
    ∃ (rows : List (List Int)) (v : Value), cs = [v] ∧ RepD (memOf P w).ro (.sl false rows.length (rows.flatMap (rowD ks))) v ∧ rows.length ≤ maxLen ∧ ∀ r ∈ rows, r.length = ks.length ∧ ∀ (j : Nat) k n, ks[j]? = some k → r[j]? = some n → (Lit.int k n).wf = true := by
  rcases Go.Deep.open_slice hT hx with ⟨rfl, _⟩ | ⟨a, len, cap, q, n, Df, Pl, rfl, _, hle, hm, hq, _, hel⟩
  · refine ⟨[], _, rfl, ?_, Nat.zero_le _, fun r hr => by simp at hr⟩
    have := VLe.sl (n := 0) (cs := []) (memOf P w) _ (.d _ _ (rep_nil _))
    cases this with
    | d x v h => exact h
  · have hlq : len ≤ q := by rw [hq]; split <;> omega
    have hrow : ∀ i, i < len → ∃ ns, (∀ (j : Nat), j < ks.length → w.cell? ((a.add (i * ks.length)).add j) = (List.zipWith Value.int ks ns)[j]?) ∧ IntsIn ks (List.zipWith Value.int ks ns) ns := fun i hi => by
      obtain ⟨cs', h1, h2⟩ := hel i (by omega)
      obtain ⟨ns, hns⟩ := flat_sound m e ks he n cs' _ h2
      rw [hsz] at h1
      obtain ⟨_, hl, hc⟩ := World.cells?_some h1
      obtain ⟨h3, h4, h5⟩ := hns
      exact ⟨ns, fun j hj => by rw [← h4]; exact hc j hj, h3, rfl, h5⟩
    obtain ⟨f, hf⟩ : ∃ f : Nat → List Int, ∀ i, i < len → (∀ (j : Nat), j < ks.length → w.cell? ((a.add (i * ks.length)).add j) = (List.zipWith Value.int ks (f i))[j]?) ∧ IntsIn ks (List.zipWith Value.int ks (f i)) (f i) :=
      ⟨fun i => if h : i < len then Classical.choose (hrow i h) else [], fun i hi => by simp only [dif_pos hi]; exact Classical.choose_spec (hrow i hi)⟩
    have hrl : ∀ r ∈ (List.range len).map f, (rowD ks r).length = ks.length := fun r hr => by
      obtain ⟨i, hi, rfl⟩ := List.mem_map.1 hr
      exact rowD_len (hf i (List.mem_range.1 hi)).2
    have hget : ∀ (i j : Nat), i < len → j < ks.length → (((List.range len).map f).flatMap (rowD ks))[i * ks.length + j]? = (rowD ks (f i))[j]? := by
      have gen : ∀ (l : List (List Int)), (∀ r ∈ l, (rowD ks r).length = ks.length) → ∀ (i j : Nat), j < ks.length → (l.flatMap (rowD ks))[i * ks.length + j]? = (l[i]?).bind fun r => (rowD ks r)[j]? := by
        intro l
        induction l with
        | nil => intro _ i j _; simp
        | cons r l ih =>
          intro hl i j hj
          have h0 := hl r (by simp)
          cases i with
          | zero => rw [List.flatMap_cons, List.getElem?_append_left (by omega)]; simp
          | succ i =>
            rw [List.flatMap_cons, List.getElem?_append_right (by rw [h0, Nat.add_mul]; omega), h0]
            have : (i + 1) * ks.length + j - ks.length = i * ks.length + j := by rw [Nat.add_mul]; omega
            rw [this, ih (fun r hr => hl r (by simp [hr])) i j hj]
            rfl
      intro i j hi hj
      rw [gen _ hrl i j hj]
      simp [hi]
    have hlen : (((List.range len).map f).flatMap (rowD ks)).length = len * ks.length := by
      have gen : ∀ (l : List (List Int)), (∀ r ∈ l, (rowD ks r).length = ks.length) → (l.flatMap (rowD ks)).length = l.length * ks.length := by
        intro l
        induction l with
        | nil => intro _; simp
        | cons r l ih =>
          intro hl
          rw [List.flatMap_cons, List.length_append, hl r (by simp), ih (fun r hr => hl r (by simp [hr])), List.length_cons, Nat.add_mul]
          omega
      rw [gen _ hrl]; simp
    have hwf : ∀ r ∈ (List.range len).map f, r.length = ks.length ∧ ∀ (j : Nat) k n, ks[j]? = some k → r[j]? = some n → (Lit.int k n).wf = true := fun r hr => by
      obtain ⟨i, hi, rfl⟩ := List.mem_map.1 hr
      exact ⟨(hf i (List.mem_range.1 hi)).2.1, (hf i (List.mem_range.1 hi)).2.2.2⟩
    refine ⟨(List.range len).map f, _, rfl, ?_, by simp; omega, hwf⟩
    have hl2 : ((List.range len).map f).length = len := by simp
    rw [hl2]
    rcases Nat.eq_zero_or_pos len with h0 | h0
    · subst h0
      exact .sl false 0 cap _ (some a) 0 0 (fun _ => undef) hle hm (fun e => by cases e) (.inl (by simp)) (fun k hk => by simp at hk) (fun k c hc => by simp at hc)
    · -- the address is plain
      have hspot : a = ⟨a.block, a.off, none⟩ := by
        have h1 := (hf 0 h0).1 0 hpos
        have h2 := (hf 0 h0).2.1
        have h3 : (a.add (0 * ks.length)).add 0 = a := by simp [Addr.add]
        rw [h3] at h1
        have h4 : (List.zipWith Value.int ks (f 0))[0]? ≠ none := by
          intro e
          rw [List.getElem?_eq_none_iff, List.length_zipWith, h2, Nat.min_self] at e
          omega
        cases hs : a.spot with
        | none => cases a; simp_all
        | some s =>
          exfalso
          apply h4
          rw [← h1]
          unfold World.cell?
          split
          · simp [hs]
          · rfl
      have hadd : ∀ i j : Nat, (a.add (i * ks.length)).add j = ⟨a.block, a.off + (i * ks.length + j), none⟩ := fun i j => by
        rw [hspot]
        by_cases hi : i * ks.length = 0
        · by_cases hj : j = 0
          · simp [Addr.add, hi, hj]
          · simp [Addr.add, hi, hj]
        · by_cases hj : j = 0
          · simp [Addr.add, hi, hj]
          · simp [Addr.add, hi, hj]; omega
      have hsplit : ∀ k, k < len * ks.length → ∃ i j, i < len ∧ j < ks.length ∧ k = i * ks.length + j := fun k hk =>
        ⟨k / ks.length, k % ks.length, (Nat.div_lt_iff_lt_mul hpos).2 hk, Nat.mod_lt _ hpos, by rw [Nat.mul_comm]; exact (Nat.div_add_mod k ks.length).symm⟩
      refine .sl false len cap _ (some a) a.block a.off (fun k => (w.cell? ⟨a.block, a.off + k, none⟩).getD undef) hle hm (fun e => by cases e) (.inr (congrArg some hspot)) (fun k hk => ?_) (fun k c hc => ?_)
      · rw [hlen] at hk
        obtain ⟨i, j, hi, hj, rfl⟩ := hsplit k hk
        have h1 := (hf i hi).1 j hj
        rw [hadd] at h1
        show w.cell? _ = _
        rw [h1]
        have h2 := (hf i hi).2.1
        rw [List.getElem?_eq_getElem (by simp [h2]; omega)]
        rfl
      · have hk : k < len * ks.length := by rw [← hlen]; exact (List.getElem?_eq_some_iff.1 hc).1
        obtain ⟨i, j, hi, hj, rfl⟩ := hsplit k hk
        rw [hget i j hi hj] at hc
        have h1 := (hf i hi).1 j hj
        rw [hadd] at h1
        rw [h1]
        have h2 := (hf i hi).2.1
        have hk' : ks[j]? = some ks[j] := List.getElem?_eq_getElem hj
        have hn' : (f i)[j]? = some ((f i)[j]'(by omega)) := List.getElem?_eq_getElem (by omega)
        simp only [rowD, List.getElem?_zipWith, hk', hn', Option.map_some, Option.bind_some, Option.some.injEq] at hc ⊢
        subst hc
        exact .int _ _
end
def in64 (n : Int) : Prop := -9223372036854775808 ≤ n ∧ n ≤ 9223372036854775807
theorem rows1 {rows : List (List Int)} (h : ∀ r ∈ rows, r.length = 1) : ∃ l : List Int, l.length = rows.length ∧ rows.flatMap (rowD [.i64]) = Go.Proofs.Ytdnefcjbcieecaa.enc eI l := by
  induction rows with
  | nil => exact ⟨[], rfl, rfl⟩
  | cons r rows ih =>
    obtain ⟨l, h1, h2⟩ := ih fun r hr => h r (by simp [hr])
    match r, h r (by simp) with
    | [a], _ => exact ⟨a :: l, by simp [h1], by rw [List.flatMap_cons, h2]; rfl⟩
theorem rows2 {rows : List (List Int)} (h : ∀ r ∈ rows, r.length = 2) : ∃ l : List Rng, l.length = rows.length ∧ rows.flatMap (rowD [.i64, .i64]) = Go.Proofs.Ytdnefcjbcieecaa.enc eR l := by
  induction rows with
  | nil => exact ⟨[], rfl, rfl⟩
  | cons r rows ih =>
    obtain ⟨l, h1, h2⟩ := ih fun r hr => h r (by simp [hr])
    match r, h r (by simp) with
    | [a, b], _ => exact ⟨⟨a, b⟩ :: l, by simp [h1], by rw [List.flatMap_cons, h2]; rfl⟩
theorem rows3V {rows : List (List Int)} (h : ∀ r ∈ rows, r.length = 3) : ∃ l : List Dvd, l.length = rows.length ∧ rows.flatMap (rowD [.i64, .i64, .i64]) = Go.Proofs.Ytdnefcjbcieecaa.enc eV l := by
  induction rows with
  | nil => exact ⟨[], rfl, rfl⟩
  | cons r rows ih =>
    obtain ⟨l, h1, h2⟩ := ih fun r hr => h r (by simp [hr])
    match r, h r (by simp) with
    | [a, b, c], _ => exact ⟨⟨a, b, c⟩ :: l, by simp [h1], by rw [List.flatMap_cons, h2]; rfl⟩
theorem rows3S {rows : List (List Int)} (h : ∀ r ∈ rows, r.length = 3) : ∃ l : List Spl, l.length = rows.length ∧ rows.flatMap (rowD [.i64, .i64, .i64]) = Go.Proofs.Ytdnefcjbcieecaa.enc eS l := by
  induction rows with
  | nil => exact ⟨[], rfl, rfl⟩
  | cons r rows ih =>
    obtain ⟨l, h1, h2⟩ := ih fun r hr => h r (by simp [hr])
    match r, h r (by simp) with
    | [a, b, c], _ => exact ⟨⟨a, b, c⟩ :: l, by simp [h1], by rw [List.flatMap_cons, h2]; rfl⟩
theorem rows7 {rows : List (List Int)} (h : ∀ r ∈ rows, r.length = 7) : ∃ l : List Trd, l.length = rows.length ∧ rows.flatMap (rowD [.i64, .i64, .i64, .i64, .i64, .i64, .i64]) = Go.Proofs.Ytdnefcjbcieecaa.enc eT l := by
  induction rows with
  | nil => exact ⟨[], rfl, rfl⟩
  | cons r rows ih =>
    obtain ⟨l, h1, h2⟩ := ih fun r hr => h r (by simp [hr])
    match r, h r (by simp) with
    | [a, b, c, d, e, f, g], _ => exact ⟨⟨a, b, c, ⟨d, e⟩, ⟨f, g⟩⟩ :: l, by simp [h1], by rw [List.flatMap_cons, h2]; rfl⟩
theorem trodAll_old {H : Type} {enc : TypeId × Value → H} {P : Program} {W W' : World} {T : TypeId → Prop} (K : Kids P T) (hz : ∀ t e, T t → P.underlying t = some (.slice e) → 0 < P.cellsOf e) {ts : List TypeId} (hT : ∀ t ∈ ts, T t)
    {vs : List Value} {ds : List (DataW H)} {ps : List MemPlace} (h : DataW.TrodAll enc P W 0 (fun _ => true) true ts vs ds ps) (hold : ∀ b, b < W.heap.size → W'.heap[b]? = W.heap[b]?) :
    DataW.TrodAll enc P W' 0 (fun b => decide (b < W.heap.size)) true ts vs ds ps := by
  have hlt := h.lt
  have h2 := h.respare (spare' := fun b => decide (b < W.heap.size)) K hz hT (fun p hp => decide_eq_true (hlt p hp))
  have hsame : ∀ p ∈ ps, W.sameAt W' p := fun p hp => by
    have := hold _ (hlt p hp)
    cases p with
    | cell b off =>
      have this : W'.heap[b]? = W.heap[b]? := this
      show W'.cell? _ = W.cell? _
      unfold World.cell?
      rw [this]
    | map b => exact this
  clear h hlt
  revert vs ds ps
  induction ts with
  | nil => intro vs ds ps h _; cases vs <;> cases ds <;> first | exact h | exact h.elim
  | cons t ts ih =>
    intro vs ds ps h hs
    cases vs with
    | nil => exact h.elim
    | cons v vs => cases ds with
      | nil => exact h.elim
      | cons d ds =>
        obtain ⟨p, q, ⟨n, h1⟩, h2, rfl⟩ := h
        exact ⟨p, q, ⟨n, DataW.trod_carry n _ _ _ h1 fun x hx => hs x (List.mem_append_left _ hx)⟩, ih (fun t ht => hT t (by simp [ht])) h2 (fun x hx => hs x (List.mem_append_right _ hx)), rfl⟩
theorem calls_true {P : Program} {g : Nat} {vs : List V} {b : Bool} (hy : Yields P g vs (vb b)) (w : World) {args : List Value} (hr : RepL (memOf P w) vs args) :
    Calls P g args.toArray w fun e w' => e = .returned (.bool b) ∧ w'.os = w.os ∧ w'.tape = w.tape ∧ w'.output = w.output ∧ w.heap.size ≤ w'.heap.size ∧ ∀ b, b < w.heap.size → w'.heap[b]? = w.heap[b]? := by
  refine ((hy []).2 (memOf P w) w args rfl (sim_memOf P w) hr).mono ?_
  rintro e w' ⟨cv, v, h2, M', rfl, hp, hv, rfl, rfl⟩
  have hv : RepV M' (.d (.bool b)) cv := hv
  exact ⟨by rw [hv.boolI], hp.os, hp.tape, hp.output, hp.size, fun b hb => hp.keep b hb (fun ⟨i, blk, r, hi, _⟩ => by simp at hi)⟩
end Go.Proofs.Ytdnefcjbcieecaa
namespace Go.Proofs.Ytdnefcjbcieecaa
open Go Go.ChangeShapes Go.WideShapes Go.ChangeAt Go.RowKit
def fieldAt (P : Program) (T : TypeId) (i : Nat) : Option (TypeId × Nat × Nat) := match P.underlying T with
  | some (.struct fs) => (fs[i]?).map fun f => (f.type, f.offset, P.cellsOf f.type)
  | _ => none
def isSlice (P : Program) (T e : TypeId) : Bool := match P.underlying T with
  | some (.slice t) => t == e
  | _ => false
noncomputable def isIntT (P : Program) (T : TypeId) : Nat := match P.underlying T with
  | some (.int k) => kn k + 1
  | _ => 0
theorem isSlice_eq {P : Program} {T e : TypeId} (h : isSlice P T e = true) : P.underlying T = some (.slice e) := by
  unfold isSlice at h
  split at h
  · rename_i hu; rw [hu, eq_of_beq h]
  · cases h
theorem isIntT_eq {P : Program} {T : TypeId} {k : IntKind} (h : isIntT P T = kn k + 1) : P.underlying T = some (.int k) := by
  unfold isIntT at h
  split at h
  · rename_i k' hu
    rw [hu]
    have h2 : kn k' = kn k := by omega
    have h3 : k' = k := kn_inj (by rw [h2]; exact Nat.beq_refl _)
    rw [h3]
  · omega
section
variable {H : Type} {enc : TypeId × Value → H} {w : World} {spare : Nat → Bool} {held : Bool}
theorem field_sound {P : Program} {T t : TypeId} {i off c fuel : Nat} {cs : List Value} {x : DataW H × List MemPlace} (hf : fieldAt P T i = some (t, off, c)) (hx : DataW.trod enc P w 0 spare held fuel T cs = some x) :
    cs.length = P.cellsOf T ∧ ∃ n y, DataW.trod enc P w 0 spare held n t ((cs.drop off).take c) = some y := by
  unfold fieldAt at hf
  split at hf
  · rename_i fs hu
    obtain ⟨xs, n, _, _, hl, hxl, h⟩ := DataW.trod_struct hu hx
    cases hi : fs[i]? with
    | none => rw [hi] at hf; cases hf
    | some f =>
      rw [hi] at hf
      simp only [Option.map_some, Option.some.injEq, Prod.mk.injEq] at hf
      obtain ⟨rfl, rfl, rfl⟩ := hf
      have h1 := h i f hi
      have hlt : i < xs.length := by rw [hxl]; exact (Array.getElem?_eq_some_iff.1 hi).1
      rw [List.getElem?_eq_getElem hlt] at h1
      exact ⟨hl, n, _, h1⟩
  · cases hf
theorem int_sound {P : Program} {T : TypeId} {k : IntKind} {fuel : Nat} {cs : List Value} {x : DataW H × List MemPlace} (hT : isIntT P T = kn k + 1) (hx : DataW.trod enc P w 0 spare held fuel T cs = some x) :
    ∃ n, cs = [.int k n] ∧ (Lit.int k n).wf = true := by
  obtain ⟨n, h1, _, h2⟩ := DataW.trod_int (isIntT_eq hT) hx
  exact ⟨n, h1, h2⟩
theorem cellAt {cs : List Value} {off : Nat} {v : Value} (h : (cs.drop off).take 1 = [v]) : cs[off]? = some v := by
  have : ((cs.drop off).take 1)[0]? = some v := by rw [h]; rfl
  simpa using this
theorem listI_sound {fuel : Nat} {cs : List Value} {x : DataW H × List MemPlace} (hx : DataW.trod enc Try.prog w 0 spare held fuel 22 cs = some x) :
    ∃ (l : List Int) (v : Value), cs = [v] ∧ RepD (memOf Try.prog w).ro (dsl eI l) v ∧ l.length ≤ maxLen := by
  obtain ⟨rows, v, h1, h2, h3, h4⟩ := slice_sound (ks := [.i64]) (m := 3) (isSlice_eq (e := 3) (by kernel_rfl)) (by kernel_rfl) (by kernel_rfl) (by decide) hx
  obtain ⟨l, hl, he⟩ := rows1 fun r hr => (h4 r hr).1
  exact ⟨l, v, h1, by unfold dsl; rw [hl, ← he]; exact h2, by omega⟩
theorem listR_sound {fuel : Nat} {cs : List Value} {x : DataW H × List MemPlace} (hx : DataW.trod enc Try.prog w 0 spare held fuel 26 cs = some x) :
    ∃ (l : List Rng) (v : Value), cs = [v] ∧ RepD (memOf Try.prog w).ro (dsl eR l) v ∧ l.length ≤ maxLen := by
  obtain ⟨rows, v, h1, h2, h3, h4⟩ := slice_sound (ks := [.i64, .i64]) (m := 3) (isSlice_eq (e := 73) (by kernel_rfl)) (by kernel_rfl) (by kernel_rfl) (by decide) hx
  obtain ⟨l, hl, he⟩ := rows2 fun r hr => (h4 r hr).1
  exact ⟨l, v, h1, by unfold dsl; rw [hl, ← he]; exact h2, by omega⟩
theorem listT_sound {e : TypeId} (he1 : isSlice Try.prog 23 e = true) (he2 : flatOf Try.prog 4 e = some [.i64, .i64, .i64, .i64, .i64, .i64, .i64]) (he3 : Try.prog.cellsOf e = 7) {fuel : Nat} {cs : List Value} {x : DataW H × List MemPlace} (hx : DataW.trod enc Try.prog w 0 spare held fuel 23 cs = some x) :
    ∃ (l : List Trd) (v : Value), cs = [v] ∧ RepD (memOf Try.prog w).ro (dsl eT l) v ∧ l.length ≤ maxLen := by
  obtain ⟨rows, v, h1, h2, h3, h4⟩ := slice_sound (m := 4) (isSlice_eq he1) he2 he3 (by decide) hx
  obtain ⟨l, hl, he⟩ := rows7 fun r hr => (h4 r hr).1
  exact ⟨l, v, h1, by unfold dsl; rw [hl, ← he]; exact h2, by omega⟩
theorem listV_sound {fuel : Nat} {cs : List Value} {x : DataW H × List MemPlace} (hx : DataW.trod enc Try.prog w 0 spare held fuel 24 cs = some x) :
    ∃ (l : List Dvd) (v : Value), cs = [v] ∧ RepD (memOf Try.prog w).ro (dsl eV l) v ∧ l.length ≤ maxLen := by
  obtain ⟨rows, v, h1, h2, h3, h4⟩ := slice_sound (ks := [.i64, .i64, .i64]) (m := 3) (isSlice_eq (e := 52) (by kernel_rfl)) (by kernel_rfl) (by kernel_rfl) (by decide) hx
  obtain ⟨l, hl, he⟩ := rows3V fun r hr => (h4 r hr).1
  exact ⟨l, v, h1, by unfold dsl; rw [hl, ← he]; exact h2, by omega⟩
theorem listS_sound {fuel : Nat} {cs : List Value} {x : DataW H × List MemPlace} (hx : DataW.trod enc Try.prog w 0 spare held fuel 25 cs = some x) :
    ∃ (l : List Spl) (v : Value), cs = [v] ∧ RepD (memOf Try.prog w).ro (dsl eS l) v ∧ l.length ≤ maxLen := by
  obtain ⟨rows, v, h1, h2, h3, h4⟩ := slice_sound (ks := [.i64, .i64, .i64]) (m := 3) (isSlice_eq (e := 79) (by kernel_rfl)) (by kernel_rfl) (by kernel_rfl) (by decide) hx
  obtain ⟨l, hl, he⟩ := rows3S fun r hr => (h4 r hr).1
  exact ⟨l, v, h1, by unfold dsl; rw [hl, ← he]; exact h2, by omega⟩
theorem rep_agg {M : Mem} {ds : List D} {cs : List Value} (hl : ds.length = cs.length) (h : ∀ (k : Nat) d v, ds[k]? = some d → cs[k]? = some v → RepD M.ro d v) : RepV M (.agg (ds.map .d)) (.agg cs.toArray) := by
  refine .agg _ _ (by simpa using hl) (fun k v c hv hc => ?_) (fun u hu => ?_)
  · rw [List.getElem?_map] at hv
    cases hd : ds[k]? with
    | none => rw [hd] at hv; cases hv
    | some d => rw [hd] at hv; cases hv; exact .d _ _ (h k d c hd hc)
  · obtain ⟨k, hk, rfl⟩ := List.getElem_of_mem hu
    exact (h k ds[k] cs[k] (by simp) (by simp)).one
theorem company_sound {cs : Array Value} {fuel : Nat} {x : DataW H × List MemPlace} (hx : DataW.trod enc Try.prog w 0 spare held fuel 28 cs.toList = some x) : ∃ c : Cmp, RepV (memOf Try.prog w) (Cv c) (.agg cs) ∧ in64 c.houses ∧
    c.held.length ≤ maxLen ∧ c.trades.length ≤ maxLen ∧ c.divs.length ≤ maxLen ∧ c.splits.length ≤ maxLen ∧ c.closed.length ≤ maxLen := by
  obtain ⟨hl, n0, y0, h0⟩ := field_sound (i := 0) (t := 3) (off := 0) (c := 1) (by kernel_rfl) hx
  obtain ⟨_, n1, y1, h1⟩ := field_sound (i := 1) (t := 22) (off := 1) (c := 1) (by kernel_rfl) hx
  obtain ⟨_, n2, y2, h2⟩ := field_sound (i := 2) (t := 23) (off := 2) (c := 1) (by kernel_rfl) hx
  obtain ⟨_, n3, y3, h3⟩ := field_sound (i := 3) (t := 24) (off := 3) (c := 1) (by kernel_rfl) hx
  obtain ⟨_, n4, y4, h4⟩ := field_sound (i := 4) (t := 25) (off := 4) (c := 1) (by kernel_rfl) hx
  obtain ⟨_, n5, y5, h5⟩ := field_sound (i := 5) (t := 26) (off := 5) (c := 1) (by kernel_rfl) hx
  have hc : Try.prog.cellsOf 28 = 6 := by kernel_rfl
  rw [hc] at hl
  obtain ⟨hs, e0, hw⟩ := int_sound (k := .i64) (by kernel_rfl) h0
  obtain ⟨l1, v1, e1, r1, m1⟩ := listI_sound h1
  obtain ⟨l2, v2, e2, r2, m2⟩ := listT_sound (e := 99) (by kernel_rfl) (by kernel_rfl) (by kernel_rfl) h2
  obtain ⟨l3, v3, e3, r3, m3⟩ := listV_sound h3
  obtain ⟨l4, v4, e4, r4, m4⟩ := listS_sound h4
  obtain ⟨l5, v5, e5, r5, m5⟩ := listR_sound h5
  have c0 := cellAt e0; have c1 := cellAt e1; have c2 := cellAt e2; have c3 := cellAt e3; have c4 := cellAt e4; have c5 := cellAt e5
  refine ⟨⟨hs, l1, l2, l3, l4, l5⟩, ?_, bounds_i64 hw, m1, m2, m3, m4, m5⟩
  have := rep_agg (M := memOf Try.prog w) (ds := [.int .i64 hs, dsl eI l1, dsl eT l2, dsl eV l3, dsl eS l4, dsl eR l5]) (cs := cs.toList) (by rw [hl]; rfl) (fun k d v hd hv => by
    match k with
    | 0 => rw [c0] at hv; cases hd; cases hv; exact .int _ _
    | 1 => rw [c1] at hv; cases hd; cases hv; exact r1
    | 2 => rw [c2] at hv; cases hd; cases hv; exact r2
    | 3 => rw [c3] at hv; cases hd; cases hv; exact r3
    | 4 => rw [c4] at hv; cases hd; cases hv; exact r4
    | 5 => rw [c5] at hv; cases hd; cases hv; exact r5
    | k + 6 => simp at hd)
  simp only [Array.toArray_toList] at this
  exact this
theorem truth_sound {cs : Array Value} {fuel : Nat} {x : DataW H × List MemPlace} (hx : DataW.trod enc Try.prog w 0 spare held fuel 30 cs.toList = some x) : ∃ t : Tru, RepV (memOf Try.prog w) (Uv t) (.agg cs) ∧ t.sold.length ≤ maxLen ∧ t.deliv.length ≤ maxLen := by
  obtain ⟨hl, n0, y0, h0⟩ := field_sound (i := 0) (t := 22) (off := 0) (c := 1) (by kernel_rfl) hx
  obtain ⟨_, n1, y1, h1⟩ := field_sound (i := 1) (t := 22) (off := 1) (c := 1) (by kernel_rfl) hx
  have hc : Try.prog.cellsOf 30 = 2 := by kernel_rfl
  rw [hc] at hl
  obtain ⟨l0, v0, e0, r0, m0⟩ := listI_sound h0
  obtain ⟨l1, v1, e1, r1, m1⟩ := listI_sound h1
  have c0 := cellAt e0; have c1 := cellAt e1
  refine ⟨⟨l0, l1⟩, ?_, m0, m1⟩
  have := rep_agg (M := memOf Try.prog w) (ds := [dsl eI l0, dsl eI l1]) (cs := cs.toList) (by rw [hl]; rfl) (fun k d v hd hv => by
    match k with
    | 0 => rw [c0] at hv; cases hd; cases hv; exact r0
    | 1 => rw [c1] at hv; cases hd; cases hv; exact r1
    | k + 2 => simp at hd)
  simp only [Array.toArray_toList] at this
  exact this
end
theorem isStruct_of {P : Program} {T : TypeId} {i : Nat} {t : TypeId} {off c : Nat} (h : fieldAt P T i = some (t, off, c)) : ∃ fs, P.underlying T = some (.struct fs) := by
  unfold fieldAt at h
  split at h
  · rename_i fs hu; exact ⟨fs, hu⟩
  · cases h
theorem keptBut_of_old {w w' : World} {may : MemPlace → Prop} (h1 : w'.os = w.os) (h2 : w'.output = w.output) (h3 : ∀ b, b < w.heap.size → w'.heap[b]? = w.heap[b]?) : w.keptBut w' may := by
  refine ⟨h1, h2, fun i hi => ?_⟩
  rw [h3 i hi]
  split
  · rename_i c t fr c' t' fr' e1 e2
    rw [e1] at e2; cases e2
    exact ⟨rfl, rfl, rfl, fun _ _ => rfl⟩
  · rename_i es k es' k' e1 e2
    rw [e1] at e2; cases e2
    exact .inr ⟨rfl, rfl⟩
  · rfl
theorem ownsNothing : ownKnob Try.prog.godebug = none := by kernel_rfl
theorem try_laid : laidOutB Try.prog = true := by kernel_rfl
theorem repL_nil (M : Mem) : RepL M [] [] := ⟨rfl, fun k v c h => by simp at h⟩
theorem repL_cons {M : Mem} {v : V} {c : Value} {vs : List V} {cs : List Value} (h : RepV M v c) (hs : RepL M vs cs) : RepL M (v :: vs) (c :: cs) := by
  refine ⟨by simp [hs.1], fun k a b ha hb => ?_⟩
  cases k with
  | zero => cases ha; cases hb; exact h
  | succ k => exact hs.2 k a b (by simpa using ha) (by simpa using hb)
theorem try_kids : Kids Try.prog (· < Try.prog.types.size) := kids_rows try_laid (by kernel_rfl)
theorem try_full : ∀ t e, t < Try.prog.types.size → Try.prog.underlying t = some (.slice e) → 0 < Try.prog.cellsOf e := slices_full_of Try.prog (by kernel_rfl)
theorem fa28 : fieldAt Try.prog 28 0 = some (3, 0, 1) := by kernel_rfl
theorem fa30 : fieldAt Try.prog 30 0 = some (22, 0, 1) := by kernel_rfl
theorem it3 : isIntT Try.prog 3 = kn .i64 + 1 := by kernel_rfl
section
variable {H : Type} {enc : TypeId × Value → H} {W : World} {base : Nat}
set_option maxRecDepth 100000 in
theorem arg_company {v : Value} {d : DataW H} {p : List MemPlace} (hok : Value.okWide Try.prog W .any base 28 v) (ht : DataW.Trod enc Try.prog W 0 (fun _ => true) true 28 v d p) : ∃ c : Cmp, RepV (memOf Try.prog W) (Cv c) v ∧ in64 c.houses ∧
    c.held.length ≤ maxLen ∧ c.trades.length ≤ maxLen ∧ c.divs.length ≤ maxLen ∧ c.splits.length ≤ maxLen ∧ c.closed.length ≤ maxLen := by
  obtain ⟨fs, hfs⟩ := isStruct_of fa28
  obtain ⟨cs, rfl, _⟩ := okWide_struct hfs hok
  obtain ⟨fuel, hx⟩ := ht
  exact company_sound (cs := cs) hx
set_option maxRecDepth 100000 in
theorem arg_truth {v : Value} {d : DataW H} {p : List MemPlace} (hok : Value.okWide Try.prog W .any base 30 v) (ht : DataW.Trod enc Try.prog W 0 (fun _ => true) true 30 v d p) : ∃ t : Tru, RepV (memOf Try.prog W) (Uv t) v ∧ t.sold.length ≤ maxLen ∧ t.deliv.length ≤ maxLen := by
  obtain ⟨fs, hfs⟩ := isStruct_of fa30
  obtain ⟨cs, rfl, _⟩ := okWide_struct hfs hok
  obtain ⟨fuel, hx⟩ := ht
  exact truth_sound (cs := cs) hx
set_option maxRecDepth 100000 in
theorem arg_int {v : Value} {d : DataW H} {p : List MemPlace} (hok : Value.okWide Try.prog W .any base 3 v) (ht : DataW.Trod enc Try.prog W 0 (fun _ => true) true 3 v d p) : ∃ n : Int, RepV (memOf Try.prog W) (vi n) v ∧ in64 n := by
  obtain ⟨n, rfl⟩ := okWide_int (isIntT_eq it3) hok
  obtain ⟨fuel, hx⟩ := ht
  obtain ⟨m, h1, h2⟩ := int_sound it3 hx
  cases h1
  exact ⟨n, .d _ _ (.int _ _), bounds_i64 h2⟩
end
end Go.Proofs.Ytdnefcjbcieecaa
