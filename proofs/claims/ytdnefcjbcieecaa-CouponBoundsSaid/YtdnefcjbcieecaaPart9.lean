/- A part of the proof. -/
import Derived.Test.YtdnefcjbcieecaaPart8
import Derived.Test.YtdnefcjbcieecaaProg
import Derived.KernelRfl
set_option linter.unusedVariables false
set_option linter.unusedSimpArgs false
namespace Go.Proofs.Ytdnefcjbcieecaa
open Go Go.Proofs
noncomputable section
theorem q65 : FunIs Try.prog 65 G65 c65 r65 := ⟨Try.f65, Try.func65, k65, e65, by kernel_rfl, by kernel_rfl⟩
theorem q25 : FunIs Try.prog 25 G25 c25 r25 := ⟨Try.f25, Try.func25, k25, e25, by kernel_rfl, by kernel_rfl⟩
theorem q26 : FunIs Try.prog 26 G26 c26 r26 := ⟨Try.f26, Try.func26, k26, e26, by kernel_rfl, by kernel_rfl⟩
theorem q27 : FunIs Try.prog 27 G27 c27 r27 := ⟨Try.f27, Try.func27, k27, e27, by kernel_rfl, by kernel_rfl⟩
def ent67 : Ent := fun args h => match args, asW h with
 | [.ptr 1 0 0, x, y], some (c, km, []) => match asU x, asDv y with
  | some t, some d => some (h = Wk c km [] ∧ Uv t = x ∧ Dv d = y ∧ okCTD c t d km, .own 3 c.held.length c.held.length, some (Wk c (kmC c t d (kmT c t d.record km c.trades.length) c.trades.length) [none, some (.row 3 1 c.held.length (enc eI (rightsM c t d)))]))
  | _, _ => none
 | _, _ => none
theorem ent67_ok : EntOk Try.prog 67 ent67 := by
 intro args h p v h' he hp
 unfold ent67 at he
 split at he
 ·split at he
  ·cases he
   obtain ⟨h1, rfl, rfl, h2, h3, h4, h5⟩ := hp
   rw [h1]
   exact a67 _ _ _ _ h2 h3 h4 h5
  ·cases he
 ·cases he
def tab23 : Spec := (spAdd 67 ent67 tab22)
theorem tab23_ok : SpOk Try.prog tab23 := (spAdd_ok ent67_ok tab22_ok)
def X23 : Sx := { sp := tab23, md := fun k => bif Nat.beq k 15 then 4 else 0, sh := shI, alt := alt58 }
theorem X23_ok : SpOk Try.prog X23.sp := tab23_ok
theorem w65a (c : Cmp) (t : Tru) (n : Int) : sx X23 c65 [] (doneK r65) (envOf [.agg [.d (.fn (.func 64))], Cv c, Uv t, vi n]) [] [] =
  let x1_ := (D.int .i64 (askE (dCe c) (dUe t)))
  let x2_ := (D.int .i64 0)
  let x3_ := (kmF (dCe c) (dUe t) [] 12)
  let x4_ := [some (Blk.map (List.map entE x3_)), some (Blk.box [V.d (D.int .i64 (Cmp.houses (dCe c))), V.d (D.sl false (List.length (Cmp.held (dCe c))) (enc eI (Cmp.held (dCe c)))), V.d (D.sl false (List.length (Cmp.trades (dCe c))) (enc eT (Cmp.trades (dCe c)))), V.d (D.sl false (List.length (Cmp.divs (dCe c))) (enc eV (Cmp.divs (dCe c)))), V.d (D.sl false (List.length (Cmp.splits (dCe c))) (enc eS (Cmp.splits (dCe c)))), V.d (D.sl false (List.length (Cmp.closed (dCe c))) (enc eR (Cmp.closed (dCe c)))), V.mp 0])]
  let x5_ := (List.length (Cmp.divs c))
  let x6_ := (-9223372036854775808 ≤ Int.ofNat x5_ - (1 : Int) ∧ Int.ofNat x5_ - (1 : Int) ≤ 9223372036854775807)
  let x7_ := (!inR n (0 : Int) (Int.ofNat x5_ - (1 : Int)))
  let x8_ := (V.tup [V.d D.nils, V.d (D.int .i64 (2 : Int))])
  let y1_ := (enc eV (Cmp.divs c))
  let x9_ := ((0 : Int) ≤ n ∧ n < Int.ofNat x5_ ∧ okEl [0, 0, 0] y1_ 3 n)
  let x10_ := (dK (List.map entE x3_))
  let y0_ := ({ ex := cI y1_ 3 n 0, record := cI y1_ 3 n 1, pence := cI y1_ 3 n 2 } : Dvd)
  let x11_ := (paidM (dCe (dCe c)) (dUe t) y0_)
  let x12_ := (Cmp.trades (dCe (dCe c)))
  let x13_ := (Cmp.held (dCe (dCe c)))
  let x14_ := (Cmp.divs (dCe (dCe c)))
  let x15_ := (Cmp.splits (dCe (dCe c)))
  let x16_ := (Cmp.closed (dCe (dCe c)))
  Tr.alt false 58 [Cv c, Uv t] [] (V.tup [V.d D.nilp, V.d x1_]) [] (V.tup [V.ptr 1 0 0, V.d x2_]) x4_ (Tr.br (askE (dCe c) (dUe t) != (0 : Int)) (Tr.done (V.tup [V.d D.nils, V.d x1_]) []) (Tr.need x6_ (Tr.need True (Tr.br x7_ (Tr.done x8_ []) (Tr.need x9_ Tr.fail))))) (Tr.br ((0 : Int) != (0 : Int)) (Tr.done (V.tup [V.d D.nils, V.d x2_]) x4_) (Tr.need x6_ (Tr.need True (Tr.br x7_ (Tr.done x8_ x4_) (Tr.need x9_ (Tr.need (Wk (dCe c) x3_ [] = Wk (dCe (dCe c)) x10_ [] ∧ Uv (dUe t) = Uv t ∧ Dv y0_ = V.agg [V.d (D.int .i64 (cI y1_ 3 n 0)), V.d (D.int .i64 (cI y1_ 3 n 1)), V.d (D.int .i64 (cI y1_ 3 n 2))] ∧ okCTD (dCe (dCe c)) (dUe t) y0_ x10_) (Tr.done (V.tup [V.own 3 (List.length x11_) (List.length x11_), V.d x2_]) [some (Blk.map (List.map entE (kmT (dCe (dCe c)) (dUe t) (Dvd.record y0_) x10_ (List.length x12_)))), some (Blk.box [V.d (D.int .i64 (Cmp.houses (dCe (dCe c)))), V.d (D.sl false (List.length x13_) (enc eI x13_)), V.d (D.sl false (List.length x12_) (enc eT x12_)), V.d (D.sl false (List.length x14_) (enc eV x14_)), V.d (D.sl false (List.length x15_) (enc eS x15_)), V.d (D.sl false (List.length x16_) (enc eR x16_)), V.mp 0]), none, some (Blk.row 3 1 (List.length x11_) (enc eI x11_))]))))))) := by kernel_rfl
theorem w65b (c : Cmp) (t : Tru) (n : Int) : sx X23 c65 [] (doneK r65) (envOf [.agg [.d (.fn (.func 66))], Cv c, Uv t, vi n]) [] [] =
  let x1_ := (D.int .i64 (askE (dCe c) (dUe t)))
  let x2_ := (D.int .i64 0)
  let x3_ := (kmF (dCe c) (dUe t) [] 12)
  let x4_ := [some (Blk.map (List.map entE x3_)), some (Blk.box [V.d (D.int .i64 (Cmp.houses (dCe c))), V.d (D.sl false (List.length (Cmp.held (dCe c))) (enc eI (Cmp.held (dCe c)))), V.d (D.sl false (List.length (Cmp.trades (dCe c))) (enc eT (Cmp.trades (dCe c)))), V.d (D.sl false (List.length (Cmp.divs (dCe c))) (enc eV (Cmp.divs (dCe c)))), V.d (D.sl false (List.length (Cmp.splits (dCe c))) (enc eS (Cmp.splits (dCe c)))), V.d (D.sl false (List.length (Cmp.closed (dCe c))) (enc eR (Cmp.closed (dCe c)))), V.mp 0])]
  let x5_ := (List.length (Cmp.divs c))
  let x6_ := (-9223372036854775808 ≤ Int.ofNat x5_ - (1 : Int) ∧ Int.ofNat x5_ - (1 : Int) ≤ 9223372036854775807)
  let x7_ := (!inR n (0 : Int) (Int.ofNat x5_ - (1 : Int)))
  let x8_ := (V.tup [V.d D.nils, V.d (D.int .i64 (2 : Int))])
  let y1_ := (enc eV (Cmp.divs c))
  let x9_ := ((0 : Int) ≤ n ∧ n < Int.ofNat x5_ ∧ okEl [0, 0, 0] y1_ 3 n)
  let x10_ := (dK (List.map entE x3_))
  let y0_ := ({ ex := cI y1_ 3 n 0, record := cI y1_ 3 n 1, pence := cI y1_ 3 n 2 } : Dvd)
  let x11_ := (claimsM (dCe (dCe c)) (dUe t) y0_)
  let x12_ := (Cmp.trades (dCe (dCe c)))
  let x13_ := (Cmp.held (dCe (dCe c)))
  let x14_ := (Cmp.divs (dCe (dCe c)))
  let x15_ := (Cmp.splits (dCe (dCe c)))
  let x16_ := (Cmp.closed (dCe (dCe c)))
  Tr.alt false 58 [Cv c, Uv t] [] (V.tup [V.d D.nilp, V.d x1_]) [] (V.tup [V.ptr 1 0 0, V.d x2_]) x4_ (Tr.br (askE (dCe c) (dUe t) != (0 : Int)) (Tr.done (V.tup [V.d D.nils, V.d x1_]) []) (Tr.need x6_ (Tr.need True (Tr.br x7_ (Tr.done x8_ []) (Tr.need x9_ Tr.fail))))) (Tr.br ((0 : Int) != (0 : Int)) (Tr.done (V.tup [V.d D.nils, V.d x2_]) x4_) (Tr.need x6_ (Tr.need True (Tr.br x7_ (Tr.done x8_ x4_) (Tr.need x9_ (Tr.need (Wk (dCe c) x3_ [] = Wk (dCe (dCe c)) x10_ [] ∧ Uv (dUe t) = Uv t ∧ Dv y0_ = V.agg [V.d (D.int .i64 (cI y1_ 3 n 0)), V.d (D.int .i64 (cI y1_ 3 n 1)), V.d (D.int .i64 (cI y1_ 3 n 2))] ∧ okCTD (dCe (dCe c)) (dUe t) y0_ x10_) (Tr.done (V.tup [V.d (D.sl false (List.length x11_) (enc eI x11_)), V.d x2_]) [some (Blk.map (List.map entE (kmC (dCe (dCe c)) (dUe t) y0_ x10_ (List.length x12_)))), some (Blk.box [V.d (D.int .i64 (Cmp.houses (dCe (dCe c)))), V.d (D.sl false (List.length x13_) (enc eI x13_)), V.d (D.sl false (List.length x12_) (enc eT x12_)), V.d (D.sl false (List.length x14_) (enc eV x14_)), V.d (D.sl false (List.length x15_) (enc eS x15_)), V.d (D.sl false (List.length x16_) (enc eR x16_)), V.mp 0])]))))))) := by kernel_rfl
theorem w65c (c : Cmp) (t : Tru) (n : Int) : sx X23 c65 [] (doneK r65) (envOf [.agg [.d (.fn (.func 67))], Cv c, Uv t, vi n]) [] [] =
  let x1_ := (D.int .i64 (askE (dCe c) (dUe t)))
  let x2_ := (D.int .i64 0)
  let x3_ := (kmF (dCe c) (dUe t) [] 12)
  let x4_ := [some (Blk.map (List.map entE x3_)), some (Blk.box [V.d (D.int .i64 (Cmp.houses (dCe c))), V.d (D.sl false (List.length (Cmp.held (dCe c))) (enc eI (Cmp.held (dCe c)))), V.d (D.sl false (List.length (Cmp.trades (dCe c))) (enc eT (Cmp.trades (dCe c)))), V.d (D.sl false (List.length (Cmp.divs (dCe c))) (enc eV (Cmp.divs (dCe c)))), V.d (D.sl false (List.length (Cmp.splits (dCe c))) (enc eS (Cmp.splits (dCe c)))), V.d (D.sl false (List.length (Cmp.closed (dCe c))) (enc eR (Cmp.closed (dCe c)))), V.mp 0])]
  let x5_ := (List.length (Cmp.divs c))
  let x6_ := (-9223372036854775808 ≤ Int.ofNat x5_ - (1 : Int) ∧ Int.ofNat x5_ - (1 : Int) ≤ 9223372036854775807)
  let x7_ := (!inR n (0 : Int) (Int.ofNat x5_ - (1 : Int)))
  let x8_ := (V.tup [V.d D.nils, V.d (D.int .i64 (2 : Int))])
  let y1_ := (enc eV (Cmp.divs c))
  let x9_ := ((0 : Int) ≤ n ∧ n < Int.ofNat x5_ ∧ okEl [0, 0, 0] y1_ 3 n)
  let x10_ := (dK (List.map entE x3_))
  let x11_ := (Cmp.held (dCe (dCe c)))
  let x12_ := (Cmp.trades (dCe (dCe c)))
  let x13_ := (Cmp.divs (dCe (dCe c)))
  let x14_ := (Cmp.splits (dCe (dCe c)))
  let x15_ := (Cmp.closed (dCe (dCe c)))
  let y0_ := ({ ex := cI y1_ 3 n 0, record := cI y1_ 3 n 1, pence := cI y1_ 3 n 2 } : Dvd)
  let y2_ := (List.length x11_)
  Tr.alt false 58 [Cv c, Uv t] [] (V.tup [V.d D.nilp, V.d x1_]) [] (V.tup [V.ptr 1 0 0, V.d x2_]) x4_ (Tr.br (askE (dCe c) (dUe t) != (0 : Int)) (Tr.done (V.tup [V.d D.nils, V.d x1_]) []) (Tr.need x6_ (Tr.need True (Tr.br x7_ (Tr.done x8_ []) (Tr.need x9_ Tr.fail))))) (Tr.br ((0 : Int) != (0 : Int)) (Tr.done (V.tup [V.d D.nils, V.d x2_]) x4_) (Tr.need x6_ (Tr.need True (Tr.br x7_ (Tr.done x8_ x4_) (Tr.need x9_ (Tr.need (Wk (dCe c) x3_ [] = Wk (dCe (dCe c)) x10_ [] ∧ Uv (dUe t) = Uv t ∧ Dv y0_ = V.agg [V.d (D.int .i64 (cI y1_ 3 n 0)), V.d (D.int .i64 (cI y1_ 3 n 1)), V.d (D.int .i64 (cI y1_ 3 n 2))] ∧ okCTD (dCe (dCe c)) (dUe t) y0_ x10_) (Tr.done (V.tup [V.own 3 y2_ y2_, V.d x2_]) [some (Blk.map (List.map entE (kmC (dCe (dCe c)) (dUe t) y0_ (kmT (dCe (dCe c)) (dUe t) (Dvd.record y0_) x10_ (List.length x12_)) (List.length x12_)))), some (Blk.box [V.d (D.int .i64 (Cmp.houses (dCe (dCe c)))), V.d (D.sl false y2_ (enc eI x11_)), V.d (D.sl false (List.length x12_) (enc eT x12_)), V.d (D.sl false (List.length x13_) (enc eV x13_)), V.d (D.sl false (List.length x14_) (enc eS x14_)), V.d (D.sl false (List.length x15_) (enc eR x15_)), V.mp 0]), none, some (Blk.row 3 1 y2_ (enc eI (rightsM (dCe (dCe c)) (dUe t) y0_)))]))))))) := by kernel_rfl
def sumE (c : Cmp) (t : Tru) (n : Int) : Int := if askE c t ≠ 0 then askE c t else if inR n 0 (c.divs.length - 1) = true then 0 else 2
def sumL (M : Cmp → Tru → Dvd → List Int) (c : Cmp) (t : Tru) (n : Int) : List Int := if sumE c t n = 0 then M c t (lat c.divs n) else []
theorem fin_nil1 (n : Int) (h : Heap) : VLe (finX 0 (.tup [V.d D.nils, V.d (D.int .i64 n)]) h).1 (.tup [vsl eI [], vi n]) := by
 simp [finX, rowsIn, rowsIn1, rowIn, frzRows, bel2, bel1, bel0]
 exact .tup (.cons .nilsF (.cons (.refl _) .nil))
theorem fin_own1 (x y : Option Blk) (a : List Int) (m : Nat) (hm : a.length = m) (n : Int) : VLe (finX 0 (.tup [.own 3 m m, V.d (D.int .i64 n)]) [x, y, none, some (.row 3 1 m (enc eI a))]).1 (.tup [vsl eI a, vi n]) := by
 subst hm
 simp [finX, rowsIn, rowsIn1, rowIn, frzRows, frzB, blkDs, fzV, fz2, fz1, bel2, bel1, bel0]
 exact .tup (.cons .slx (.cons (.refl _) .nil))
theorem fin_sl1 (a : List Int) (n : Int) (h : Heap) : VLe (finX 0 (.tup [V.d (D.sl false a.length (enc eI a)), V.d (D.int .i64 n)]) h).1 (.tup [vsl eI a, vi n]) := by
 simp [finX, rowsIn, rowsIn1, rowIn, frzRows, bel2, bel1, bel0]
 exact .refl _
theorem divs_ok {c : Cmp} (hf : faultM c = 0) {n : Int} (h0 : 0 ≤ n) (h : n < c.divs.length) : okDv (lat c.divs n) = true := by
 have := List.all_eq_true.1 (fault_ok hf).2.2.2.1 _ (lat_mem (l := c.divs) (k := n.toNat) (by omega))
 have e : ((n.toNat : Nat) : Int) = n := by omega
 rw [e] at this
 exact this
theorem y65a (c : Cmp) (t : Tru) (n : Int) : Yields Try.prog 65 [.agg [.d (.fn (.func 64))], Cv c, Uv t, vi n] (.tup [vsl eI (sumL paidM c t n), vi (sumE c t n)]) := by
 refine q65.yieldsX X23_ok rfl rfl ?_ (w65a c t n) ?_
 ·rfl
 simp only [holds, Int.ofNat_eq_natCast, cI_V0, cI_V1, cI_V2, dCe, dC_enc, dUe, dU_enc, dK_map, true_and]
 refine (a58 c t).mono ?_
 rintro v h' (⟨h1, rfl, rfl⟩ | ⟨h1, rfl, rfl⟩)
 ·refine .inl ⟨rfl, rfl, fun e => (by cases e), fun _ => ?_, fun h => ?_⟩
  ·have e : sumE c t n = askE c t := by simp [sumE, h1]
   have e2 : sumL paidM c t n = [] := by simp [sumL, e, h1]
   rw [e, e2]
   exact fin_nil1 _ _
  ·exact (h1 (by simpa using h)).elim
 ·obtain ⟨hf, hd, hfi⟩ := askE_ok h1
  have hbs := (fault_ok hf).1
  refine .inr ⟨rfl, rfl, fun e => (by cases e), fun h => (by simp at h), fun _ => ⟨⟨by omega, by omega⟩, fun h2 => ?_, fun h2 => ?_⟩⟩
  ·have h2 : inR n 0 (c.divs.length - 1) = false := by simpa using h2
   have e : sumE c t n = 2 := by simp [sumE, h1, h2]
   have e2 : sumL paidM c t n = [] := by simp [sumL, e]
   rw [e, e2]
   exact fin_nil1 _ _
  ·have h2 : inR n 0 (c.divs.length - 1) = true := by simpa using h2
   have e : sumE c t n = 0 := by simp [sumE, h1, h2]
   have e2 : sumL paidM c t n = paidM c t (lat c.divs n) := by simp [sumL, e]
   have h3 : 0 ≤ n ∧ n < (c.divs.length : Int) := by simp only [inR, decide_eq_true_eq] at h2; omega
   rw [e, e2]
   refine ⟨⟨by omega, by omega, ok_V (by omega)⟩, ⟨rfl, hf, hd, divs_ok hf h3.1 h3.2, kmF_ok (kmOk_nil c) t 12⟩, ?_⟩
   exact fin_own1 _ _ _ _ rfl _
theorem y65b (c : Cmp) (t : Tru) (n : Int) : Yields Try.prog 65 [.agg [.d (.fn (.func 66))], Cv c, Uv t, vi n] (.tup [vsl eI (sumL claimsM c t n), vi (sumE c t n)]) := by
 refine q65.yieldsX X23_ok rfl rfl ?_ (w65b c t n) ?_
 ·rfl
 simp only [holds, Int.ofNat_eq_natCast, cI_V0, cI_V1, cI_V2, dCe, dC_enc, dUe, dU_enc, dK_map, true_and]
 refine (a58 c t).mono ?_
 rintro v h' (⟨h1, rfl, rfl⟩ | ⟨h1, rfl, rfl⟩)
 ·refine .inl ⟨rfl, rfl, fun e => (by cases e), fun _ => ?_, fun h => ?_⟩
  ·have e : sumE c t n = askE c t := by simp [sumE, h1]
   have e2 : sumL claimsM c t n = [] := by simp [sumL, e, h1]
   rw [e, e2]
   exact fin_nil1 _ _
  ·exact (h1 (by simpa using h)).elim
 ·obtain ⟨hf, hd, hfi⟩ := askE_ok h1
  have hbs := (fault_ok hf).1
  refine .inr ⟨rfl, rfl, fun e => (by cases e), fun h => (by simp at h), fun _ => ⟨⟨by omega, by omega⟩, fun h2 => ?_, fun h2 => ?_⟩⟩
  ·have h2 : inR n 0 (c.divs.length - 1) = false := by simpa using h2
   have e : sumE c t n = 2 := by simp [sumE, h1, h2]
   have e2 : sumL claimsM c t n = [] := by simp [sumL, e]
   rw [e, e2]
   exact fin_nil1 _ _
  ·have h2 : inR n 0 (c.divs.length - 1) = true := by simpa using h2
   have e : sumE c t n = 0 := by simp [sumE, h1, h2]
   have e2 : sumL claimsM c t n = claimsM c t (lat c.divs n) := by simp [sumL, e]
   have h3 : 0 ≤ n ∧ n < (c.divs.length : Int) := by simp only [inR, decide_eq_true_eq] at h2; omega
   rw [e, e2]
   refine ⟨⟨by omega, by omega, ok_V (by omega)⟩, ⟨rfl, hf, hd, divs_ok hf h3.1 h3.2, kmF_ok (kmOk_nil c) t 12⟩, ?_⟩
   exact fin_sl1 _ _ _
theorem y65c (c : Cmp) (t : Tru) (n : Int) : Yields Try.prog 65 [.agg [.d (.fn (.func 67))], Cv c, Uv t, vi n] (.tup [vsl eI (sumL rightsM c t n), vi (sumE c t n)]) := by
 refine q65.yieldsX X23_ok rfl rfl ?_ (w65c c t n) ?_
 ·rfl
 simp only [holds, Int.ofNat_eq_natCast, cI_V0, cI_V1, cI_V2, dCe, dC_enc, dUe, dU_enc, dK_map, true_and]
 refine (a58 c t).mono ?_
 rintro v h' (⟨h1, rfl, rfl⟩ | ⟨h1, rfl, rfl⟩)
 ·refine .inl ⟨rfl, rfl, fun e => (by cases e), fun _ => ?_, fun h => ?_⟩
  ·have e : sumE c t n = askE c t := by simp [sumE, h1]
   have e2 : sumL rightsM c t n = [] := by simp [sumL, e, h1]
   rw [e, e2]
   exact fin_nil1 _ _
  ·exact (h1 (by simpa using h)).elim
 ·obtain ⟨hf, hd, hfi⟩ := askE_ok h1
  have hbs := (fault_ok hf).1
  refine .inr ⟨rfl, rfl, fun e => (by cases e), fun h => (by simp at h), fun _ => ⟨⟨by omega, by omega⟩, fun h2 => ?_, fun h2 => ?_⟩⟩
  ·have h2 : inR n 0 (c.divs.length - 1) = false := by simpa using h2
   have e : sumE c t n = 2 := by simp [sumE, h1, h2]
   have e2 : sumL rightsM c t n = [] := by simp [sumL, e]
   rw [e, e2]
   exact fin_nil1 _ _
  ·have h2 : inR n 0 (c.divs.length - 1) = true := by simpa using h2
   have e : sumE c t n = 0 := by simp [sumE, h1, h2]
   have e2 : sumL rightsM c t n = rightsM c t (lat c.divs n) := by simp [sumL, e]
   have h3 : 0 ≤ n ∧ n < (c.divs.length : Int) := by simp only [inR, decide_eq_true_eq] at h2; omega
   rw [e, e2]
   refine ⟨⟨by omega, by omega, ok_V (by omega)⟩, ⟨rfl, hf, hd, divs_ok hf h3.1 h3.2, kmF_ok (kmOk_nil c) t 12⟩, ?_⟩
   exact fin_own1 _ _ _ _ (rl_len _ _) _
def ent65 : Ent := fun args _ => match args with
 | [.agg [.d (.fn (.func g))], x, y, .d (.int .i64 n)] => match asC x, asU y with
  | some c, some t => some (Cv c = x ∧ Uv t = y ∧ (g = 64 ∨ g = 66 ∨ g = 67), .tup [vsl eI (sumL (match g with | 64 => paidM | 66 => claimsM | _ => rightsM) c t n), vi (sumE c t n)], none)
  | _, _ => none
 | _ => none
theorem ent65_ok : EntOk Try.prog 65 ent65 := by
 intro args h p v h' he hp
 unfold ent65 at he
 split at he
 ·split at he
  ·cases he
   rw [← hp.1, ← hp.2.1]
   rcases hp.2.2 with rfl | rfl | rfl
   ·exact y65a _ _ _ h
   ·exact y65b _ _ _ h
   ·exact y65c _ _ _ h
  ·cases he
 ·cases he
def tab24 : Spec := (spAdd 65 ent65 tab20)
theorem tab24_ok : SpOk Try.prog tab24 := (spAdd_ok ent65_ok tab20_ok)
def X24 : Sx := mkX tab24
theorem X24_ok : SpOk Try.prog X24.sp := tab24_ok
theorem w25 (c : Cmp) (t : Tru) (n : Int) : sx X24 c25 [] (doneF 0 r25) (envOf [Cv c, Uv t, vi n]) [] [] =
  Tr.need (Cv (dCe c) = Cv c ∧ Uv (dUe t) = Uv t ∧ ((64 : FuncId) = (64 : FuncId) ∨ (64 : FuncId) = (66 : FuncId) ∨ (64 : FuncId) = (67 : FuncId))) (Tr.done (V.tup [V.d (D.sl false (List.length (sumL paidM (dCe c) (dUe t) n)) (enc eI (sumL paidM (dCe c) (dUe t) n))), V.d (D.int .i64 (sumE (dCe c) (dUe t) n))]) []) := by kernel_rfl
theorem y25 (c : Cmp) (t : Tru) (n : Int) : Yields Try.prog 25 [Cv c, Uv t, vi n] (.tup [vsl eI (sumL paidM c t n), vi (sumE c t n)]) := by
 refine q25.yields X24_ok rfl rfl rfl (w25 c t n) ?_
 simp only [holds]
 simp only [dCe, dC_enc, dUe, dU_enc]
 exact ⟨⟨trivial, trivial, by simp⟩, .refl _⟩
theorem w26 (c : Cmp) (t : Tru) (n : Int) : sx X24 c26 [] (doneF 0 r26) (envOf [Cv c, Uv t, vi n]) [] [] =
  Tr.need (Cv (dCe c) = Cv c ∧ Uv (dUe t) = Uv t ∧ ((66 : FuncId) = (64 : FuncId) ∨ (66 : FuncId) = (66 : FuncId) ∨ (66 : FuncId) = (67 : FuncId))) (Tr.done (V.tup [V.d (D.sl false (List.length (sumL claimsM (dCe c) (dUe t) n)) (enc eI (sumL claimsM (dCe c) (dUe t) n))), V.d (D.int .i64 (sumE (dCe c) (dUe t) n))]) []) := by kernel_rfl
theorem y26 (c : Cmp) (t : Tru) (n : Int) : Yields Try.prog 26 [Cv c, Uv t, vi n] (.tup [vsl eI (sumL claimsM c t n), vi (sumE c t n)]) := by
 refine q26.yields X24_ok rfl rfl rfl (w26 c t n) ?_
 simp only [holds]
 simp only [dCe, dC_enc, dUe, dU_enc]
 exact ⟨⟨trivial, trivial, by simp⟩, .refl _⟩
theorem w27 (c : Cmp) (t : Tru) (n : Int) : sx X24 c27 [] (doneF 0 r27) (envOf [Cv c, Uv t, vi n]) [] [] =
  Tr.need (Cv (dCe c) = Cv c ∧ Uv (dUe t) = Uv t ∧ ((67 : FuncId) = (64 : FuncId) ∨ (67 : FuncId) = (66 : FuncId) ∨ (67 : FuncId) = (67 : FuncId))) (Tr.done (V.tup [V.d (D.sl false (List.length (sumL rightsM (dCe c) (dUe t) n)) (enc eI (sumL rightsM (dCe c) (dUe t) n))), V.d (D.int .i64 (sumE (dCe c) (dUe t) n))]) []) := by kernel_rfl
theorem y27 (c : Cmp) (t : Tru) (n : Int) : Yields Try.prog 27 [Cv c, Uv t, vi n] (.tup [vsl eI (sumL rightsM c t n), vi (sumE c t n)]) := by
 refine q27.yields X24_ok rfl rfl rfl (w27 c t n) ?_
 simp only [holds]
 simp only [dCe, dC_enc, dUe, dU_enc]
 exact ⟨⟨trivial, trivial, by simp⟩, .refl _⟩
end
end Go.Proofs.Ytdnefcjbcieecaa
namespace Go.Proofs.Ytdnefcjbcieecaa
open Go Go.Proofs
noncomputable section
theorem q68 : FunIs Try.prog 68 G68 c68 r68 := ⟨Try.f68, Try.func68, k68, e68, by kernel_rfl, by kernel_rfl⟩
theorem q28 : FunIs Try.prog 28 G28 c28 r28 := ⟨Try.f28, Try.func28, k28, e28, by kernel_rfl, by kernel_rfl⟩
theorem q29 : FunIs Try.prog 29 G29 c29 r29 := ⟨Try.f29, Try.func29, k29, e29, by kernel_rfl, by kernel_rfl⟩
theorem q30 : FunIs Try.prog 30 G30 c30 r30 := ⟨Try.f30, Try.func30, k30, e30, by kernel_rfl, by kernel_rfl⟩
theorem q31 : FunIs Try.prog 31 G31 c31 r31 := ⟨Try.f31, Try.func31, k31, e31, by kernel_rfl, by kernel_rfl⟩
def E68 (a b : List Int) (k : Nat) : Env := [(0, vsl eI a), (1, vsl eI b), (5, vi k)]
theorem w68 (a b : List Int) : sx X18 c68 [] (doneK r68) (envOf [vsl eI a, vsl eI b]) [] [] =
  Tr.lp (CCode.at c68 [1, 0, 1, 0, 0]) [Fr.blk 0, Fr.seq (CCode.at c68 [1, 1])] [(0, V.d (D.sl false (List.length a) (enc eI a))), (1, V.d (D.sl false (List.length b) (enc eI b))), (5, V.d (D.int .i64 0))] [] := by kernel_rfl
theorem b68 (a b : List Int) (k : Nat) : sx X18 (CCode.at c68 [1,0,1,0,0]) [] (bodyK r68) (E68 a b k) [] [] =
  let x1_ := (decide (Int.ofNat k < Int.ofNat (List.length b)))
  let x2_ := ((0 : Int) ≤ Int.ofNat k ∧ Int.ofNat k < Int.ofNat (List.length a) ∧ okEl [0] (enc eI a) 1 (Int.ofNat k))
  let x3_ := ((0 : Int) ≤ Int.ofNat k ∧ Int.ofNat k < Int.ofNat (List.length b) ∧ okEl [0] (enc eI b) 1 (Int.ofNat k))
  let y0_ := (0, V.d (D.sl false (List.length a) (enc eI a)))
  let y1_ := (1, V.d (D.sl false (List.length b) (enc eI b)))
  let y2_ := (5, V.d (D.int .i64 (Int.ofNat k)))
  Tr.br (decide (Int.ofNat k < Int.ofNat (List.length a))) (Tr.br x1_ (Tr.need x2_ (Tr.need x3_ (Tr.br (cI (enc eI a) 1 (Int.ofNat k) 0 != cI (enc eI b) 1 (Int.ofNat k) 0) (Tr.need x2_ (Tr.need x3_ (Tr.done (V.d (D.bool (decide (cI (enc eI a) 1 (Int.ofNat k) 0 < cI (enc eI b) 1 (Int.ofNat k) 0)))) []))) (Tr.need (-9223372036854775808 ≤ Int.ofNat k + (1 : Int) ∧ Int.ofNat k + (1 : Int) ≤ 9223372036854775807) (Tr.leaf CExit.normal [y0_, y1_, (5, V.d (D.int .i64 (Int.ofNat k + (1 : Int))))] []))))) (Tr.leaf (CExit.exit 0) [y0_, y1_, y2_, (15, V.d (D.bool x1_))] [])) (Tr.leaf (CExit.exit 0) [y0_, y1_, y2_, (15, V.d (D.bool false))] []) := by kernel_rfl
theorem x68 (a b : List Int) (u v : V) : sS X18 (doneK r68) [Fr.blk 0, Fr.seq (CCode.at c68 [1,1])] (.exit 0) [(0, vsl eI a), (1, vsl eI b), (5, u), (15, v)] [] [] =
  Tr.done (V.d (D.bool (decide (Int.ofNat (List.length a) < Int.ofNat (List.length b))))) [] := by kernel_rfl
def ent24o : Ent := fun args h => match args, h with
 | [x, y, .d (.int .i64 n)], [] => match asC x, asU y with
  | some c, some t => some (Cv c = x ∧ Uv t = y ∧ faultM c = 0 ∧ datedB c t = true ∧ n ≤ 1000, .own 0 (refH c t n).length (refH c t n).length, some (H24 (refH c t n)))
  | _, _ => none
 | _, _ => none
theorem ent24o_ok : EntOk Try.prog 24 ent24o := by
 intro args h p v h' he hp
 unfold ent24o at he
 split at he
 ·split at he
  ·cases he
   obtain ⟨rfl, rfl, h2, h3, h4⟩ := hp
   exact a24 _ _ _ h2 h3 h4
  ·cases he
 ·cases he
def tab24o : Spec := spAdd 24 ent24o tab18
theorem tab24o_ok : SpOk Try.prog tab24o := spAdd_ok ent24o_ok tab18_ok
def X29 : Sx := mkX tab24o
theorem X29_ok : SpOk Try.prog X29.sp := tab24o_ok
theorem w29 (c : Cmp) (t : Tru) (d : Dvd) : sx X29 c29 [] (doneK r29) (envOf [Cv c, Uv t, Dv d]) [] [] =
  let y0_ := (refH (dCe c) (dUe t) (Dvd.record d))
  Tr.need (Cv (dCe c) = Cv c ∧ Uv (dUe t) = Uv t ∧ faultM (dCe c) = (0 : Int) ∧ datedB (dCe c) (dUe t) = true ∧ Dvd.record d ≤ (1000 : Int)) (Tr.lp (CCode.at c29 [1, 1, 0, 1, 0, 0]) [Fr.blk 0, Fr.seq (CCode.at c29 [1, 1, 1])] [(5, V.rptr [D.int .i64 (Dvd.ex d), D.int .i64 (Dvd.record d), D.int .i64 (Dvd.pence d)] (0)), (7, V.own 0 (List.length y0_) (List.length y0_)), (8, V.d (D.int .i64 0))] [some (Blk.row 3 1 (List.length y0_) (enc eI y0_))]) := by kernel_rfl
def E29 (d : Dvd) (n k : Nat) : Env := [(5, .rptr (Dds d) 0), (7, .own 0 n n), (8, vi k)]
theorem b29 (d : Dvd) (n k : Nat) (l : List Int) : sx X29 (CCode.at c29 [1,1,0,1,0,0]) [] leafK (E29 d n k) [] [some (.row 3 1 n (enc eI l))] =
  let x1_ := (decide (Int.ofNat k < Int.ofNat n))
  let x2_ := (((0 : Int) ≤ Int.ofNat k ∧ Int.ofNat k < Int.ofNat n) ∧ n = n ∧ Int.toNat (Int.ofNat k) * 1 + 1 ≤ List.length (enc eI l))
  let x3_ := (Int.toNat (Int.ofNat k) * 1)
  let x4_ := (Dvd.pence d * dI (enc eI l) x3_)
  let x5_ := [V.d (D.int .i64 x4_)]
  let y0_ := (5, V.rptr [D.int .i64 (Dvd.ex d), D.int .i64 (Dvd.record d), D.int .i64 (Dvd.pence d)] (0))
  Tr.br x1_ (Tr.need x2_ (Tr.need (n = n ∧ (enc eI l)[Int.toNat (Int.ofNat k) * 1]? = some (D.int .i64 (dI (enc eI l) x3_))) (Tr.need (-9223372036854775808 ≤ Dvd.pence d * dI (enc eI l) x3_ ∧ Dvd.pence d * dI (enc eI l) x3_ ≤ 9223372036854775807) (Tr.need x2_ (Tr.need (n = n ∧ Int.toNat (Int.ofNat k) * 1 + List.length x5_ ≤ List.length (enc eI l) ∧ List.length x5_ = 1) (Tr.need (-9223372036854775808 ≤ Int.ofNat k + (1 : Int) ∧ Int.ofNat k + (1 : Int) ≤ 9223372036854775807) (Tr.leaf CExit.normal [y0_, (7, V.own 0 n n), (8, V.d (D.int .i64 (Int.ofNat k + (1 : Int))))] [some (Blk.row 3 1 n (putAt (enc eI l) x3_ [D.int .i64 x4_]))]))))))) (Tr.leaf (CExit.exit 0) [y0_, (7, V.own 0 n n), (8, V.d (D.int .i64 (Int.ofNat k))), (17, V.d (D.bool x1_))] [some (Blk.row 3 1 n (enc eI l))]) := by kernel_rfl
theorem x29 (u v w : V) (n : Nat) (h : Heap) : sS X29 (doneK r29) [Fr.blk 0, Fr.seq (CCode.at c29 [1,1,1])] (.exit 0) [(5, u), (7, .own 0 n n), (8, v), (17, w)] [] h =
  Tr.done (V.own 0 n n) h := by kernel_rfl
def E30 (c : Cmp) (t : Tru) (d : Dvd) (a : List Int) (k : Nat) : Env := [(3, .rptr (Cds c) 0), (4, .rptr (Uds t) 0), (5, .rptr (Dds d) 0), (7, .own 0 a.length a.length), (8, vi k)]
theorem w30 (c : Cmp) (t : Tru) (d : Dvd) : sx X18 c30 [] (doneK r30) (envOf [Cv c, Uv t, Dv d]) [] [] =
  Tr.lp (CCode.at c30 [1, 1, 0, 1, 0, 0]) [Fr.blk 0, Fr.seq (CCode.at c30 [1, 1, 1])] [(3, V.rptr (Cds c) 0), (4, V.rptr (Uds t) 0), (5, V.rptr [D.int .i64 (Dvd.ex d), D.int .i64 (Dvd.record d), D.int .i64 (Dvd.pence d)] (0)), (7, V.d D.nils), (8, V.d (D.int .i64 0))] [] := by kernel_rfl
theorem b30 (c : Cmp) (t : Tru) (d : Dvd) (a : List Int) (k : Nat) : sx X18 (CCode.at c30 [1,1,0,1,0,0]) [] leafK (E30 c t d a k) [] (H24 a) =
  let x1_ := (List.length (Cmp.trades c))
  let x2_ := (decide (Int.ofNat k < Int.ofNat x1_))
  let y6_ := (enc eI (Tru.sold t))
  let x3_ := ((0 : Int) ≤ Int.ofNat k ∧ Int.ofNat k < Int.ofNat (List.length (Tru.sold t)) ∧ okEl [0] y6_ 1 (Int.ofNat k))
  let y8_ := (enc eI (Tru.deliv t))
  let x4_ := (regR (Cmp.closed (dCe c)) (cI y8_ 1 (Int.ofNat k) 0))
  let y7_ := (enc eT (Cmp.trades c))
  let x5_ := ((0 : Int) ≤ Int.ofNat k ∧ Int.ofNat k < Int.ofNat x1_ ∧ okEl [0, 0, 0, 0, 0, 0, 0] y7_ 7 (Int.ofNat k))
  let y10_ := (Cmp.splits (dCe c))
  let x6_ := (Cv (dCe c) = Cv c ∧ okSs (-1 : Int) y10_ = true ∧ List.length y10_ ≤ 2 ∧ (0 : Int) ≤ cI y7_ 7 (Int.ofNat k) 2 ∧ cI y7_ 7 (Int.ofNat k) 2 ≤ (100 : Int) ∧ (-1000 : Int) ≤ cI y6_ 1 (Int.ofNat k) 0 ∧ cI y6_ 1 (Int.ofNat k) 0 ≤ (1000 : Int) ∧ Dvd.record d ≤ (1000 : Int))
  let x7_ := (cI y7_ 7 (Int.ofNat k) 2 * facM y10_ (cI y6_ 1 (Int.ofNat k) 0) (Dvd.record d))
  let x8_ := (decide (Dvd.ex d ≤ cI y6_ 1 (Int.ofNat k) 0))
  let x9_ := (inR x4_ (0 : Int) (Dvd.record d))
  let x10_ := ((0 : Int) - Dvd.pence d)
  let x11_ := [D.int .i64 (x10_ * x7_)]
  let x12_ := (List.length a + 1)
  let x13_ := (-9223372036854775808 ≤ Int.ofNat k + (1 : Int) ∧ Int.ofNat k + (1 : Int) ≤ 9223372036854775807)
  let y9_ := (List.length a)
  let x14_ := (Nat.add y9_ 1)
  let x15_ := [D.int .i64 (Dvd.pence d * x7_)]
  let x16_ := [D.int .i64 0]
  let y5_ := (5, V.rptr [D.int .i64 (Dvd.ex d), D.int .i64 (Dvd.record d), D.int .i64 (Dvd.pence d)] (0))
  let y1_ := [(3, V.rptr (Cds c) 0), (4, V.rptr (Uds t) 0), y5_, (7, V.own 0 x14_ x12_), (8, V.d (D.int .i64 (Int.ofNat k + (1 : Int))))]
  let y2_ := (Tr.need (DP.P (dp (-9223372036854775808 ≤ (0 : Int) - Dvd.pence d ∧ (0 : Int) - Dvd.pence d ≤ 9223372036854775807))) (Tr.need x5_ (Tr.need x3_ (Tr.need x6_ (Tr.need (-9223372036854775808 ≤ x10_ * x7_ ∧ x10_ * x7_ ≤ 9223372036854775807) (Tr.need (List.length a = List.length a ∧ 3 = 3 ∧ 1 = 1 ∧ List.length (enc eI a) = List.length a * 1 ∧ List.length x11_ = 1 * 1 ∧ List.length a + 1 ≤ 140737488355328 ∧ x12_ * 8 ≤ 140737488355328) (Tr.need x13_ (Tr.leaf CExit.normal y1_ [some (Blk.row 3 1 x14_ (enc eI a ++ x11_))]))))))))
  let y3_ := (Tr.need (List.length a = List.length a ∧ 3 = 3 ∧ 1 = 1 ∧ List.length (enc eI a) = List.length a * 1 ∧ List.length x16_ = 1 * 1 ∧ List.length a + 1 ≤ 140737488355328 ∧ x12_ * 8 ≤ 140737488355328) (Tr.need x13_ (Tr.leaf CExit.normal y1_ [some (Blk.row 3 1 x14_ (enc eI a ++ x16_))])))
  let y0_ := (Tr.need x3_ (Tr.br x8_ (Tr.br x9_ y2_ y3_) y3_))
  let y4_ := (Tr.need (List.length a = List.length a ∧ 3 = 3 ∧ 1 = 1 ∧ List.length (enc eI a) = List.length a * 1 ∧ List.length x15_ = 1 * 1 ∧ List.length a + 1 ≤ 140737488355328 ∧ x12_ * 8 ≤ 140737488355328) (Tr.need x13_ (Tr.leaf CExit.normal y1_ [some (Blk.row 3 1 x14_ (enc eI a ++ x15_))])))
  Tr.br x2_ (Tr.need ((0 : Int) ≤ Int.ofNat k ∧ Int.ofNat k < Int.ofNat (List.length (Tru.deliv t)) ∧ okEl [0] y8_ 1 (Int.ofNat k)) (Tr.need (Cv (dCe c) = Cv c ∧ -9223372036854775808 ≤ cI y8_ 1 (Int.ofNat k) 0 ∧ List.length (Cmp.closed (dCe c)) ≤ 140737488355328) (Tr.need True (Tr.need x3_ (Tr.br (decide (cI y6_ 1 (Int.ofNat k) 0 < Dvd.ex d)) (Tr.br (!inR x4_ (0 : Int) (Dvd.record d)) (Tr.need x5_ (Tr.need x3_ (Tr.need x6_ (Tr.need (-9223372036854775808 ≤ Dvd.pence d * x7_ ∧ Dvd.pence d * x7_ ≤ 9223372036854775807) (Tr.need x3_ (Tr.br x8_ (Tr.br x9_ y2_ y4_) y4_)))))) y0_) y0_))))) (Tr.leaf (CExit.exit 0) [(3, V.rptr (Cds c) 0), (4, V.rptr (Uds t) 0), y5_, (7, V.own 0 y9_ y9_), (8, V.d (D.int .i64 (Int.ofNat k))), (15, V.d (D.bool x2_))] [some (Blk.row 3 1 y9_ (enc eI a))]) := by kernel_rfl
theorem x30 (u v w x y : V) (a : List Int) : sS X18 (doneK r30) [Fr.blk 0, Fr.seq (CCode.at c30 [1,1,1])] (.exit 0) [(3, u), (4, v), (5, w), (7, .own 0 a.length a.length), (8, x), (15, y)] [] (H24 a) =
  Tr.done (V.own 0 (List.length a) (List.length a)) [some (Blk.row 3 1 (List.length a) (enc eI a))] := by kernel_rfl
theorem w31 (c : Cmp) (t : Tru) (d : Dvd) : sx X18 c31 [] (doneK r31) (envOf [Cv c, Uv t, Dv d]) [] [] =
  Tr.lp (CCode.at c31 [1, 1, 0, 1, 0, 0]) [Fr.blk 0, Fr.seq (CCode.at c31 [1, 1, 1])] [(3, V.rptr (Cds c) 0), (4, V.rptr (Uds t) 0), (5, V.rptr [D.int .i64 (Dvd.ex d), D.int .i64 (Dvd.record d), D.int .i64 (Dvd.pence d)] (0)), (7, V.d D.nils), (8, V.d (D.int .i64 0))] [] := by kernel_rfl
theorem b31 (c : Cmp) (t : Tru) (d : Dvd) (a : List Int) (k : Nat) : sx X18 (CCode.at c31 [1,1,0,1,0,0]) [] leafK (E30 c t d a k) [] (H24 a) =
  let x1_ := (decide (Int.ofNat k < Cmp.houses c))
  let y2_ := (List.length a)
  let x2_ := [some (Blk.row 3 1 y2_ (enc eI a))]
  let y0_ := (5, V.rptr [D.int .i64 (Dvd.ex d), D.int .i64 (Dvd.record d), D.int .i64 (Dvd.pence d)] (0))
  let y1_ := (enc eI (Cmp.held c))
  let y3_ := (Cmp.splits (dCe c))
  let y4_ := (8, V.d (D.int .i64 (Int.ofNat k)))
  Tr.br x1_ (Tr.need ((0 : Int) ≤ Int.ofNat k ∧ Int.ofNat k < Int.ofNat (List.length (Cmp.held c)) ∧ okEl [0] y1_ 1 (Int.ofNat k)) (Tr.need (Cv (dCe c) = Cv c ∧ okSs (-1 : Int) y3_ = true ∧ List.length y3_ ≤ 2 ∧ (0 : Int) ≤ cI y1_ 1 (Int.ofNat k) 0 ∧ cI y1_ 1 (Int.ofNat k) 0 ≤ (100 : Int) ∧ (-1000 : Int) ≤ (-1 : Int) ∧ (-1 : Int) ≤ (1000 : Int) ∧ Dvd.record d ≤ (1000 : Int)) (Tr.lp (CCode.at c31 [1, 1, 0, 1, 0, 0, 1, 0, 0, 1, 0, 1, 0, 0]) [Fr.blk 2, Fr.seq (CCode.at c31 [1, 1, 0, 1, 0, 0, 1, 0, 0, 1, 1]), Fr.blk 1, Fr.seq (CCode.at c31 [1, 1, 0, 1, 0, 0, 1, 1])] [(3, V.rptr (Cds c) 0), (4, V.rptr (Uds t) 0), y0_, (7, V.own 0 y2_ y2_), y4_, (9, V.d (D.int .i64 (cI y1_ 1 (Int.ofNat k) 0 * facM y3_ (-1 : Int) (Dvd.record d)))), (10, V.d (D.int .i64 0))] x2_))) (Tr.leaf (CExit.exit 0) [(3, V.rptr (Cds c) 0), (4, V.rptr (Uds t) 0), y0_, (7, V.own 0 y2_ y2_), y4_, (15, V.d (D.bool x1_))] x2_) := by kernel_rfl
def E31i (c : Cmp) (t : Tru) (d : Dvd) (a : List Int) (h : Nat) (n : Int) (k : Nat) : Env := [(3, .rptr (Cds c) 0), (4, .rptr (Uds t) 0), (5, .rptr (Dds d) 0), (7, .own 0 a.length a.length), (8, vi h), (9, vi n), (10, vi k)]
theorem b31i (c : Cmp) (t : Tru) (d : Dvd) (a : List Int) (h : Nat) (n : Int) (k : Nat) : sx X18 (CCode.at c31 [1,1,0,1,0,0,1,0,0,1,0,1,0,0]) [] leafK (E31i c t d a h n k) [] (H24 a) =
  let x1_ := (List.length (Cmp.trades c))
  let x2_ := (decide (Int.ofNat k < Int.ofNat x1_))
  let y10_ := (enc eI (Tru.sold t))
  let x3_ := ((0 : Int) ≤ Int.ofNat k ∧ Int.ofNat k < Int.ofNat (List.length (Tru.sold t)) ∧ okEl [0] y10_ 1 (Int.ofNat k))
  let x4_ := (decide (cI y10_ 1 (Int.ofNat k) 0 < Dvd.ex d))
  let y2_ := (enc eT (Cmp.trades c))
  let y5_ := (Cmp.splits (dCe c))
  let x5_ := (Cv (dCe c) = Cv c ∧ okSs (-1 : Int) y5_ = true ∧ List.length y5_ ≤ 2 ∧ (0 : Int) ≤ cI y2_ 7 (Int.ofNat k) 2 ∧ cI y2_ 7 (Int.ofNat k) 2 ≤ (100 : Int) ∧ (-1000 : Int) ≤ cI y10_ 1 (Int.ofNat k) 0 ∧ cI y10_ 1 (Int.ofNat k) 0 ≤ (1000 : Int) ∧ Dvd.record d ≤ (1000 : Int))
  let x6_ := (cI y10_ 1 (Int.ofNat k) 0)
  let x7_ := (cI y2_ 7 (Int.ofNat k) 0 == Int.ofNat h)
  let x8_ := (-9223372036854775808 ≤ Int.ofNat k + (1 : Int) ∧ Int.ofNat k + (1 : Int) ≤ 9223372036854775807)
  let x9_ := (Blk.row 3 1 (List.length a) (enc eI a))
  let x10_ := [some x9_, some (Blk.box [V.d (D.int .i64 (cI y2_ 7 (Int.ofNat k) 0)), V.d (D.int .i64 (cI y2_ 7 (Int.ofNat k) 1)), V.d (D.int .i64 (cI y2_ 7 (Int.ofNat k) 2)), V.d (D.int .i64 (cI y2_ 7 (Int.ofNat k) 3)), V.d (D.int .i64 (cI y2_ 7 (Int.ofNat k) 4)), V.d (D.int .i64 (cI y2_ 7 (Int.ofNat k) 5)), V.d (D.int .i64 (cI y2_ 7 (Int.ofNat k) 6))])]
  let y9_ := (Dvd.record d)
  let y1_ := (5, V.rptr [D.int .i64 (Dvd.ex d), D.int .i64 y9_, D.int .i64 (Dvd.pence d)] (0))
  let y6_ := (7, V.own 0 (List.length a) (List.length a))
  let y7_ := (10, V.d (D.int .i64 (Int.ofNat k + (1 : Int))))
  let y8_ := (8, V.d (D.int .i64 (Int.ofNat h)))
  let y11_ := (3, V.rptr (Cds c) 0)
  let y12_ := (4, V.rptr (Uds t) 0)
  let y4_ := (Tr.need x8_ (Tr.leaf CExit.normal [y11_, y12_, y1_, y6_, y8_, (9, V.d (D.int .i64 n)), y7_] x10_))
  let y0_ := (Tr.need x3_ (Tr.br x4_ (Tr.br x7_ (Tr.need x3_ (Tr.need x5_ (Tr.need (-9223372036854775808 ≤ n - cI y2_ 7 (Int.ofNat k) 2 * facM y5_ x6_ y9_ ∧ n - cI y2_ 7 (Int.ofNat k) 2 * facM y5_ x6_ y9_ ≤ 9223372036854775807) (Tr.need x8_ (Tr.leaf CExit.normal [y11_, y12_, y1_, y6_, y8_, (9, V.d (D.int .i64 (n - cI y2_ 7 (Int.ofNat k) 2 * facM y5_ x6_ y9_))), y7_] x10_))))) y4_) y4_))
  let y3_ := (Tr.need x8_ (Tr.leaf CExit.normal [y11_, y12_, y1_, y6_, y8_, (9, V.d (D.int .i64 (n + cI y2_ 7 (Int.ofNat k) 2 * facM y5_ x6_ y9_))), y7_] x10_))
  Tr.br x2_ (Tr.need ((0 : Int) ≤ Int.ofNat k ∧ Int.ofNat k < Int.ofNat x1_ ∧ okEl [0, 0, 0, 0, 0, 0, 0] y2_ 7 (Int.ofNat k)) (Tr.need x3_ (Tr.br x4_ (Tr.br (cI y2_ 7 (Int.ofNat k) 1 == Int.ofNat h) (Tr.need x3_ (Tr.need x5_ (Tr.need (-9223372036854775808 ≤ n + cI y2_ 7 (Int.ofNat k) 2 * facM y5_ x6_ y9_ ∧ n + cI y2_ 7 (Int.ofNat k) 2 * facM y5_ x6_ y9_ ≤ 9223372036854775807) (Tr.need x3_ (Tr.br x4_ (Tr.br x7_ (Tr.need x3_ (Tr.need x5_ (Tr.need (-9223372036854775808 ≤ n + cI y2_ 7 (Int.ofNat k) 2 * facM y5_ x6_ y9_ - cI y2_ 7 (Int.ofNat k) 2 * facM y5_ x6_ y9_ ∧ n + cI y2_ 7 (Int.ofNat k) 2 * facM y5_ x6_ y9_ - cI y2_ 7 (Int.ofNat k) 2 * facM y5_ x6_ y9_ ≤ 9223372036854775807) (Tr.need x8_ (Tr.leaf CExit.normal [y11_, y12_, y1_, y6_, y8_, (9, V.d (D.int .i64 (n + cI y2_ 7 (Int.ofNat k) 2 * facM y5_ x6_ y9_ - cI y2_ 7 (Int.ofNat k) 2 * facM y5_ x6_ y9_))), y7_] x10_))))) y3_) y3_))))) y0_) y0_))) (Tr.leaf (CExit.exit 2) [y11_, y12_, y1_, y6_, y8_, (9, V.d (D.int .i64 n)), (10, V.d (D.int .i64 (Int.ofNat k))), (31, V.d (D.bool x2_))] [some x9_]) := by kernel_rfl
theorem x31i (c : Cmp) (t : Tru) (d : Dvd) (a : List Int) (h : Nat) (n : Int) (u v : V) : sS X18 leafK [Fr.blk 2, Fr.seq (CCode.at c31 [1,1,0,1,0,0,1,0,0,1,1]), Fr.blk 1, Fr.seq (CCode.at c31 [1,1,0,1,0,0,1,1])] (.exit 2) [(3, .rptr (Cds c) 0), (4, .rptr (Uds t) 0), (5, .rptr (Dds d) 0), (7, .own 0 a.length a.length), (8, vi h), (9, vi n), (10, u), (31, v)] [] (H24 a) =
  Tr.need (-9223372036854775808 ≤ Dvd.pence d * n ∧ Dvd.pence d * n ≤ 9223372036854775807) (Tr.need (List.length a = List.length a ∧ 3 = 3 ∧ 1 = 1 ∧ List.length (enc eI a) = List.length a * 1 ∧ List.length [D.int .i64 (Dvd.pence d * n)] = 1 * 1 ∧ List.length a + 1 ≤ 140737488355328 ∧ (List.length a + 1) * 8 ≤ 140737488355328) (Tr.need (-9223372036854775808 ≤ Int.ofNat h + (1 : Int) ∧ Int.ofNat h + (1 : Int) ≤ 9223372036854775807) (Tr.leaf CExit.normal [(3, V.rptr (Cds c) 0), (4, V.rptr (Uds t) 0), (5, V.rptr [D.int .i64 (Dvd.ex d), D.int .i64 (Dvd.record d), D.int .i64 (Dvd.pence d)] (0)), (7, V.own 0 (Nat.add (List.length a) 1) (List.length a + 1)), (8, V.d (D.int .i64 (Int.ofNat h + (1 : Int))))] [some (Blk.row 3 1 (Nat.add (List.length a) 1) (enc eI a ++ [D.int .i64 (Dvd.pence d * n)]))]))) := by kernel_rfl
theorem x31 (u v w x y : V) (a : List Int) : sS X18 (doneK r31) [Fr.blk 0, Fr.seq (CCode.at c31 [1,1,1])] (.exit 0) [(3, u), (4, v), (5, w), (7, .own 0 a.length a.length), (8, x), (15, y)] [] (H24 a) =
  Tr.done (V.own 0 (List.length a) (List.length a)) [some (Blk.row 3 1 (List.length a) (enc eI a))] := by kernel_rfl
def befF (a b : List Int) : Nat → Nat → Bool
 | 0, _ => decide (a.length < b.length)
 | n + 1, k => if lat a (k : Nat) = lat b (k : Nat) then befF a b n (k + 1) else decide (lat a (k : Nat) < lat b (k : Nat))
def beforeB (a b : List Int) : Bool := befF a b (min a.length b.length) 0
theorem y68 (a b : List Int) (ha : a.length ≤ 1000000) : Yields Try.prog 68 [vsl eI a, vsl eI b] (vb (beforeB a b)) := by
 refine q68.yieldsK X18_ok rfl rfl rfl (w68 a b) ?_
 simp only [holds]
 refine lp_countK X18_ok rfl (min a.length b.length) (fun k => beforeB a b = befF a b (min a.length b.length - k) k) (E68 a b) (fun _ => []) rfl rfl rfl (fun k _ => ⟨rfl, rfl, rfl⟩) ?_
 intro k hk hA Q' hn he
 rw [b68]
 simp only [holds, Int.ofNat_eq_natCast, cI_I]
 have hend : min a.length b.length ≤ k → beforeB a b = decide ((a.length : Int) < b.length) := fun h => by
  have : min a.length b.length - k = 0 := by omega
  rw [hA, this, befF]
  exact decide_eq_decide.2 (by omega)
 refine ⟨fun e1 => ⟨fun e2 => ?_, fun e2 => ?_⟩, fun e1 => ?_⟩
 ·have l1 : k < a.length := by have := of_decide_eq_true e1; omega
  have l2 : k < b.length := by have := of_decide_eq_true e2; omega
  have o1 : okEl [0] (enc eI a) 1 (k : Nat) := ok_I (by simpa using l1)
  have o2 : okEl [0] (enc eI b) 1 (k : Nat) := ok_I (by simpa using l2)
  have e : min a.length b.length - k = (min a.length b.length - (k + 1)) + 1 := by omega
  rw [e, befF] at hA
  refine ⟨⟨by omega, by omega, o1⟩, ⟨by omega, by omega, o2⟩, fun e3 => ⟨⟨by omega, by omega, o1⟩, ⟨by omega, by omega, o2⟩, ?_⟩, fun e3 => ⟨⟨by omega, by omega⟩, ?_⟩⟩
  ·rw [if_neg (by simpa using e3)] at hA
   exact .of_eq (congrArg vb hA.symm)
  ·rw [if_pos (by simpa using e3)] at hA
   exact hn [] (by omega) hA
 ·refine he _ _ _ (ret_tree X18_ok (doneK_ok rfl) (x68 _ _ _ _) ?_)
  simp only [holds]
  exact .of_eq (congrArg vb (hend (by have := of_decide_eq_false e2; omega)).symm)
 ·refine he _ _ _ (ret_tree X18_ok (doneK_ok rfl) (x68 _ _ _ _) ?_)
  simp only [holds]
  exact .of_eq (congrArg vb (hend (by have := of_decide_eq_false e1; omega)).symm)
def entLL (q : List Int → List Int → Prop) (m : List Int → List Int → V) : Ent := fun args _ => match args with
 | [.d (.sl false n1 d1), .d (.sl false n2 d2)] => some (okL eI 1 gI n1 d1 ∧ okL eI 1 gI n2 d2 ∧ q (dec 1 gI n1 d1) (dec 1 gI n2 d2), m (dec 1 gI n1 d1) (dec 1 gI n2 d2), none)
 | _ => none
theorem entLL_ok {P : Program} {f : Nat} {q : List Int → List Int → Prop} {m : List Int → List Int → V} (hy : ∀ a b, q a b → Yields P f [vsl eI a, vsl eI b] (m a b)) : EntOk P f (entLL q m) := by
 intro args h p v h' he hp
 unfold entLL at he
 split at he
 ·cases he; rw [okL_vsl hp.1, okL_vsl hp.2.1]; exact hy _ _ hp.2.2 h
 ·cases he
def ent68 := entLL (fun a _ => a.length ≤ 1000000) (fun a b => vb (beforeB a b))
theorem ent68_ok : EntOk Try.prog 68 ent68 := entLL_ok fun a b h => y68 a b h
def tab25 : Spec := (spAdd 68 ent68 tab24)
theorem tab25_ok : SpOk Try.prog tab25 := (spAdd_ok ent68_ok tab24_ok)
def X25 : Sx := mkX tab25
theorem X25_ok : SpOk Try.prog X25.sp := tab25_ok
theorem befF_self (a : List Int) : ∀ n k, befF a a n k = false
 | 0, _ => by simp [befF]
 | n + 1, k => by rw [befF, if_pos rfl]; exact befF_self a n _
theorem befF_eq {a b : List Int} (hl : a.length = b.length) : ∀ n k, befF a b n k = false → befF b a n k = false → ∀ j, k ≤ j → j < k + n → lat a (j : Nat) = lat b (j : Nat)
 | 0, k, _, _, j, h1, h2 => by omega
 | n + 1, k, h1, h2, j, h3, h4 => by
  rw [befF] at h1 h2
  by_cases e : lat a (k : Nat) = lat b (k : Nat)
  ·rw [if_pos e] at h1
   rw [if_pos e.symm] at h2
   rcases Nat.eq_or_lt_of_le h3 with h | h
   ·rw [← h]; exact e
   ·exact befF_eq hl n (k + 1) h1 h2 j h (by omega)
  ·rw [if_neg e] at h1
   rw [if_neg (Ne.symm e)] at h2
   have h1 := of_decide_eq_false h1
   have h2 := of_decide_eq_false h2
   omega
theorem lists_eq {a b : List Int} (hl : a.length = b.length) (h1 : beforeB a b = false) (h2 : beforeB b a = false) : a = b := by
 unfold beforeB at h1 h2
 rw [Nat.min_comm] at h2
 have := befF_eq hl _ _ h1 h2
 apply List.ext_getElem hl
 intro i g1 g2
 have h := this i (Nat.zero_le _) (by omega)
 simpa [lat, g1, g2] using h
theorem w28 (a b : List Int) (ha : a.length ≤ 1000000) (hb : b.length ≤ 1000000) : sx X25 c28 [] (doneF 0 r28) (envOf [vsl eI a, vsl eI b]) [] [] =
  let y2_ := (List.length a)
  let y0_ := (dec 1 gI y2_ (enc eI a))
  let y3_ := (List.length b)
  let y1_ := (dec 1 gI y3_ (enc eI b))
  Tr.br (Int.ofNat y2_ == Int.ofNat y3_) (Tr.need (okL eI 1 gI y2_ (enc eI a) ∧ okL eI 1 gI y3_ (enc eI b) ∧ List.length y0_ ≤ 1000000) (Tr.br (!beforeB y0_ y1_) (Tr.need (okL eI 1 gI y3_ (enc eI b) ∧ okL eI 1 gI y2_ (enc eI a) ∧ List.length y1_ ≤ 1000000) (Tr.done (V.d (D.bool !beforeB y1_ y0_)) [])) (Tr.done (V.d (D.bool false)) []))) (Tr.done (V.d (D.bool false)) []) := by kernel_rfl
theorem y28 (a b : List Int) (ha : a.length ≤ 1000000) (hb : b.length ≤ 1000000) : Yields Try.prog 28 [vsl eI a, vsl eI b] (vb (decide (a = b))) := by
 refine q28.yields X25_ok rfl rfl rfl (w28 a b ha hb) ?_
 simp only [holds]
 simp only [okL_I, dec_I, Int.ofNat_eq_natCast]
 have hno : a ≠ b → VLe (V.d (D.bool false)) (vb (decide (a = b))) := fun h => .of_eq (congrArg vb (decide_eq_false h).symm)
 refine ⟨fun e1 => ⟨⟨by omega, by omega, ha⟩, fun e2 => ⟨⟨by omega, by omega, hb⟩, ?_⟩, fun e2 => hno ?_⟩, fun e1 => hno ?_⟩
 ·have e1 : a.length = b.length := by have := eq_of_beq e1; omega
  have e2 : beforeB a b = false := by simpa using e2
  refine .of_eq (congrArg vb ?_)
  by_cases e : a = b
  ·subst e
   simp [e2]
  ·have : beforeB b a = true := by
    cases h : beforeB b a with
    | true => rfl
    | false => exact (e (lists_eq e1 e2 h)).elim
   simp [this, e]
 ·rintro rfl
  have : beforeB a a = false := befF_self a _ _
  rw [this] at e2; simp at e2
 ·rintro rfl; simp at e1
theorem fin_rl (f : Nat → Int) (n : Nat) : VLe (finX 0 (.own 0 n n) [some (.row 3 1 n (enc eI (rl f n)))]).1 (vsl eI (rl f n)) := by
 have := fin_own 3 (rl f n)
 rw [rl_len] at this
 exact this
theorem y29 (c : Cmp) (t : Tru) (d : Dvd) (hf : faultM c = 0) (hd : datedB c t = true) (hv : okDv d = true) : Yields Try.prog 29 [Cv c, Uv t, Dv d] (vsl eI (paidM c t d)) := by
 have hdv := div_in hv
 refine q29.yieldsX X29_ok rfl rfl ?_ (w29 c t d) ?_
 ·rfl
 simp only [holds, dCe, dC_enc, dUe, dU_enc, true_and, refH_len]
 refine ⟨⟨hf, hd, by omega⟩, ?_⟩
 refine lp_count X29_ok c.held.length (fun _ => True) (fun k => E29 d c.held.length k) (fun k => [some (.row 3 1 c.held.length (enc eI (rl (fun i => if i < k then d.pence * heldF c t d.record i else heldF c t d.record i) c.held.length)))]) rfl ?_ trivial (fun k _ => ⟨rfl, rfl, rfl⟩) ?_
 ·simp [refH, refK, rl]
 intro k hk _ Q' hn he hr
 rw [b29]
 simp only [holds, Int.ofNat_eq_natCast, true_and]
 refine ⟨fun e1 => ?_, fun e1 => ?_⟩
 ·have hlt : k < c.held.length := by have := of_decide_eq_true e1; omega
  have h0 : (0 : Int) ≤ (k : Nat) := by omega
  have h1 : ((k : Nat) : Int) < (c.held.length : Nat) := by omega
  rw [rl_dI _ h0 h1, rl_put _ h0 h1, rl_get _ h0 h1]
  have hh := heldF_in hf t d.record k
  have hbs := (fault_ok hf).1
  have hp := pence_in hdv.2.2.2.1 hdv.2.2.2.2 (n := heldF c t d.record k) (by omega)
  have hn1 := hn [] hlt trivial
  have ef : setF (fun i => if i < k then d.pence * heldF c t d.record i else heldF c t d.record i) ((k : Nat) : Int).toNat (d.pence * (if ((k : Nat) : Int).toNat < k then d.pence * heldF c t d.record ((k : Nat) : Int).toNat else heldF c t d.record ((k : Nat) : Int).toNat)) = fun i => if i < k + 1 then d.pence * heldF c t d.record i else heldF c t d.record i := by
   funext i
   simp only [setF, Int.toNat_natCast]
   by_cases e : i = k
   ·rw [if_pos e, if_neg (by omega), if_pos (by omega), e]
   ·rw [if_neg e]
    by_cases e2 : i < k
    ·rw [if_pos e2, if_pos (by omega)]
    ·rw [if_neg e2, if_neg (by omega)]
  rw [ef]
  have hp2 : d.pence * (if ((k : Nat) : Int).toNat < k then d.pence * heldF c t d.record ((k : Nat) : Int).toNat else heldF c t d.record ((k : Nat) : Int).toNat) = d.pence * heldF c t d.record k := by
   rw [Int.toNat_natCast, if_neg (by omega)]
  rw [hp2]
  simp only [len_I, rl_len]
  exact ⟨⟨⟨h0, h1⟩, by omega⟩, trivial, ⟨by omega, by omega⟩, ⟨⟨h0, h1⟩, by omega⟩, ⟨by simp; omega, rfl⟩, ⟨by omega, by omega⟩, hn1⟩
 ·have hge : k = c.held.length := by have := of_decide_eq_false e1; omega
  subst hge
  refine he _ _ _ (ret_tree (R := fun v1 h1 => VLe (finX 0 v1 h1).1 (vsl eI (paidM c t d))) X29_ok (doneK_ok rfl) (x29 _ _ _ _ _) ?_)
  simp only [holds]
  have ep : paidM c t d = rl (fun i => if i < c.held.length then d.pence * heldF c t d.record i else heldF c t d.record i) c.held.length := by
   rw [paid_rl]
   apply List.ext_getElem (by simp)
   intro i h1 h2
   simp only [rl, List.getElem_map, List.getElem_range]
   simp only [rl_len] at h1
   rw [if_pos h1]; rfl
  rw [ep]
  exact fin_rl _ _
theorem y30 (c : Cmp) (t : Tru) (d : Dvd) (hf : faultM c = 0) (hd : datedB c t = true) (hv : okDv d = true) : Yields Try.prog 30 [Cv c, Uv t, Dv d] (vsl eI (claimsM c t d)) := by
 obtain ⟨⟨g1, g2, g3, g4, g5, g6, g7⟩, g8, g9, g10, g11, g12⟩ := fault_ok hf
 obtain ⟨l1, l2⟩ := dated_len hd
 have hdv := div_in hv
 refine q30.yieldsX X18_ok rfl rfl ?_ (w30 c t d) ?_
 ·rfl
 simp only [holds]
 refine LoopP.state (StLe.ghostTmp (t := 7) 3 1 rfl) ?_
 refine lp_count X18_ok c.trades.length (fun _ => True) (fun k => E30 c t d (claimsK c t d k) k) (fun k => H24 (claimsK c t d k)) rfl rfl trivial (fun k _ => ⟨rfl, rfl, rfl⟩) ?_
 intro k hk _ Q' hn he hr
 rw [b30]
 simp only [holds, Int.ofNat_eq_natCast, cI_I, cI_T2, dCe, dC_enc, true_and]
 refine ⟨fun e1 => ?_, fun e1 => ?_⟩
 ·have hlt : k < c.trades.length := by have := of_decide_eq_true e1; omega
  have ht := trade_in hf hlt
  simp only [okTr, Bool.and_eq_true, decide_eq_true_eq] at ht
  have hdi := dat_in hf hd hlt
  have hu := unitsT_in hf t d.record hlt
  have o1 : okEl [0, 0, 0, 0, 0, 0, 0] (enc eT c.trades) 7 (k : Nat) := ok_T (by simpa using hlt)
  have o2 : okEl [0] (enc eI t.deliv) 1 (k : Nat) := ok_I (by simp; omega)
  have o3 : okEl [0] (enc eI t.sold) 1 (k : Nat) := ok_I (by simp; omega)
  have eu : (lat c.trades (k : Nat)).shares * facM c.splits (lat t.sold (k : Nat)) d.record = unitsT c t d.record k := rfl
  simp only [eu]
  have hp := pence_in hdv.2.2.2.1 hdv.2.2.2.2 (n := unitsT c t d.record k) (by omega)
  have hp2 : (0 - d.pence) * unitsT c t d.record k = -(d.pence * unitsT c t d.record k) := by rw [Int.zero_sub, Int.neg_mul]
  have hreg := isReg_ref hf hd hlt d.record
  have hlate : lateB c t d k = !(inR (regR c.closed (lat t.deliv (k : Nat))) 0 d.record) := by
   by_cases h : isReg c t d.record k
   ·rw [hreg.2 h]
    have := h.1; have := h.2
    simp [lateB]; omega
   ·have h2 : inR (regR c.closed (lat t.deliv (k : Nat))) 0 d.record = false := by
     cases h3 : inR (regR c.closed (lat t.deliv (k : Nat))) 0 d.record with
     | false => rfl
     | true => exact (h (hreg.1 h3)).elim
    rw [h2]
    unfold isReg at h
    simp [lateB]; omega
  have hearly : decide (d.ex ≤ lat t.sold (k : Nat)) = !(earlyB t d k) := by
   simp [earlyB, ← Int.not_lt]
  have hearly2 : decide (lat t.sold (k : Nat) < d.ex) = earlyB t d k := rfl
  generalize hR : inR (regR c.closed (lat t.deliv (k : Nat))) 0 d.record = had at hlate
  rw [hearly, hearly2]
  have hn1 := fun J => hn J hlt trivial
  simp only [E30, H24, claimsK_succ, enc_append, enc_one, List.length_append, List.length_cons, List.length_nil, claimK, hlate] at hn1
  generalize earlyB t d k = early at hn1
  clear hn he hr
  have k1 : (claimsK c t d k).length = k := claimsK_len c t d k
  have k2 : (enc eI (claimsK c t d k)).length = (claimsK c t d k).length * 1 := len_I _
  have hsh : 0 ≤ (lat c.trades (k : Nat)).shares ∧ (lat c.trades (k : Nat)).shares ≤ 100 ∧ -1000 ≤ lat t.sold (k : Nat) ∧ lat t.sold (k : Nat) ≤ 1000 ∧ d.record ≤ 1000 ∧ -9223372036854775808 ≤ lat t.deliv (k : Nat) := by omega
  cases early <;> cases had <;> simp only [Bool.not_true, Bool.not_false, Bool.false_eq_true, Bool.true_eq_false, if_true, if_false, false_imp_iff, true_imp_iff, and_true, true_and] at hn1 ⊢ <;>
   (repeat' (refine And.intro ?_ ?_)) <;> first
   | omega
   | assumption
   | rfl
   | exact hn1 []
   | (simp; done)
   | (simp; omega)
 ·have hge : k = c.trades.length := by have := of_decide_eq_false e1; omega
  subst hge
  refine he _ _ _ (ret_tree (R := fun v1 h1 => VLe (finX 0 v1 h1).1 (vsl eI (claimsM c t d))) X18_ok (doneK_ok rfl) (x30 _ _ _ _ _ _) ?_)
  simp only [holds]
  exact fin_own 3 (claimsM c t d)
end
end Go.Proofs.Ytdnefcjbcieecaa
namespace Go.Proofs.Ytdnefcjbcieecaa
open Go Go.Proofs
noncomputable section
def rightR (c : Cmp) (t : Tru) (d : Dvd) (h : Nat) : Nat → Int
 | 0 => lat c.held (h : Nat) * fac c (-1) d.record
 | k + 1 => if earlyB t d k = true then (if (lat c.trades (k : Nat)).buyer = h then rightR c t d h k + unitsT c t d.record k else if (lat c.trades (k : Nat)).seller = h then rightR c t d h k - unitsT c t d.record k else rightR c t d h k) else rightR c t d h k
theorem rightR_in {c : Cmp} (hf : faultM c = 0) (t : Tru) (d : Dvd) {h : Nat} (hh : h < c.held.length) : ∀ k, k ≤ c.trades.length → -(2592000 * (2 * (k : Int) + 1)) ≤ rightR c t d h k ∧ rightR c t d h k ≤ 2592000 * (2 * (k : Int) + 1)
 | 0, _ => by
  have h1 := held_in hf hh
  have h2 := fac_in hf (-1) d.record
  have h3 := mul_in h1.1 h1.2 h2.1 h2.2
  simp only [rightR]; omega
 | k + 1, hk => by
  have ih := rightR_in hf t d hh k (by omega)
  have hu := unitsT_in hf t d.record (k := k) (by omega)
  rw [rightR]
  split
  ·split
   ·omega
   ·split <;> omega
  ·omega
def claimD (c : Cmp) (t : Tru) (d : Dvd) (h : Nat) : Nat → Int
 | 0 => 0
 | k + 1 => claimD c t d h k + (if (lat c.trades (k : Nat)).buyer = h then claimK c t d k else if (lat c.trades (k : Nat)).seller = h then -claimK c t d k else 0)
theorem rightT_D {c : Cmp} (hf : faultM c = 0) (t : Tru) (d : Dvd) (h : Nat) : ∀ k, k ≤ c.trades.length → rightT c t d k h = d.pence * heldF c t d.record h + claimD c t d h k
 | 0, _ => by simp [rightT, claimD]
 | k + 1, hk => by
  have ht := trade_in hf (show k < c.trades.length by omega)
  simp only [okTr, Bool.and_eq_true, decide_eq_true_eq] at ht
  rw [rightT, moveF_at _ (by omega) (by omega) (by omega), claimD, rightT_D hf t d h k (by omega)]
  split
  ·omega
  ·split <;> omega
theorem late_reg (c : Cmp) (t : Tru) (d : Dvd) (k : Nat) : lateB c t d k = !(decide (isReg c t d.record k)) := by
 cases hx : lateB c t d k with
 | true =>
  have : ¬ isReg c t d.record k := fun h => by
   have h1 := h.1
   have h2 := h.2
   simp only [lateB, Bool.or_eq_true, beq_iff_eq, decide_eq_true_eq] at hx
   omega
  simp [this]
 | false =>
  have : isReg c t d.record k := by
   simp only [lateB, Bool.or_eq_false_iff, beq_eq_false_iff_ne, decide_eq_false_iff_not] at hx
   exact ⟨hx.1, by omega⟩
  simp [this]
theorem right_law {c : Cmp} (hf : faultM c = 0) (t : Tru) (d : Dvd) {h : Nat} (hh : h < c.held.length) : ∀ k, k ≤ c.trades.length → d.pence * heldT c t d.record k h + claimD c t d h k = d.pence * rightR c t d h k
 | 0, _ => by
  have e : heldT c t d.record 0 h = lat c.held (h : Nat) * fac c (-1) d.record := heldA_at c d.record _ h hh
  rw [e]; simp [claimD, rightR]
 | k + 1, hk => by
  have ht := trade_in hf (show k < c.trades.length by omega)
  simp only [okTr, Bool.and_eq_true, decide_eq_true_eq] at ht
  have ih := right_law hf t d hh k (by omega)
  have hl := late_reg c t d k
  rw [heldT, claimD, rightR, claimK, hl]
  have m1 : (0 - d.pence) * unitsT c t d.record k = -(d.pence * unitsT c t d.record k) := by rw [Int.zero_sub, Int.neg_mul]
  by_cases hr : isReg c t d.record k
  ·rw [if_pos hr, moveF_at _ (by omega) (by omega) (by omega)]
   simp only [hr, decide_true, Bool.not_true, Bool.false_eq_true, if_false]
   split <;> split <;> (try split) <;> (try simp only [Int.mul_add, Int.mul_sub, m1]) <;> omega
  ·rw [if_neg hr]
   simp only [hr, decide_false, Bool.not_false, if_true]
   split <;> split <;> (try split) <;> (try simp only [Int.mul_add, Int.mul_sub]) <;> omega
def refR (c : Cmp) (t : Tru) (d : Dvd) (n : Nat) : List Int := rl (fun h => d.pence * rightR c t d h c.trades.length) n
theorem refR_succ (c : Cmp) (t : Tru) (d : Dvd) (h : Nat) : refR c t d (h + 1) = refR c t d h ++ [d.pence * rightR c t d h c.trades.length] := by simp [refR, rl, List.range_succ]
@[simp] theorem refR_len (c : Cmp) (t : Tru) (d : Dvd) (h : Nat) : (refR c t d h).length = h := by simp [refR]
theorem rights_eq {c : Cmp} (hf : faultM c = 0) (t : Tru) (d : Dvd) : refR c t d c.held.length = rightsM c t d := by
 unfold refR rightsM
 apply List.ext_getElem (by simp)
 intro i h1 h2
 simp only [rl_len] at h1
 simp only [rl, List.getElem_map, List.getElem_range]
 rw [rightT_D hf t d i _ (Nat.le_refl _), ← right_law hf t d h1 _ (Nat.le_refl _)]
 rfl
theorem y31 (c : Cmp) (t : Tru) (d : Dvd) (hf : faultM c = 0) (hd : datedB c t = true) (hv : okDv d = true) : Yields Try.prog 31 [Cv c, Uv t, Dv d] (vsl eI (rightsM c t d)) := by
 obtain ⟨⟨g1, g2, g3, g4, g5, g6, g7⟩, g8, g9, g10, g11, g12⟩ := fault_ok hf
 obtain ⟨l1, l2⟩ := dated_len hd
 have hdv := div_in hv
 refine q31.yieldsX X18_ok rfl rfl ?_ (w31 c t d) ?_
 ·rfl
 simp only [holds]
 refine LoopP.state (StLe.ghostTmp (t := 7) 3 1 rfl) ?_
 refine lp_count X18_ok c.held.length (fun _ => True) (fun h => E30 c t d (refR c t d h) h) (fun h => H24 (refR c t d h)) rfl rfl trivial (fun k _ => ⟨rfl, rfl, rfl⟩) ?_
 intro h hh _ Q' hn he hr
 rw [b31]
 simp only [holds, Int.ofNat_eq_natCast, cI_I, dCe, dC_enc, true_and]
 refine ⟨fun e1 => ?_, fun e1 => ?_⟩
 ·have hlt : h < c.held.length := by have := of_decide_eq_true e1; omega
  have hi := held_in hf hlt
  have hn1 := hn [] hlt trivial
  refine ⟨⟨by omega, by omega, ok_I (by simpa using hlt)⟩, ⟨g11, g6, by omega, by omega, by omega, by omega, by omega⟩, ?_⟩
  clear hn he hr
  have e0 : lat c.held (h : Nat) * facM c.splits (-1) d.record = rightR c t d h 0 := rfl
  rw [e0]
  refine lp_count X18_ok c.trades.length (fun _ => True) (fun k => E31i c t d (refR c t d h) h (rightR c t d h k) k) (fun _ => H24 (refR c t d h)) rfl rfl trivial (fun k _ => ⟨rfl, rfl, rfl⟩) ?_
  intro k hk _ Q2 hn he hr
  rw [b31i]
  simp only [holds, Int.ofNat_eq_natCast, cI_I, cI_T0, cI_T1, cI_T2, dCe, dC_enc, true_and]
  refine ⟨fun e2 => ?_, fun e2 => ?_⟩
  ·have hlt2 : k < c.trades.length := by have := of_decide_eq_true e2; omega
   have ht := trade_in hf hlt2
   simp only [okTr, Bool.and_eq_true, decide_eq_true_eq] at ht
   have hdi := dat_in hf hd hlt2
   have hu := unitsT_in hf t d.record hlt2
   have hb := rightR_in hf t d hlt k hk
   have o1 : okEl [0, 0, 0, 0, 0, 0, 0] (enc eT c.trades) 7 (k : Nat) := ok_T (by simpa using hlt2)
   have o3 : okEl [0] (enc eI t.sold) 1 (k : Nat) := ok_I (by simp; omega)
   have hn2 := hn [some (.box [V.d (D.int .i64 (lat c.trades (k : Nat)).seller), V.d (D.int .i64 (lat c.trades (k : Nat)).buyer), V.d (D.int .i64 (lat c.trades (k : Nat)).shares), V.d (D.int .i64 (cI (enc eT c.trades) 7 (k : Nat) 3)), V.d (D.int .i64 (cI (enc eT c.trades) 7 (k : Nat) 4)), V.d (D.int .i64 (cI (enc eT c.trades) 7 (k : Nat) 5)), V.d (D.int .i64 (cI (enc eT c.trades) 7 (k : Nat) 6))])] hlt2 trivial
   have eu : (lat c.trades (k : Nat)).shares * facM c.splits (lat t.sold (k : Nat)) d.record = unitsT c t d.record k := rfl
   have hearly2 : decide (lat t.sold (k : Nat) < d.ex) = earlyB t d k := rfl
   simp only [eu, hearly2]
   have hsh : 0 ≤ (lat c.trades (k : Nat)).shares ∧ (lat c.trades (k : Nat)).shares ≤ 100 ∧ -1000 ≤ lat t.sold (k : Nat) ∧ lat t.sold (k : Nat) ≤ 1000 ∧ d.record ≤ 1000 := by omega
   have hne : ¬ ((lat c.trades (k : Nat)).buyer = (h : Int) ∧ (lat c.trades (k : Nat)).seller = (h : Int)) := by omega
   simp only [rightR] at hn2
   generalize earlyB t d k = early at hn2
   clear hn he hr
   by_cases hB : (lat c.trades (k : Nat)).buyer = (h : Int)
   ·have hS : ¬ (lat c.trades (k : Nat)).seller = (h : Int) := fun e => hne ⟨hB, e⟩
    have b1 : ((lat c.trades (k : Nat)).buyer == (h : Int)) = true := by simpa using hB
    have b2 : ((lat c.trades (k : Nat)).seller == (h : Int)) = false := by simpa using hS
    rw [b1, b2]
    rw [if_pos hB] at hn2
    cases early <;> simp only [Bool.not_true, Bool.not_false, Bool.false_eq_true, Bool.true_eq_false, if_true, if_false, false_imp_iff, true_imp_iff, and_true, true_and] at hn2 ⊢ <;>
     (repeat' (refine And.intro ?_ ?_)) <;> first
     | omega
     | assumption
   ·have b1 : ((lat c.trades (k : Nat)).buyer == (h : Int)) = false := by simpa using hB
    rw [b1]
    rw [if_neg hB] at hn2
    by_cases hS : (lat c.trades (k : Nat)).seller = (h : Int)
    ·have b2 : ((lat c.trades (k : Nat)).seller == (h : Int)) = true := by simpa using hS
     rw [b2]
     rw [if_pos hS] at hn2
     cases early <;> simp only [Bool.not_true, Bool.not_false, Bool.false_eq_true, Bool.true_eq_false, if_true, if_false, false_imp_iff, true_imp_iff, and_true, true_and] at hn2 ⊢ <;>
      (repeat' (refine And.intro ?_ ?_)) <;> first
      | omega
      | assumption
    ·have b2 : ((lat c.trades (k : Nat)).seller == (h : Int)) = false := by simpa using hS
     rw [b2]
     rw [if_neg hS] at hn2
     cases early <;> simp only [Bool.not_true, Bool.not_false, Bool.false_eq_true, Bool.true_eq_false, if_true, if_false, false_imp_iff, true_imp_iff, and_true, true_and] at hn2 ⊢ <;>
      (repeat' (refine And.intro ?_ ?_)) <;> first
      | omega
      | assumption
  ·have hge : k = c.trades.length := by have := of_decide_eq_false e2; omega
   subst hge
   have hb := rightR_in hf t d hlt c.trades.length (Nat.le_refl _)
   have hp := pence_in hdv.2.2.2.1 hdv.2.2.2.2 (n := rightR c t d h c.trades.length) (by omega)
   refine he _ _ _ (ret_tree (R := fun _ _ => True) X18_ok leafK_ok (x31i _ _ _ _ _ _ _ _) ?_)
   simp only [holds, Int.ofNat_eq_natCast]
   refine ⟨⟨by omega, by omega⟩, ⟨trivial, trivial, trivial, by simp, rfl, by rw [refR_len]; omega, by rw [refR_len]; omega⟩, ⟨by omega, by omega⟩, ?_⟩
   simp only [E30, H24, refR_succ, enc_append, enc_one, List.length_append, List.length_cons, List.length_nil] at hn1
   exact hn1
 ·have hge : h = c.held.length := by have := of_decide_eq_false e1; omega
  subst hge
  refine he _ _ _ (ret_tree (R := fun v1 h1 => VLe (finX 0 v1 h1).1 (vsl eI (rightsM c t d))) X18_ok (doneK_ok rfl) (x31 _ _ _ _ _ _) ?_)
  simp only [holds]
  rw [← rights_eq hf]
  exact fin_own 3 (refR c t d c.held.length)
end
end Go.Proofs.Ytdnefcjbcieecaa
namespace Go.Proofs.Ytdnefcjbcieecaa
open Go Go.Proofs
noncomputable section
theorem q4 : FunIs Try.prog 4 G4 c4 r4 := ⟨Try.f4, Try.func4, k4, e4, by kernel_rfl, by kernel_rfl⟩
def entCUV (q : Cmp → Tru → Dvd → Prop) (m : Cmp → Tru → Dvd → V) : Ent := fun args _ => match args with
 | [x, y, z] => match asC x, asU y, asDv z with
  | some c, some t, some d => some (Cv c = x ∧ Uv t = y ∧ Dv d = z ∧ q c t d, m c t d, none)
  | _, _, _ => none
 | _ => none
theorem entCUV_ok {P : Program} {f : Nat} {q : Cmp → Tru → Dvd → Prop} {m : Cmp → Tru → Dvd → V} (hy : ∀ c t d, q c t d → Yields P f [Cv c, Uv t, Dv d] (m c t d)) : EntOk P f (entCUV q m) := by
 intro args h p v h' he hp
 unfold entCUV at he
 split at he
 ·split at he
  ·cases he; rw [← hp.1, ← hp.2.1, ← hp.2.2.1]; exact hy _ _ _ hp.2.2.2 h
  ·cases he
 ·cases he
def okCUV (c : Cmp) (t : Tru) (d : Dvd) : Prop := faultM c = 0 ∧ datedB c t = true ∧ okDv d = true
def ent29 := entCUV okCUV (fun c t d => vsl eI (paidM c t d))
theorem ent29_ok : EntOk Try.prog 29 ent29 := entCUV_ok fun c t d h => y29 c t d h.1 h.2.1 h.2.2
def ent30 := entCUV okCUV (fun c t d => vsl eI (claimsM c t d))
theorem ent30_ok : EntOk Try.prog 30 ent30 := entCUV_ok fun c t d h => y30 c t d h.1 h.2.1 h.2.2
def ent31 := entCUV okCUV (fun c t d => vsl eI (rightsM c t d))
theorem ent31_ok : EntOk Try.prog 31 ent31 := entCUV_ok fun c t d h => y31 c t d h.1 h.2.1 h.2.2
def ent28 := entLL (fun a b => a.length ≤ 1000000 ∧ b.length ≤ 1000000) (fun a b => vb (decide (a = b)))
theorem ent28_ok : EntOk Try.prog 28 ent28 := entLL_ok fun a b h => y28 a b h.1 h.2
def ent25 := entCUI (fun _ _ _ => True) (fun c t n => .tup [vsl eI (sumL paidM c t n), vi (sumE c t n)])
theorem ent25_ok : EntOk Try.prog 25 ent25 := entCUI_ok fun c t d _ => y25 c t d
def ent26 := entCUI (fun _ _ _ => True) (fun c t n => .tup [vsl eI (sumL claimsM c t n), vi (sumE c t n)])
theorem ent26_ok : EntOk Try.prog 26 ent26 := entCUI_ok fun c t d _ => y26 c t d
def ent27 := entCUI (fun _ _ _ => True) (fun c t n => .tup [vsl eI (sumL rightsM c t n), vi (sumE c t n)])
theorem ent27_ok : EntOk Try.prog 27 ent27 := entCUI_ok fun c t d _ => y27 c t d
def tab26 : Spec := (spAdd 31 ent31 (spAdd 30 ent30 (spAdd 29 ent29 (spAdd 28 ent28 (spAdd 27 ent27 (spAdd 26 ent26 (spAdd 25 ent25 tab25)))))))
theorem tab26_ok : SpOk Try.prog tab26 := (spAdd_ok ent31_ok (spAdd_ok ent30_ok (spAdd_ok ent29_ok (spAdd_ok ent28_ok (spAdd_ok ent27_ok (spAdd_ok ent26_ok (spAdd_ok ent25_ok tab25_ok)))))))
def X26 : Sx := mkX tab26
theorem X26_ok : SpOk Try.prog X26.sp := tab26_ok
theorem w4 (c : Cmp) (t : Tru) (n : Int) : sx X26 c4 [] (doneP r4) (envOf [Cv c, Uv t, vi n]) [] [] =
  let x1_ := (Cv (dCe c) = Cv c ∧ small (dCe c))
  let x2_ := (Uv (dUe t) = Uv t ∧ List.length (Tru.sold (dUe t)) ≤ 1000000 ∧ List.length (Tru.deliv (dUe t)) ≤ 1000000)
  let x3_ := (Cv (dCe (dCe c)) = Cv (dCe c) ∧ Uv (dUe (dUe t)) = Uv (dUe t) ∧ True)
  let x4_ := (List.length (Cmp.divs c))
  let x5_ := (sumE (dCe (dCe c)) (dUe (dUe t)) n == (2 : Int))
  let x6_ := (sumL paidM (dCe (dCe c)) (dUe (dUe t)) n)
  let x7_ := (sumL claimsM (dCe (dCe c)) (dUe (dUe t)) n)
  let x8_ := (sumL rightsM (dCe (dCe c)) (dUe (dUe t)) n)
  let x9_ := (sumE (dCe (dCe c)) (dUe (dUe t)) n == (0 : Int))
  let y4_ := (enc eV (Cmp.divs c))
  let y2_ := ({ ex := cI y4_ 3 n 0, record := cI y4_ 3 n 1, pence := cI y4_ 3 n 2 } : Dvd)
  let x10_ := (Cv (dCe c) = Cv c ∧ Uv (dUe t) = Uv t ∧ Dv y2_ = V.agg [V.d (D.int .i64 (cI y4_ 3 n 0)), V.d (D.int .i64 (cI y4_ 3 n 1)), V.d (D.int .i64 (cI y4_ 3 n 2))] ∧ okCUV (dCe c) (dUe t) y2_)
  let x11_ := (paidM (dCe c) (dUe t) y2_)
  let x12_ := (claimsM (dCe c) (dUe t) y2_)
  let x13_ := (rightsM (dCe c) (dUe t) y2_)
  let x14_ := (sumE (dCe (dCe c)) (dUe (dUe t)) n == askE (dCe c) (dUe t))
  let y3_ := (Tr.done (V.d (D.bool false)) [])
  let y6_ := (List.length x6_)
  let y7_ := (List.length x7_)
  let y8_ := (Tr.need True (Tr.done (V.d (D.bool true)) []))
  let y9_ := (List.length x8_)
  let y0_ := (Tr.need ((0 : Int) ≤ n ∧ n < Int.ofNat x4_ ∧ okEl [0, 0, 0] y4_ 3 n) (Tr.br x9_ (Tr.need x10_ (Tr.need (okL eI 1 gI y6_ (enc eI x6_) ∧ okL eI 1 gI (List.length x11_) (enc eI x11_) ∧ List.length (dec 1 gI y6_ (enc eI x6_)) ≤ 1000000 ∧ List.length (dec 1 gI (List.length x11_) (enc eI x11_)) ≤ 1000000) (Tr.br (decide (dec 1 gI y6_ (enc eI x6_) = dec 1 gI (List.length x11_) (enc eI x11_))) (Tr.br x9_ (Tr.need x10_ (Tr.need (okL eI 1 gI y7_ (enc eI x7_) ∧ okL eI 1 gI (List.length x12_) (enc eI x12_) ∧ List.length (dec 1 gI y7_ (enc eI x7_)) ≤ 1000000 ∧ List.length (dec 1 gI (List.length x12_) (enc eI x12_)) ≤ 1000000) (Tr.br (decide (dec 1 gI y7_ (enc eI x7_) = dec 1 gI (List.length x12_) (enc eI x12_))) (Tr.br x9_ (Tr.need x10_ (Tr.need (okL eI 1 gI y9_ (enc eI x8_) ∧ okL eI 1 gI (List.length x13_) (enc eI x13_) ∧ List.length (dec 1 gI y9_ (enc eI x8_)) ≤ 1000000 ∧ List.length (dec 1 gI (List.length x13_) (enc eI x13_)) ≤ 1000000) (Tr.br (decide (dec 1 gI y9_ (enc eI x8_) = dec 1 gI (List.length x13_) (enc eI x13_))) y8_ y3_))) y3_) y3_))) y3_) y3_))) y3_))
  let y1_ := (Tr.need (-9223372036854775808 ≤ Int.ofNat y6_ + Int.ofNat y7_ ∧ Int.ofNat y6_ + Int.ofNat y7_ ≤ 9223372036854775807) (Tr.need (-9223372036854775808 ≤ Int.ofNat y6_ + Int.ofNat y7_ + Int.ofNat y9_ ∧ Int.ofNat y6_ + Int.ofNat y7_ + Int.ofNat y9_ ≤ 9223372036854775807) (Tr.br (Int.ofNat y6_ + Int.ofNat y7_ + Int.ofNat y9_ == (0 : Int)) y8_ y3_)))
  let y5_ := (Tr.br (askE (dCe c) (dUe t) != (0 : Int)) (Tr.br x14_ (Tr.br x14_ (Tr.br x14_ y1_ y3_) y3_) y3_) y0_)
  Tr.need (Cv (dCe c) = Cv c ∧ Uv (dUe t) = Uv t ∧ True) (Tr.br (!thin (dCe c) (dUe t)) y8_ (Tr.need x1_ (Tr.need x2_ (Tr.need x3_ (Tr.need x1_ (Tr.need x2_ (Tr.need x3_ (Tr.need x1_ (Tr.need x2_ (Tr.need x3_ (Tr.need (Cv (dCe c) = Cv c ∧ Uv (dUe t) = Uv t ∧ List.length (Cmp.trades (dCe c)) ≤ 1000000) (Tr.br (askE (dCe c) (dUe t) == (0 : Int)) (Tr.need (-9223372036854775808 ≤ Int.ofNat x4_ - (1 : Int) ∧ Int.ofNat x4_ - (1 : Int) ≤ 9223372036854775807) (Tr.need True (Tr.br (!inR n (0 : Int) (Int.ofNat x4_ - (1 : Int))) (Tr.br ((2 : Int) != (0 : Int)) (Tr.br x5_ (Tr.br x5_ (Tr.br x5_ y1_ y3_) y3_) y3_) y0_) y5_))) y5_)))))))))))) := by kernel_rfl
theorem paidM_len (c : Cmp) (t : Tru) (d : Dvd) : (paidM c t d).length = c.held.length := by rw [paid_rl, rl_len]
theorem claimsM_len (c : Cmp) (t : Tru) (d : Dvd) : (claimsM c t d).length = c.trades.length := claimsK_len c t d _
theorem rightsM_len (c : Cmp) (t : Tru) (d : Dvd) : (rightsM c t d).length = c.held.length := rl_len _ _
theorem y4 (c : Cmp) (t : Tru) (n : Int) : Yields Try.prog 4 [Cv c, Uv t, vi n] (vb true) := by
 refine q4.yieldsP X26_ok rfl rfl rfl (w4 c t n) ?_
 simp only [holds, Int.ofNat_eq_natCast, cI_V0, cI_V1, cI_V2, dCe, dC_enc, dUe, dU_enc, dec_I, okL_I, true_and, and_true]
 refine ⟨fun _ => .refl _, fun g => ?_⟩
 have g : thin c t = true := by simpa using g
 have hl := thin_len g
 have hs := thin_small g
 have hu : t.sold.length ≤ 1000000 ∧ t.deliv.length ≤ 1000000 := by omega
 have htr : c.trades.length ≤ 1000000 := by omega
 have hdl : -9223372036854775808 ≤ (c.divs.length : Int) - 1 ∧ (c.divs.length : Int) - 1 ≤ 9223372036854775807 := by omega
 have hT : VLe (V.d (D.bool true)) (vb true) := .refl _
 simp only [hs, hu, htr, hdl, and_self, true_and]
 by_cases h1 : askE c t = 0
 ·obtain ⟨hf, hd, hfi⟩ := askE_ok h1
  have hbs := (fault_ok hf).1
  by_cases h2 : inR n 0 (c.divs.length - 1) = true
  ·have e : sumE c t n = 0 := by simp [sumE, h1, h2]
   have e2 : ∀ M, sumL M c t n = M c t (lat c.divs n) := fun M => by simp [sumL, e]
   have h3 : 0 ≤ n ∧ n < (c.divs.length : Int) := by simp only [inR, decide_eq_true_eq] at h2; omega
   have hdv := divs_ok hf h3.1 h3.2
   have hok : okCUV c t (lat c.divs n) := ⟨hf, hd, hdv⟩
   have hok' : okCUV c t ⟨(lat c.divs n).ex, (lat c.divs n).record, (lat c.divs n).pence⟩ := hok
   have hDv : Dv ⟨(lat c.divs n).ex, (lat c.divs n).record, (lat c.divs n).pence⟩ = V.agg [V.d (D.int .i64 (lat c.divs n).ex), V.d (D.int .i64 (lat c.divs n).record), V.d (D.int .i64 (lat c.divs n).pence)] := rfl
   have b1 : c.held.length ≤ 140737488355328 ∧ c.held.length ≤ 1000000 ∧ c.trades.length ≤ 140737488355328 := by omega
   simp only [h1, h2, e, e2, hok', hDv, paidM_len, claimsM_len, rightsM_len, b1, htr, beq_self_eq_true, bne_self_eq_false, Bool.not_true, Bool.false_eq_true, false_imp_iff, true_imp_iff, true_and, Bool.true_eq_false, and_true, decide_true, and_self]
   exact ⟨⟨h3.1, h3.2, ok_V (by omega)⟩, hT⟩
  ·have h2 : inR n 0 (c.divs.length - 1) = false := by simpa using h2
   have e : sumE c t n = 2 := by simp [sumE, h1, h2]
   have e2 : ∀ M, sumL M c t n = [] := fun M => by simp [sumL, e]
   simp only [h1, h2, e, e2, beq_self_eq_true, bne_self_eq_false, Bool.not_true, Bool.not_false, Bool.false_eq_true, false_imp_iff, true_imp_iff, true_and, List.length_nil, Bool.true_eq_false, and_true]
   exact ⟨fun _ => ⟨⟨by decide, by decide⟩, ⟨by decide, by decide⟩, fun _ => hT, fun h => by simp at h⟩, fun h => by simp at h⟩
 ·have e : sumE c t n = askE c t := by simp [sumE, h1]
  have e2 : ∀ M, sumL M c t n = [] := fun M => by simp [sumL, e, h1]
  have b1 : (askE c t == 0) = false := by simpa using h1
  have b2 : (askE c t != 0) = true := by simpa using h1
  simp only [b1, b2, e, e2, beq_self_eq_true, bne_self_eq_false, Bool.not_true, Bool.not_false, Bool.false_eq_true, false_imp_iff, true_imp_iff, true_and, List.length_nil, Bool.true_eq_false, and_true]
  exact ⟨⟨by decide, by decide⟩, ⟨by decide, by decide⟩, fun _ => hT, fun h => by simp at h⟩
end
end Go.Proofs.Ytdnefcjbcieecaa
namespace Go.Proofs.Ytdnefcjbcieecaa
open Go Go.Proofs
noncomputable section
def goodD (c : Cmp) (t : Tru) (k : Nat) : Prop := ∀ i, i < 4 → 0 ≤ heldF c t (k : Nat) i
def kEnd (c : Cmp) (t : Tru) : Nat := open Classical in if h : ∃ k, k < 12 ∧ ¬ goodD c t k ∧ ∀ j, j < k → goodD c t j then h.choose + 1 else 12
theorem kEnd_bad {c : Cmp} {t : Tru} {k : Nat} (hk : k < 12) (hb : ¬ goodD c t k) (hg : ∀ j, j < k → goodD c t j) : kEnd c t = k + 1 := by
 have h : ∃ k, k < 12 ∧ ¬ goodD c t k ∧ ∀ j, j < k → goodD c t j := ⟨k, hk, hb, hg⟩
 unfold kEnd
 rw [dif_pos h]
 obtain ⟨h1, h2, h3⟩ := h.choose_spec
 rcases Nat.lt_trichotomy h.choose k with g | g | g
 ·exact (h2 (hg _ g)).elim
 ·rw [g]
 ·exact (hb (h3 _ g)).elim
theorem kEnd_good {c : Cmp} {t : Tru} (hg : ∀ j, j < 12 → goodD c t j) : kEnd c t = 12 := by
 unfold kEnd
 rw [dif_neg]
 rintro ⟨k, h1, h2, _⟩
 exact h2 (hg k h1)
theorem a93k (c : Cmp) (t : Tru) (km : List (Int × Int × Int)) (hf : faultM c = 0) (hs : t.sold.length = c.trades.length) (hd : t.deliv.length = c.trades.length) (hkm : kmOk c km) :
  ACalls Try.prog 93 [.ptr 1 0 0, Uv t] (Wk c km []) fun v h' => v = vb (fitsB c t) ∧ ∃ J, h' = Wk c (kmF c t km (kEnd c t)) J := by
 refine q93.calls X15_ok (h := Wk c km []) rfl (w93 c t km) ?_
 simp only [holds]
 refine lp_count X15_ok 12 (fun k => ∀ j, j < k → ∀ i, i < 4 → 0 ≤ heldF c t (j : Nat) i) (E93 t) (fun k => Wk c (kmF c t km k) [some (.box (cells4 (bef c t k)))]) rfl rfl (fun j hj => by omega) (fun k _ => ⟨rfl, rfl, Wk_belr _ _ _ 3 (by decide) rfl⟩) ?_
 intro k hk hA Q' hn he hr
 rw [b93]
 simp only [holds, least4, Int.ofNat_eq_natCast, dCe, dC_enc, dUe, dU_enc, dK_map, true_and]
 refine ⟨fun h1 => ?_, fun h1 => ?_⟩
 ·have hlt : k < 12 := by have := of_decide_eq_true h1; omega
  refine ⟨⟨hf, hs, hd, kmF_ok hkm t k⟩, fun h2 => ⟨by omega, ?_⟩, fun h2 => ⟨by simp, ⟨okL4 _ _ _ _, by decide, by decide⟩, fun h3 => ?_, fun h3 => ⟨by omega, ?_⟩⟩⟩
  ·have h2' : eqDs [D.int .i64 (heldF c t (k : Nat) 0), D.int .i64 (heldF c t (k : Nat) 1), D.int .i64 (heldF c t (k : Nat) 2), D.int .i64 (heldF c t (k : Nat) 3)] [D.int .i64 (bef c t k 0), D.int .i64 (bef c t k 1), D.int .i64 (bef c t k 2), D.int .i64 (bef c t k 3)] = true := h2
   simp only [eqDs, eqD, Bool.and_eq_true, beq_iff_eq, true_and, and_true] at h2'
   obtain ⟨e0, e1, e2, e3⟩ := h2'
   have hb : ∀ i, i < 4 → 0 ≤ bef c t k i := by
    cases k with
    | zero => intro i _; exact Int.le_refl _
    | succ k => exact hA k (by omega)
   have hnn : ∀ i, i < 4 → 0 ≤ heldF c t (k : Nat) i := lt4 (p := fun i => 0 ≤ heldF c t (k : Nat) i) (e0 ▸ hb 0 (by decide)) (e1 ▸ hb 1 (by decide)) (e2 ▸ hb 2 (by decide)) (e3 ▸ hb 3 (by decide))
   have hc : cells4 (bef c t k) = cells4 (heldF c t (k : Nat)) := by simp only [cells4, e0, e1, e2, e3]
   have := hn [some (.box (cells4 (heldF c t (k : Nat))))] hlt (step_all hA hnn)
   simp only [kmF, bef] at this
   rw [← hc] at this
   rw [e0, e1, e2, e3]
   exact this
  ·refine hr _ _ (ret_tree X15_ok (doneK_ok rfl) (t93 false _) ?_)
   simp only [holds]
   have hfb : fitsB c t = false := by
    simp only [fitsB, decide_eq_false_iff_not]
    intro h
    have hm : min2 (min2 (min2 (heldF c t (k : Nat) 0) (heldF c t (k : Nat) 1)) (heldF c t (k : Nat) 2)) (heldF c t (k : Nat) 3) < 0 := of_decide_eq_true h3
    have g := h k hlt
    have g0 := g 0 (by decide); have g1 := g 1 (by decide); have g2 := g 2 (by decide); have g3 := g 3 (by decide)
    unfold min2 at hm
    split at hm <;> split at hm <;> split at hm <;> omega
   have hbad : ¬ goodD c t k := fun g => by
    have hm : min2 (min2 (min2 (heldF c t (k : Nat) 0) (heldF c t (k : Nat) 1)) (heldF c t (k : Nat) 2)) (heldF c t (k : Nat) 3) < 0 := of_decide_eq_true h3
    have g0 := g 0 (by decide); have g1 := g 1 (by decide); have g2 := g 2 (by decide); have g3 := g 3 (by decide)
    unfold min2 at hm
    split at hm <;> split at hm <;> split at hm <;> omega
   rw [kEnd_bad hlt hbad hA]
   exact ⟨by rw [hfb]; rfl, _, rfl⟩
  ·have hm : ¬ min2 (min2 (min2 (heldF c t (k : Nat) 0) (heldF c t (k : Nat) 1)) (heldF c t (k : Nat) 2)) (heldF c t (k : Nat) 3) < 0 := of_decide_eq_false h3
   have m1 := min2_le (min2 (min2 (heldF c t (k : Nat) 0) (heldF c t (k : Nat) 1)) (heldF c t (k : Nat) 2)) (heldF c t (k : Nat) 3)
   have m2 := min2_le (min2 (heldF c t (k : Nat) 0) (heldF c t (k : Nat) 1)) (heldF c t (k : Nat) 2)
   have m3 := min2_le (heldF c t (k : Nat) 0) (heldF c t (k : Nat) 1)
   exact hn [none] hlt (step_all hA (lt4 (p := fun i => 0 ≤ heldF c t (k : Nat) i) (by omega) (by omega) (by omega) (by omega)))
 ·have hge : k = 12 := by have := of_decide_eq_false h1; omega
  subst hge
  refine he _ _ _ (ret_tree X15_ok (doneK_ok rfl) (x93 _ _ _ _ _ _) ?_)
  simp only [holds]
  have hfb : fitsB c t = true := by
   simp only [fitsB, decide_eq_true_eq]
   exact hA
  rw [kEnd_good hA]
  exact ⟨by rw [hfb]; rfl, _, rfl⟩
def Wc : Option Blk := some (.box [.ptr 1 0 0])
def Yb : Option Blk := some (.box [.yl 7])
def Cb : Option Blk := some (.box [.fn (.func 112) [] [.ptr 6 0 0, .ptr 10 0 0, .ptr 9 0 0, .ptr 11 0 0]])
def HI (c : Cmp) (km : List (Int × Int × Int)) (b2 b3 b4 b5 b7 b8 : Option Blk) (t : Tru) (rest : Heap) : Heap := Wk c km (b2 :: b3 :: b4 :: b5 :: Wc :: b7 :: b8 :: Yb :: some (.box [.d (.sl false t.sold.length (enc eI t.sold)), .d (.sl false t.deliv.length (enc eI t.deliv))]) :: Cb :: rest)
def ent93At (c : Cmp) (km : List (Int × Int × Int)) (t : Tru) (rest : Heap) : Ent := fun args h => some (args = [.ptr 1 0 0, Uv t] ∧ h = Wk c km rest ∧ faultM c = 0 ∧ t.sold.length = c.trades.length ∧ t.deliv.length = c.trades.length ∧ kmOk c km, vb (fitsB c t), some (Wk c (kmF c t km (kEnd c t)) rest))
theorem ent93At_ok (c : Cmp) (km : List (Int × Int × Int)) (t : Tru) (rest : Heap) : EntOk Try.prog 93 (ent93At c km t rest) := by
 intro args h p v ho he hp
 cases he
 obtain ⟨rfl, rfl, h1, h2, h3, h4⟩ := hp
 exact more_W rfl rfl (a93k c t km h1 h2 h3 h4) rest
theorem q95 : FunIs Try.prog 95 G95 c95 r95 := ⟨Try.f95, Try.func95, k95, e95, by kernel_rfl, by kernel_rfl⟩
theorem q111 : FunIs Try.prog 111 G111 c111 r111 := ⟨Try.f111, Try.func111, k111, e111, by kernel_rfl, by kernel_rfl⟩
theorem q112 : FunIs Try.prog 112 G112 c112 r112 := ⟨Try.f112, Try.func112, k112, e112, by kernel_rfl, by kernel_rfl⟩
def X112 (c : Cmp) (km : List (Int × Int × Int)) (t : Tru) (rest : Heap) : Sx := { sp := spAdd 93 (ent93At c km t rest) spNil, md := fun t => bif Nat.beq t 27 then 1 else bif Nat.beq t 82 then 1 else 0, sh := shI }
theorem X112_ok (c : Cmp) (km : List (Int × Int × Int)) (t : Tru) (rest : Heap) : SpOk Try.prog (X112 c km t rest).sp := spAdd_ok (ent93At_ok c km t rest) (spNil_ok _)
theorem w112 (c : Cmp) (km : List (Int × Int × Int)) (b2 b3 b4 b5 b7 b8 : Option Blk) (t : Tru) (i : Nat) : sx (X112 c km t (b2 :: b3 :: b4 :: b5 :: Wc :: b7 :: b8 :: Yb :: some (.box [.d (.sl false t.sold.length (enc eI t.sold)), .d (.sl false t.deliv.length (enc eI t.deliv))]) :: Cb :: [])) c112 [] (doneK r112) (envOf [vi i, .ptr 6 0 0, .ptr 10 0 0, .ptr 9 0 0, .ptr 11 0 0]) [] (HI c km b2 b3 b4 b5 b7 b8 t []) =
  let y7_ := (Cmp.trades c)
  let y3_ := (enc eT y7_)
  let y0_ := (Blk.box [V.d (D.int .i64 (Cmp.houses c)), V.d (D.sl false (List.length (Cmp.held c)) (enc eI (Cmp.held c))), V.d (D.sl false (List.length y7_) y3_), V.d (D.sl false (List.length (Cmp.divs c)) (enc eV (Cmp.divs c))), V.d (D.sl false (List.length (Cmp.splits c)) (enc eS (Cmp.splits c))), V.d (D.sl false (List.length (Cmp.closed c)) (enc eR (Cmp.closed c))), V.mp 0])
  let y5_ := (D.sl false (List.length (Tru.deliv t)) (enc eI (Tru.deliv t)))
  let y6_ := (D.sl false (List.length (Tru.sold t)) (enc eI (Tru.sold t)))
  let y1_ := (Blk.box [V.d y6_, V.d y5_])
  let y4_ := (Blk.box [V.fn (Fn.func 112) [] [V.ptr 6 0 0, V.ptr 10 0 0, V.ptr 9 0 0, V.ptr 11 0 0]])
  let y2_ := [some (Blk.map (List.map entE (kmF c t km (kEnd c t)))), some y0_, b2, b3, b4, b5, some (Blk.box [V.ptr 1 0 0]), b7, b8, some (Blk.box [V.yl 7]), some y1_, some y4_]
  let y8_ := (D.int .i64 (cI y3_ 7 (Int.ofNat i) 3))
  Tr.br (Int.ofNat i == Int.ofNat (List.length y7_)) (Tr.need ([V.ptr 1 0 0, Uv t] = [V.ptr 1 0 0, Uv t] ∧ HI c km b2 b3 b4 b5 b7 b8 t [] = Wk c km [b2, b3, b4, b5, Wc, b7, b8, Yb, some y1_, Cb] ∧ faultM c = (0 : Int) ∧ List.length (Tru.sold t) = List.length y7_ ∧ List.length (Tru.deliv t) = List.length y7_ ∧ kmOk c km) (Tr.br (!fitsB c t) (Tr.done (V.d (D.bool true)) y2_) (Tr.clB false (V.yl 7) [Uv t] y2_ fun b h' => Tr.done (V.d (D.bool b)) h'))) (Tr.need ((0 : Int) ≤ Int.ofNat i ∧ Int.ofNat i < Int.ofNat (List.length y7_) ∧ okEl [0, 0, 0, 0, 0, 0, 0] y3_ 7 (Int.ofNat i)) (Tr.lp (CCode.at c112 [1, 1, 1, 1, 0, 1, 0, 0]) [Fr.blk 0, Fr.seq (CCode.at c112 [1, 1, 1, 1, 1])] [(0, V.d (D.int .i64 (Int.ofNat i))), (2, V.ptr 10 0 0), (4, V.ptr 11 0 0), (7, V.ptr 12 0 0), (8, V.d y6_), (9, V.d y5_), (10, V.d y8_)] [some (Blk.map (List.map entE km)), some y0_, b2, b3, b4, b5, some (Blk.box [V.ptr 1 0 0]), b7, b8, some (Blk.box [V.yl 7]), some y1_, some y4_, some (Blk.box [V.d (D.int .i64 (cI y3_ 7 (Int.ofNat i) 0)), V.d (D.int .i64 (cI y3_ 7 (Int.ofNat i) 1)), V.d (D.int .i64 (cI y3_ 7 (Int.ofNat i) 2)), V.d y8_, V.d (D.int .i64 (cI y3_ 7 (Int.ofNat i) 4)), V.d (D.int .i64 (cI y3_ 7 (Int.ofNat i) 5)), V.d (D.int .i64 (cI y3_ 7 (Int.ofNat i) 6))])])) := by kernel_rfl
def XY : Sx := { sp := spNil, md := fun t => bif Nat.beq t 82 then 1 else 0, sh := shI }
theorem XY_ok : SpOk Try.prog XY.sp := spNil_ok _
def Xb (x : Trd) : Option Blk := some (.box [vi x.seller, vi x.buyer, vi x.shares, vi x.sold.lo, vi x.sold.hi, vi x.deliv.lo, vi x.deliv.hi])
def E112 (i : Nat) (u : Tru) (s : Int) : Env := [(0, vi i), (2, .ptr 10 0 0), (4, .ptr 11 0 0), (7, .ptr 12 0 0), (8, .d (.sl false u.sold.length (enc eI u.sold))), (9, .d (.sl false u.deliv.length (enc eI u.deliv))), (10, vi s)]
theorem b112 (c : Cmp) (km : List (Int × Int × Int)) (b2 b3 b4 b5 b7 b8 : Option Blk) (u t : Tru) (x : Trd) (i : Nat) (s : Int) : sx XY (CCode.at c112 [1,1,1,1,0,1,0,0]) [] leafK (E112 i u s) [] (HI c km b2 b3 b4 b5 b7 b8 t [Xb x]) =
  let x1_ := (decide (s ≤ Rng.hi (Trd.sold x)))
  let x2_ := [some (Blk.map (List.map entE km)), some (Blk.box [V.d (D.int .i64 (Cmp.houses c)), V.d (D.sl false (List.length (Cmp.held c)) (enc eI (Cmp.held c))), V.d (D.sl false (List.length (Cmp.trades c)) (enc eT (Cmp.trades c))), V.d (D.sl false (List.length (Cmp.divs c)) (enc eV (Cmp.divs c))), V.d (D.sl false (List.length (Cmp.splits c)) (enc eS (Cmp.splits c))), V.d (D.sl false (List.length (Cmp.closed c)) (enc eR (Cmp.closed c))), V.mp 0]), b2, b3, b4, b5, some (Blk.box [V.ptr 1 0 0]), b7, b8, some (Blk.box [V.yl 7]), some (Blk.box [V.d (D.sl false (List.length (Tru.sold t)) (enc eI (Tru.sold t))), V.d (D.sl false (List.length (Tru.deliv t)) (enc eI (Tru.deliv t)))]), some (Blk.box [V.fn (Fn.func 112) [] [V.ptr 6 0 0, V.ptr 10 0 0, V.ptr 9 0 0, V.ptr 11 0 0]]), some (Blk.box [V.d (D.int .i64 (Trd.seller x)), V.d (D.int .i64 (Trd.buyer x)), V.d (D.int .i64 (Trd.shares x)), V.d (D.int .i64 (Rng.lo (Trd.sold x))), V.d (D.int .i64 (Rng.hi (Trd.sold x))), V.d (D.int .i64 (Rng.lo (Trd.deliv x))), V.d (D.int .i64 (Rng.hi (Trd.deliv x)))])]
  let y0_ := (9, V.d (D.sl false (List.length (Tru.deliv u)) (enc eI (Tru.deliv u))))
  let y1_ := (8, V.d (D.sl false (List.length (Tru.sold u)) (enc eI (Tru.sold u))))
  let y2_ := (0, V.d (D.int .i64 (Int.ofNat i)))
  Tr.br x1_ (Tr.lp (CCode.at c112 [1, 1, 1, 1, 0, 1, 0, 0, 1, 0, 0, 1, 0, 0]) [Fr.blk 2, Fr.blk 1, Fr.seq (CCode.at c112 [1, 1, 1, 1, 0, 1, 0, 0, 1, 1])] [y2_, (2, V.ptr 10 0 0), (4, V.ptr 11 0 0), (7, V.ptr 12 0 0), y1_, y0_, (10, V.d (D.int .i64 s)), (11, V.d (D.int .i64 (max2 s (Rng.lo (Trd.deliv x)))))] x2_) (Tr.leaf (CExit.exit 0) [y2_, (2, V.ptr 10 0 0), (4, V.ptr 11 0 0), (7, V.ptr 12 0 0), y1_, y0_, (10, V.d (D.int .i64 s)), (48, V.d (D.bool x1_))] x2_) := by kernel_rfl
theorem b112i (c : Cmp) (km : List (Int × Int × Int)) (b2 b3 b4 b5 b7 b8 : Option Blk) (u t : Tru) (x : Trd) (i : Nat) (s d : Int) : sx XY (CCode.at c112 [1,1,1,1,0,1,0,0,1,0,0,1,0,0]) [] leafK (E112 i u s ++ [(11, vi d)]) [] (HI c km b2 b3 b4 b5 b7 b8 t [Xb x]) =
  let y0_ := (Blk.box [V.d (D.int .i64 (Cmp.houses c)), V.d (D.sl false (List.length (Cmp.held c)) (enc eI (Cmp.held c))), V.d (D.sl false (List.length (Cmp.trades c)) (enc eT (Cmp.trades c))), V.d (D.sl false (List.length (Cmp.divs c)) (enc eV (Cmp.divs c))), V.d (D.sl false (List.length (Cmp.splits c)) (enc eS (Cmp.splits c))), V.d (D.sl false (List.length (Cmp.closed c)) (enc eR (Cmp.closed c))), V.mp 0])
  let y1_ := (Blk.box [V.d (D.int .i64 (Trd.seller x)), V.d (D.int .i64 (Trd.buyer x)), V.d (D.int .i64 (Trd.shares x)), V.d (D.int .i64 (Rng.lo (Trd.sold x))), V.d (D.int .i64 (Rng.hi (Trd.sold x))), V.d (D.int .i64 (Rng.lo (Trd.deliv x))), V.d (D.int .i64 (Rng.hi (Trd.deliv x)))])
  let y2_ := (Int.toNat (Int.ofNat i) - Int.toNat (0 : Int))
  let y3_ := (Int.toNat (Int.ofNat i) - Int.toNat (0 : Int) + 1)
  let y4_ := [V.ptr 6 0 0, V.ptr 10 0 0, V.ptr 9 0 0, V.ptr 11 0 0]
  let y5_ := (enc eI (Tru.deliv u))
  let y6_ := (enc eI (Tru.sold u))
  let y7_ := (Int.toNat (0 : Int) * 1)
  let y8_ := (9, V.d (D.sl false (List.length (Tru.deliv u)) y5_))
  let y9_ := (8, V.d (D.sl false (List.length (Tru.sold u)) y6_))
  let y10_ := (decide (d ≤ Rng.hi (Trd.deliv x)))
  let y11_ := (Blk.box [V.fn (Fn.func 112) [] y4_])
  Tr.br y10_ (Tr.need (DP.P (dp (List.length y6_ = List.length (Tru.sold u) * 1 ∧ (0 : Int) ≤ (0 : Int) ∧ (0 : Int) ≤ Int.ofNat i ∧ Int.ofNat i = Int.ofNat i ∧ Int.ofNat i ≤ Int.ofNat (List.length (Tru.sold u)) ∧ Option.isSome (some (Operand.tmp (64 : Tmp))) = true))) (Tr.need (DP.P (dp (List.length [D.int .i64 s] = 1 * 1 ∧ true = true ∧ List.length (List.take (y2_ * 1) (List.drop y7_ y6_)) = y2_ * 1 ∧ Int.toNat (Int.ofNat i) - Int.toNat (0 : Int) + 1 ≤ 140737488355328 ∧ y3_ * 8 ≤ 140737488355328))) (Tr.need (DP.P (dp (List.length y5_ = List.length (Tru.deliv u) * 1 ∧ (0 : Int) ≤ (0 : Int) ∧ (0 : Int) ≤ Int.ofNat i ∧ Int.ofNat i = Int.ofNat i ∧ Int.ofNat i ≤ Int.ofNat (List.length (Tru.deliv u)) ∧ Option.isSome (some (Operand.tmp (71 : Tmp))) = true))) (Tr.need (DP.P (dp (List.length [D.int .i64 d] = 1 * 1 ∧ true = true ∧ List.length (List.take (y2_ * 1) (List.drop y7_ y5_)) = y2_ * 1 ∧ Int.toNat (Int.ofNat i) - Int.toNat (0 : Int) + 1 ≤ 140737488355328 ∧ y3_ * 8 ≤ 140737488355328))) (Tr.need (-9223372036854775808 ≤ Int.ofNat i + (1 : Int) ∧ Int.ofNat i + (1 : Int) ≤ 9223372036854775807) (Tr.clB false (V.fn (Fn.func 112) [] y4_) [V.d (D.int .i64 (Int.ofNat i + (1 : Int)))] [some (Blk.map (List.map entE km)), some y0_, b2, b3, b4, b5, some (Blk.box [V.ptr 1 0 0]), b7, b8, some (Blk.box [V.yl 7]), some (Blk.box [V.d (D.sl false y3_ (List.take (y2_ * 1) (List.drop y7_ y6_) ++ [D.int .i64 s])), V.d (D.sl false y3_ (List.take (y2_ * 1) (List.drop y7_ y5_) ++ [D.int .i64 d]))]), some y11_, some y1_] fun b h' => Tr.br (!b) (Tr.leaf CExit.ret [(6, V.d (D.bool false))] h') (Tr.need (-9223372036854775808 ≤ d + (1 : Int) ∧ d + (1 : Int) ≤ 9223372036854775807) (Tr.leaf CExit.normal [(0, V.d (D.int .i64 (Int.ofNat i))), (2, V.ptr 10 0 0), (4, V.ptr 11 0 0), (7, V.ptr 12 0 0), y9_, y8_, (10, V.d (D.int .i64 s)), (11, V.d (D.int .i64 (d + (1 : Int))))] h')))))))) (Tr.leaf (CExit.exit 2) [(0, V.d (D.int .i64 (Int.ofNat i))), (2, V.ptr 10 0 0), (4, V.ptr 11 0 0), (7, V.ptr 12 0 0), y9_, y8_, (10, V.d (D.int .i64 s)), (11, V.d (D.int .i64 d)), (60, V.d (D.bool y10_))] [some (Blk.map (List.map entE km)), some y0_, b2, b3, b4, b5, some (Blk.box [V.ptr 1 0 0]), b7, b8, some (Blk.box [V.yl 7]), some (Blk.box [V.d (D.sl false (List.length (Tru.sold t)) (enc eI (Tru.sold t))), V.d (D.sl false (List.length (Tru.deliv t)) (enc eI (Tru.deliv t)))]), some y11_, some y1_]) := by kernel_rfl
theorem x112 (i : Nat) (u v w : V) (a b d : V) (s : Int) (z : Bool) (h : Heap) : sS XY (doneK r112) [Fr.blk 0, Fr.seq (CCode.at c112 [1,1,1,1,1])] (.exit 0) [(0, a), (2, b), (4, d), (7, u), (8, v), (9, w), (10, vi s), (48, vb z)] [] h =
  Tr.done (V.d (D.bool true)) h := by kernel_rfl
theorem x112i (i : Nat) (u : Tru) (s d : Int) (z : Bool) (h : Heap) : sS XY leafK [Fr.blk 2, Fr.blk 1, Fr.seq (CCode.at c112 [1,1,1,1,0,1,0,0,1,1])] (.exit 2) (E112 i u s ++ [(11, vi d), (60, vb z)]) [] h =
  Tr.need (-9223372036854775808 ≤ s + (1 : Int) ∧ s + (1 : Int) ≤ 9223372036854775807) (Tr.leaf CExit.normal [(0, V.d (D.int .i64 (Int.ofNat i))), (2, V.ptr 10 0 0), (4, V.ptr 11 0 0), (7, V.ptr 12 0 0), (8, V.d (D.sl false (List.length (Tru.sold u)) (enc eI (Tru.sold u)))), (9, V.d (D.sl false (List.length (Tru.deliv u)) (enc eI (Tru.deliv u)))), (10, V.d (D.int .i64 (s + (1 : Int))))] h) := by kernel_rfl
theorem t112 (b : Bool) (h : Heap) : sS XY (doneK r112) [Fr.blk 0, Fr.seq (CCode.at c112 [1,1,1,1,1])] .ret [(6, vb b)] [] h =
  Tr.done (V.d (D.bool b)) h := by kernel_rfl
end
end Go.Proofs.Ytdnefcjbcieecaa
namespace Go.Proofs.Ytdnefcjbcieecaa
open Go Go.Proofs
noncomputable section
def Tru.snoc (t : Tru) (s d : Int) : Tru := ⟨t.sold ++ [s], t.deliv ++ [d]⟩
def upto (a b : Int) : List Int := (List.range (b + 1 - a).toNat).map fun k => a + (k : Nat)
theorem upto_nil {a b : Int} (h : ¬ a ≤ b) : upto a b = [] := by
 have : (b + 1 - a).toNat = 0 := by omega
 simp [upto, this]
theorem upto_cons {a b : Int} (h : a ≤ b) : upto a b = a :: upto (a + 1) b := by
 have e : (b + 1 - a).toNat = (b + 1 - (a + 1)).toNat + 1 := by omega
 unfold upto
 rw [e, List.range_succ_eq_map, List.map_cons, List.map_map]
 congr 1
 ·simp
 ·refine List.map_congr_left fun k _ => ?_
  show a + ((k + 1 : Nat) : Int) = a + 1 + (k : Nat)
  omega
def comp (c : Cmp) : List Trd → Tru → List Tru
 | [], t => [t]
 | x :: xs, t => (upto x.sold.lo x.sold.hi).flatMap fun s => (upto (max2 s x.deliv.lo) x.deliv.hi).flatMap fun d => comp c xs (t.snoc s d)
section
variable {S : Type} (step : Tru → S → Bool × S)
def runY : List Tru → S → Bool × S
 | [], s => (true, s)
 | t :: l, s => if (step t s).1 = true then runY l (step t s).2 else (false, (step t s).2)
theorem runY_append (a b : List Tru) (s : S) : runY step (a ++ b) s = if (runY step a s).1 = true then runY step b (runY step a s).2 else (false, (runY step a s).2) := by
 induction a generalizing s with
 | nil => simp [runY]
 | cons t a ih =>
  simp only [List.cons_append, runY]
  split
  ·exact ih _
  ·simp
end
theorem snoc_lat {l : List Int} {x : Int} {k : Nat} (h : k < l.length) : lat (l ++ [x]) (k : Nat) = lat l (k : Nat) := by
 have h2 : k < (l ++ [x]).length := by simp; omega
 simp [lat, List.getD, h, List.getElem?_append_left]
theorem snoc_last {l : List Int} {x : Int} {k : Nat} (h : k = l.length) : lat (l ++ [x]) (k : Nat) = x := by
 subst h
 simp [lat, List.getD]
theorem datK_snoc {c : Cmp} {t : Tru} {s d : Int} {i : Nat} (hs : t.sold.length = i) (hd : t.deliv.length = i) (h : ∀ k, k < i → datK c t k = true) (h1 : (lat c.trades (i : Nat)).sold.has s = true) (h2 : (lat c.trades (i : Nat)).deliv.has d = true) (h3 : s ≤ d) :
  ∀ k, k < i + 1 → datK c (t.snoc s d) k = true := by
 intro k hk
 rcases Nat.lt_or_ge k i with g | g
 ·have := h k g
  unfold datK at this ⊢
  have e1 : lat (t.snoc s d).sold (k : Nat) = lat t.sold (k : Nat) := snoc_lat (by omega)
  have e2 : lat (t.snoc s d).deliv (k : Nat) = lat t.deliv (k : Nat) := snoc_lat (by omega)
  rw [e1, e2]; exact this
 ·have e : k = i := by omega
  subst e
  have e1 : lat (t.snoc s d).sold (k : Nat) = s := snoc_last hs.symm
  have e2 : lat (t.snoc s d).deliv (k : Nat) = d := snoc_last hd.symm
  unfold datK
  rw [e1, e2, h1, h2]
  simpa using h3
structure Cons (S : Type) where
 c : Cmp
 step : Tru → S → Bool × S
 A : S → Prop
 b2 : S → Option Blk
 b3 : S → Option Blk
 b4 : S → Option Blk
 b5 : S → Option Blk
 b7 : S → Option Blk
 b8 : S → Option Blk
 kmY : Tru → List (Int × Int × Int) → List (Int × Int × Int)
def Cons.H {S : Type} (K : Cons S) (km : List (Int × Int × Int)) (s : S) (t : Tru) (rest : Heap) : Heap := HI K.c km (K.b2 s) (K.b3 s) (K.b4 s) (K.b5 s) (K.b7 s) (K.b8 s) t rest
def Cons.P {S : Type} (K : Cons S) (r : Bool × List (Int × Int × Int) × S) (v : V) (h : Heap) : Prop := v = vb r.1 ∧ K.A r.2.2 ∧ kmOk K.c r.2.1 ∧ ∃ t J, h = K.H r.2.1 r.2.2 t J
def Cons.stepZ {S : Type} (K : Cons S) (t : Tru) (s : List (Int × Int × Int) × S) : Bool × List (Int × Int × Int) × S :=
 if fitsB K.c t = true then ((K.step t s.2).1, K.kmY t (kmF K.c t s.1 (kEnd K.c t)), (K.step t s.2).2) else (true, kmF K.c t s.1 (kEnd K.c t), s.2)
structure Cons.Ok {S : Type} (K : Cons S) : Prop where
 fault : faultM K.c = 0
 bel : ∀ s, K.A s → [K.b2 s, K.b3 s, K.b4 s, K.b5 s, K.b7 s, K.b8 s].all (blkBel 12) = true
 yl : ∀ t s km, K.A s → kmOk K.c km → datedB K.c t = true → fitsB K.c t = true → AYield Try.prog 7 [Uv t] (K.H km s t []) (K.P ((K.step t s).1, K.kmY t km, (K.step t s).2))
theorem mono0 {n m : Nat} (h : n ≤ m) {v : V} (hv : bel0 n v = true) : bel0 m v = true := by
 cases v <;> simp_all [bel0] <;> omega
theorem monoA {n m : Nat} (h : n ≤ m) {v : V} (hv : belA n v = true) : belA m v = true := by
 cases v <;> simp only [belA, List.all_eq_true] at hv ⊢ <;> first
  | exact fun x hx => mono0 h (hv x hx)
  | exact mono0 h hv
theorem mono1 {n m : Nat} (h : n ≤ m) {v : V} (hv : bel1 n v = true) : bel1 m v = true := by
 cases v <;> simp only [bel1, List.all_eq_true] at hv ⊢ <;> first
  | exact fun x hx => mono0 h (hv x hx)
  | exact mono0 h hv
  | (simp only [Bool.and_eq_true, List.all_eq_true] at hv ⊢; exact ⟨fun x hx => monoA h (hv.1 x hx), fun x hx => monoA h (hv.2 x hx)⟩)
theorem mono2 {n m : Nat} (h : n ≤ m) {v : V} (hv : bel2 n v = true) : bel2 m v = true := by
 cases v <;> simp only [bel2, List.all_eq_true] at hv ⊢ <;> first
  | exact fun x hx => mono1 h (hv x hx)
  | exact mono1 h hv
theorem blk_mono {n m : Nat} (h : n ≤ m) {b : Option Blk} (hv : blkBel n b = true) : blkBel m b = true := by
 cases b with
 | none => rfl
 | some b => cases b <;> simp only [blkBel, List.all_eq_true] at hv ⊢ <;> first
  | exact fun x hx => mono1 h (hv x hx)
  | exact fun x hx => mono2 h (hv x hx)
  | (intro x hx; have := hv x hx; simp only [Bool.and_eq_true] at this ⊢; exact ⟨mono1 h this.1, mono1 h this.2⟩)
section
variable {S : Type} {K : Cons S} (hK : K.Ok)
include hK
theorem Cons.H_bel {s : S} (hA : K.A s) (km : List (Int × Int × Int)) (t : Tru) {n : Nat} (rest : Heap) (hn : 12 ≤ n) (hr : rest.all (blkBel n) = true) : (K.H km s t rest).all (blkBel n) = true := by
 have hb := hK.bel s hA
 simp only [List.all_cons, List.all_nil, Bool.and_true, Bool.and_eq_true] at hb
 obtain ⟨h2, h3, h4, h5, h7, h8⟩ := hb
 refine Wk_belr _ _ _ n (by omega) ?_
 have e : ∀ k, k < 12 → Nat.blt k n = true := fun k hk => by rw [Nat.blt_eq]; omega
 simp only [List.all_cons, blk_mono hn h2, blk_mono hn h3, blk_mono hn h4, blk_mono hn h5, blk_mono hn h7, blk_mono hn h8, hr, Bool.and_true, Bool.true_and]
 simp [Wc, Yb, Cb, blkBel, bel1, belA, bel0, e]
theorem Cons.more {km : List (Int × Int × Int)} {s : S} {t : Tru} {args : List V} {r : Bool × List (Int × Int × Int) × S} (hA : K.A s) (ha : args.all (bel2 12) = true) (hc : ACalls Try.prog 112 args (K.H km s t []) (K.P r)) (rest : Heap) :
  ACalls Try.prog 112 args (K.H km s t rest) fun v h => v = vb r.1 ∧ K.A r.2.2 ∧ kmOk K.c r.2.1 ∧ ∃ t, h = K.H r.2.1 r.2.2 t rest := by
 have h2 := ACalls.more (h0 := K.H km s t []) (R := fun v k => v = vb r.1 ∧ K.A r.2.2 ∧ kmOk K.c r.2.1 ∧ ∃ t, k = K.H r.2.1 r.2.2 t []) ha (Cons.H_bel hK hA km t [] (Nat.le_refl _) rfl) (hc.mono fun v h1 hh => by
  obtain ⟨rfl, hA', hkm, t', J, rfl⟩ := hh
  have e : (K.H r.2.1 r.2.2 t' J).take (K.H km s t []).length = K.H r.2.1 r.2.2 t' [] := rfl
  rw [e]
  exact ⟨rfl, Cons.H_bel hK hA' _ t' [] (Nat.le_refl _) rfl, rfl, hA', hkm, t', rfl⟩) rest
 refine h2.mono fun v h1 hh => ?_
 obtain ⟨k, _, ⟨e1, hA', hkm, t', e2⟩, e3⟩ := hh
 refine ⟨e1, hA', hkm, t', ?_⟩
 rw [e3, e2]; rfl
theorem a112 : ∀ (k i : Nat) (t : Tru) (s : S) (km : List (Int × Int × Int)), i + k = K.c.trades.length → t.sold.length = i → t.deliv.length = i → (∀ j, j < i → datK K.c t j = true) → K.A s → kmOk K.c km →
  ACalls Try.prog 112 [vi i, .ptr 6 0 0, .ptr 10 0 0, .ptr 9 0 0, .ptr 11 0 0] (K.H km s t []) (K.P (runY K.stepZ (comp K.c (K.c.trades.drop i) t) (km, s))) := by
 have hf := hK.fault
 have hbs := (fault_ok hf).1
 intro k
 induction k with
 | zero =>
  intro i t s km hi hs hd hdat hA hkm
  refine q112.calls (X112_ok K.c km t (K.b2 s :: K.b3 s :: K.b4 s :: K.b5 s :: Wc :: K.b7 s :: K.b8 s :: Yb :: some (.box [.d (.sl false t.sold.length (enc eI t.sold)), .d (.sl false t.deliv.length (enc eI t.deliv))]) :: Cb :: [])) rfl (w112 K.c km _ _ _ _ _ _ t i) ?_
  simp only [holds, Int.ofNat_eq_natCast]
  have hdr : K.c.trades.drop i = [] := List.drop_eq_nil_of_le (by omega)
  rw [hdr]
  simp only [comp]
  refine ⟨fun _ => ⟨⟨trivial, rfl, hf, by omega, by omega, hkm⟩, fun h => ?_, fun h => ?_⟩, fun h => ?_⟩
  ·have h : fitsB K.c t = false := by simpa using h
   have ez : runY K.stepZ [t] (km, s) = (true, kmF K.c t km (kEnd K.c t), s) := by simp [runY, Cons.stepZ, h]
   rw [ez]
   exact ⟨rfl, hA, kmF_ok hkm t _, t, [], rfl⟩
  ·have h : fitsB K.c t = true := by simpa using h
   have ez : runY K.stepZ [t] (km, s) = ((K.step t s).1, K.kmY t (kmF K.c t km (kEnd K.c t)), (K.step t s).2) := by
    simp only [runY, Cons.stepZ, h, if_true]
    cases hb : (K.step t s).1 <;> simp
   rw [ez]
   have hy := hK.yl t s (kmF K.c t km (kEnd K.c t)) hA (kmF_ok hkm t _) (decide_eq_true ⟨by omega, by omega, fun j hj => hdat j (by omega)⟩) h
   refine callV_holds (K := K.P ((K.step t s).1, K.kmY t (kmF K.c t km (kEnd K.c t)), (K.step t s).2)) ?_ hy
   rintro v h' ⟨rfl, hh⟩
   exact ⟨(K.step t s).1, rfl, fun e => (by cases e), rfl, hh⟩
  ·have : (i : Int) ≠ K.c.trades.length := by simpa using h
   omega
 | succ k ih =>
  intro i t s km hi hs hd hdat hA hkm
  have hlt : i < K.c.trades.length := by omega
  have htr := trade_in hf hlt
  have hdr : K.c.trades.drop i = lat K.c.trades (i : Nat) :: K.c.trades.drop (i + 1) := by
   rw [List.drop_eq_getElem_cons hlt]
   congr 1
   simp [lat, List.getD, hlt]
  generalize hx : lat K.c.trades (i : Nat) = x at *
  have hb1 : 0 ≤ x.sold.lo ∧ x.sold.hi ≤ 11 ∧ 0 ≤ x.deliv.lo ∧ x.deliv.hi ≤ 11 := by
   simp only [okTr, Bool.and_eq_true, Rng.short, Rng.days, Rng.has, inR, isDay, decide_eq_true_eq] at htr
   omega
  refine q112.calls (X112_ok K.c km t (K.b2 s :: K.b3 s :: K.b4 s :: K.b5 s :: Wc :: K.b7 s :: K.b8 s :: Yb :: some (.box [.d (.sl false t.sold.length (enc eI t.sold)), .d (.sl false t.deliv.length (enc eI t.deliv))]) :: Cb :: [])) rfl (w112 K.c km _ _ _ _ _ _ t i) ?_
  simp only [holds, Int.ofNat_eq_natCast, cI_T0, cI_T1, cI_T2, cI_T3, cI_T4, cI_T5, cI_T6, hx]
  refine ⟨fun h => ?_, fun _ => ⟨⟨by omega, by omega, ok_T (by omega)⟩, ?_⟩⟩
  ·have : (i : Int) = K.c.trades.length := by simpa using h
   omega
  rw [hdr]
  simp only [comp]
  generalize hF : (fun sd => (upto (max2 sd x.deliv.lo) x.deliv.hi).flatMap fun d => comp K.c (K.c.trades.drop (i + 1)) (t.snoc sd d)) = F
  generalize htot : runY K.stepZ ((upto x.sold.lo x.sold.hi).flatMap F) (km, s) = tot
  refine lp_state (S := Int × List (Int × Int × Int) × Tru × S) XY_ok (fun σ => (x.sold.hi + 1 - σ.1).toNat) (fun σ => x.sold.lo ≤ σ.1 ∧ kmOk K.c σ.2.1 ∧ K.A σ.2.2.2 ∧ runY K.stepZ ((upto σ.1 x.sold.hi).flatMap F) (σ.2.1, σ.2.2.2) = tot)
   (fun σ => E112 i t σ.1) (fun σ => K.H σ.2.1 σ.2.2.2 σ.2.2.1 [Xb x]) (x.sold.lo, km, t, s) rfl rfl ⟨Int.le_refl _, hkm, hA, htot⟩ (fun σ hσ => ⟨rfl, rfl, Cons.H_bel hK hσ.2.2.1 _ _ _ (show 12 ≤ 13 by decide) rfl⟩) ?_
  rintro ⟨sd, km1, t1, s1⟩ ⟨hlo, hkm1, hA1, hr1⟩ Q' hn he hr
  simp only at hlo hkm1 hA1 hr1
  show holds _ _ _ _ _ (sx XY _ [] leafK (E112 i t sd) [] (HI K.c km1 (K.b2 s1) (K.b3 s1) (K.b4 s1) (K.b5 s1) (K.b7 s1) (K.b8 s1) t1 [Xb x]))
  rw [b112]
  simp only [holds]
  refine ⟨fun e1 => ?_, fun e1 => ?_⟩
  ·have e1 := of_decide_eq_true e1
   rw [upto_cons e1, List.flatMap_cons, runY_append] at hr1
   have hFs : F sd = (upto (max2 sd x.deliv.lo) x.deliv.hi).flatMap fun d => comp K.c (K.c.trades.drop (i + 1)) (t.snoc sd d) := by rw [← hF]
   rw [hFs] at hr1
   generalize htin : runY K.stepZ ((upto (max2 sd x.deliv.lo) x.deliv.hi).flatMap fun d => comp K.c (K.c.trades.drop (i + 1)) (t.snoc sd d)) (km1, s1) = tin at hr1
   refine lp_state (S := Int × List (Int × Int × Int) × Tru × S) XY_ok (fun σ => (x.deliv.hi + 1 - σ.1).toNat) (fun σ => max2 sd x.deliv.lo ≤ σ.1 ∧ kmOk K.c σ.2.1 ∧ K.A σ.2.2.2 ∧ runY K.stepZ ((upto σ.1 x.deliv.hi).flatMap fun d => comp K.c (K.c.trades.drop (i + 1)) (t.snoc sd d)) (σ.2.1, σ.2.2.2) = tin)
    (fun σ => E112 i t sd ++ [(11, vi σ.1)]) (fun σ => K.H σ.2.1 σ.2.2.2 σ.2.2.1 [Xb x]) (max2 sd x.deliv.lo, km1, t1, s1) rfl rfl ⟨Int.le_refl _, hkm1, hA1, htin⟩ (fun σ hσ => ⟨rfl, rfl, Cons.H_bel hK hσ.2.2.1 _ _ _ (show 12 ≤ 13 by decide) rfl⟩) ?_
   rintro ⟨d, km2, t2, s2⟩ ⟨hlo2, hkm2, hA2, hr2⟩ Q'' hn2 he2 hrr2
   simp only at hlo2 hkm2 hA2 hr2
   show holds _ _ _ _ _ (sx XY _ [] leafK (E112 i t sd ++ [(11, vi d)]) [] (HI K.c km2 (K.b2 s2) (K.b3 s2) (K.b4 s2) (K.b5 s2) (K.b7 s2) (K.b8 s2) t2 [Xb x]))
   rw [b112i]
   simp only [holds]
   have hmx : sd ≤ max2 sd x.deliv.lo ∧ x.deliv.lo ≤ max2 sd x.deliv.lo := by unfold max2; split <;> omega
   refine ⟨fun e2 => ?_, fun e2 => ?_⟩
   ·have e2 := of_decide_eq_true e2
    rw [upto_cons e2, List.flatMap_cons, runY_append] at hr2
    have l1 : (enc eI t.sold).take i = enc eI t.sold := List.take_of_length_le (by simp; omega)
    have l2 : (enc eI t.deliv).take i = enc eI t.deliv := List.take_of_length_le (by simp; omega)
    have hsn : (t.snoc sd d).sold.length = i + 1 ∧ (t.snoc sd d).deliv.length = i + 1 := by simp [Tru.snoc, hs, hd]
    have hc := ih (i + 1) (t.snoc sd d) s2 km2 (by omega) hsn.1 hsn.2 (datK_snoc hs hd hdat (by rw [hx]; simp [Rng.has, inR]; omega) (by rw [hx]; simp [Rng.has, inR]; omega) (by omega)) hA2 hkm2
    have hc2 := Cons.more hK hA2 rfl hc [Xb x]
    generalize hrr : runY K.stepZ (comp K.c (K.c.trades.drop (i + 1)) (t.snoc sd d)) (km2, s2) = r at hc2 hr2
    simp only [dp, Int.ofNat_eq_natCast, Int.toNat_natCast, Int.toNat_zero, Nat.sub_zero, Nat.zero_mul, List.drop_zero, Nat.mul_one, l1, l2, len_I, hs, hd, true_and, Int.le_refl, Option.isSome_some, List.length_cons, List.length_nil, Nat.zero_add, and_true]
    have q1 : enc eI (t.snoc sd d).sold = enc eI t.sold ++ [D.int .i64 sd] := by simp only [Tru.snoc, enc_append, enc_one]; rfl
    have q2 : enc eI (t.snoc sd d).deliv = enc eI t.deliv ++ [D.int .i64 d] := by simp only [Tru.snoc, enc_append, enc_one]; rfl
    have eH : K.H km2 s2 (t.snoc sd d) [Xb x] = Wk K.c km2 (K.b2 s2 :: K.b3 s2 :: K.b4 s2 :: K.b5 s2 :: Wc :: K.b7 s2 :: K.b8 s2 :: Yb :: some (.box [.d (.sl false (i + 1) (enc eI t.sold ++ [D.int .i64 sd])), .d (.sl false (i + 1) (enc eI t.deliv ++ [D.int .i64 d]))]) :: Cb :: [Xb x]) := by
     simp only [Cons.H, HI, hsn.1, hsn.2, q1, q2]
    rw [eH] at hc2
    have e3 : ((i + 1 : Nat) : Int) = (i : Int) + 1 := by omega
    rw [e3] at hc2
    refine ⟨by omega, ⟨by omega, by omega⟩, by omega, ⟨by omega, by omega⟩, ⟨by omega, by omega⟩, ?_⟩
    refine callV_holds (K := fun v h => v = vb r.1 ∧ K.A r.2.2 ∧ kmOk K.c r.2.1 ∧ ∃ t, h = K.H r.2.1 r.2.2 t [Xb x]) ?_ hc2
    rintro v h' ⟨rfl, hA', hkm', t', rfl⟩
    refine ⟨r.1, rfl, fun e => (by cases e), fun hb => ?_, fun hb => ⟨⟨by omega, by omega⟩, ?_⟩⟩
    ·have hb : r.1 = false := by simpa using hb
     refine hrr2 _ _ (retS_ret (hr _ _ (ret_tree XY_ok (doneK_ok rfl) (t112 false _) ?_)))
     simp only [holds]
     rw [hb] at hr2
     have htn : tin = (false, r.2) := by rw [← hr2]; simp
     rw [htn] at hr1
     have htt : tot = (false, r.2) := by rw [← hr1]; simp
     rw [htt]
     exact ⟨rfl, hA', hkm', t', [Xb x], rfl⟩
    ·have hb : r.1 = true := by simpa using hb
     rw [hb] at hr2
     have := hn2 (d + 1, r.2.1, t', r.2.2) [] ⟨by simp only; omega, hkm', hA', by simpa using hr2⟩ (by simp only; omega)
     simp only [E112, hs, hd] at this
     exact this
   ·have e2 := of_decide_eq_false e2
    rw [upto_nil e2] at hr2
    refine he2 _ _ _ (ret_tree (R := fun _ _ => True) XY_ok leafK_ok (x112i i t sd d _ _) ?_)
    simp only [holds]
    refine ⟨⟨by omega, by omega⟩, hn (sd + 1, km2, t2, s2) [] ⟨by simp only; omega, hkm2, hA2, ?_⟩ (by simp only; omega)⟩
    have : tin = (true, km2, s2) := by rw [← hr2]; rfl
    rw [this] at hr1
    simpa using hr1
  ·have e1 := of_decide_eq_false e1
   rw [upto_nil e1] at hr1
   refine he _ _ _ (ret_tree XY_ok (doneK_ok rfl) (x112 i _ _ _ _ _ _ _ _ _) ?_)
   simp only [holds]
   have : tot = (true, km1, s1) := by rw [← hr1]; rfl
   rw [this]
   exact ⟨rfl, hA1, hkm1, t1, [Xb x], rfl⟩
end
end
end Go.Proofs.Ytdnefcjbcieecaa
namespace Go.Proofs.Ytdnefcjbcieecaa
open Go Go.Proofs
def r8 : List CRes := [.tmp 10]
theorem e8 : compRes Try.prog Try.f8.results.toList = some r8 := by kernel_rfl
def r9 : List CRes := [.tmp 12]
theorem e9 : compRes Try.prog Try.f9.results.toList = some r9 := by kernel_rfl
end Go.Proofs.Ytdnefcjbcieecaa
namespace Go.Proofs.Ytdnefcjbcieecaa
open Go Go.Proofs
noncomputable section
def eW (n : Int) : List D := [.int .u16 n]
@[simp] theorem len_W (l : List Int) : (enc eW l).length = l.length * 1 := enc_len (sz := 1) (f := eW) (fun _ => rfl) l
def wordM (ws : List Int) (k : Int) : Int := if ws.length = 0 then 0 else lat ws (k.tmod ws.length)
end
end Go.Proofs.Ytdnefcjbcieecaa
namespace Go.Proofs.Ytdnefcjbcieecaa
open Go Go.Proofs
noncomputable section
theorem StLe.cells {n sz : Nat} {env : Env} {h : Heap} {id : Nat} {cs cs' : List V} (hi : h[id]? = some (some (.box cs))) (hl : VLes cs cs') : StLe n sz env h env (h.set id (some (.box cs'))) := by
 intro M w a hs hn hE
 have hs2 := Sim.reb (M := M) hs (cs' := cs') hi hl.len.symm (fun k x y v hx hy hr => by
  obtain ⟨x', hx', hle⟩ := hl.get k y hy
  rw [hx] at hx'; cases hx'
  exact hle _ _ hr)
 have hlive : ∀ b, liveBlk M (h.set id (some (.box cs'))) b → liveBlk M h b := fun b ⟨j, blk, r, hj, hr, hb⟩ => by
  by_cases hj' : j = id
  ·subst hj'; exact ⟨j, _, r, hi, hr, hb⟩
  ·rw [List.getElem?_set_ne (Ne.symm hj')] at hj; exact ⟨j, blk, r, hj, hr, hb⟩
 exact ⟨M, ⟨fun _ _ _ h => h, ⟨⟨fun _ h => h, fun _ _ h => h, fun _ _ _ _ h => .inl h⟩, rfl⟩, MuLe.refl M, by simp; omega, hs2, rfl, rfl, rfl, Nat.le_refl _, fun _ _ _ => rfl, fun b hb hl => hlive b hl⟩, hE⟩
def splS (d : Int) (w : Int) : Spl := ⟨d, 1 + (w.tdiv 8).tmod 6, 1 + (w.tdiv 64).tmod 4⟩
def splK (ws : List Int) : Nat → Int × List Spl
 | 0 => (-1, [])
 | k + 1 => ((splK ws k).1 + (1 + (wordM ws ((k : Int) + 1)).tmod 6), if (splK ws k).1 + (1 + (wordM ws ((k : Int) + 1)).tmod 6) ≤ 11 then (splK ws k).2 ++ [splS ((splK ws k).1 + (1 + (wordM ws ((k : Int) + 1)).tmod 6)) (wordM ws ((k : Int) + 1))] else (splK ws k).2)
def splN (ws : List Int) : Nat := ((wordM ws 0).tmod 3).toNat
def cloR (w : Int) : Rng := ⟨w.tmod 10, min2 11 (w.tmod 10 + (w.tdiv 16).tmod 4)⟩
def cloK (ws : List Int) (k : Nat) : List Rng := (List.range k).map fun (i : Nat) => cloR (wordM ws ((i : Int) + 3))
def cloN (ws : List Int) : Nat := (((wordM ws 0).tdiv 4).tmod 3).toNat
@[simp] theorem cloK_len (ws : List Int) (k : Nat) : (cloK ws k).length = k := by simp [cloK]
def divD (w : Int) : Dvd := ⟨w.tmod 12, min2 11 (w.tmod 12 + (w.tdiv 16).tmod 5), (w.tdiv 128).tmod 51⟩
def divK (ws : List Int) (k : Nat) : List Dvd := (List.range k).map fun (i : Nat) => divD (wordM ws ((i : Int) + 5))
def divN (ws : List Int) : Nat := (1 + ((wordM ws 0).tdiv 16).tmod 3).toNat
@[simp] theorem divK_len (ws : List Int) (k : Nat) : (divK ws k).length = k := by simp [divK]
def Cmp.more (c : Cmp) (x : Trd) : Cmp := { c with trades := c.trades ++ [x] }
def Tru.more (t : Tru) (s d : Int) : Tru := ⟨t.sold ++ [s], t.deliv ++ [d]⟩
def base (hl ws : List Int) : Cmp := ⟨hl.length, hl, [], divK ws (divN ws), (splK ws (splN ws)).2, cloK ws (cloN ws)⟩
end
end Go.Proofs.Ytdnefcjbcieecaa
namespace Go.Proofs.Ytdnefcjbcieecaa
open Go Go.Proofs
noncomputable section
def X111 : Sx := { sp := spNil, md := fun t => bif Nat.beq t 7 then 1 else 0, sh := shI }
theorem X111_ok : SpOk Try.prog X111.sp := spNil_ok _
def H9 (c : Cmp) (km : List (Int × Int × Int)) (b2 b3 b4 b5 b7 b8 : Option Blk) : Heap := Wk c km [b2, b3, b4, b5, Wc, b7, b8]
theorem w111 (c : Cmp) (km : List (Int × Int × Int)) (b2 b3 b4 b5 b7 b8 : Option Blk) : sx X111 c111 [] (doneK r111) (envOf [.yl 7, .ptr 6 0 0]) [] (H9 c km b2 b3 b4 b5 b7 b8) =
  let y0_ := [V.ptr 6 0 0, V.ptr 10 0 0, V.ptr 9 0 0, V.ptr 11 0 0]
  Tr.clB false (V.fn (Fn.func 112) [] y0_) [V.d (D.int .i64 0)] [some (Blk.map (List.map entE km)), some (Blk.box [V.d (D.int .i64 (Cmp.houses c)), V.d (D.sl false (List.length (Cmp.held c)) (enc eI (Cmp.held c))), V.d (D.sl false (List.length (Cmp.trades c)) (enc eT (Cmp.trades c))), V.d (D.sl false (List.length (Cmp.divs c)) (enc eV (Cmp.divs c))), V.d (D.sl false (List.length (Cmp.splits c)) (enc eS (Cmp.splits c))), V.d (D.sl false (List.length (Cmp.closed c)) (enc eR (Cmp.closed c))), V.mp 0]), b2, b3, b4, b5, some (Blk.box [V.ptr 1 0 0]), b7, b8, some (Blk.box [V.yl 7]), some (Blk.box [V.d D.nils, V.d D.nils]), some (Blk.box [V.fn (Fn.func 112) [] y0_])] fun b h' => Tr.done (V.tup []) h' := by kernel_rfl
theorem w95 (c : Cmp) (km : List (Int × Int × Int)) (b2 b3 b4 b5 : Option Blk) : sx X111 c95 [] (doneK r95) (envOf [.ptr 1 0 0]) [] (Wk c km [b2, b3, b4, b5]) =
  Tr.done (V.fn (Fn.func 111) [] [V.ptr 6 0 0]) [some (Blk.map (List.map entE km)), some (Blk.box [V.d (D.int .i64 (Cmp.houses c)), V.d (D.sl false (List.length (Cmp.held c)) (enc eI (Cmp.held c))), V.d (D.sl false (List.length (Cmp.trades c)) (enc eT (Cmp.trades c))), V.d (D.sl false (List.length (Cmp.divs c)) (enc eV (Cmp.divs c))), V.d (D.sl false (List.length (Cmp.splits c)) (enc eS (Cmp.splits c))), V.d (D.sl false (List.length (Cmp.closed c)) (enc eR (Cmp.closed c))), V.mp 0]), b2, b3, b4, b5, some (Blk.box [V.ptr 1 0 0])] := by kernel_rfl
theorem ACalls.le {P : Program} {f : FuncId} {vs : List V} {h h' : Heap} {R : V → Heap → Prop} (hst : StLe h.length 0 [] h [] h') (hl : h.length ≤ h'.length) (hc : ACalls P f vs h' R) : ACalls P f vs h R := by
 refine ⟨hc.1, fun M w args hm hs hu => ?_⟩
 obtain ⟨M1, p1, _⟩ := hst M w ⟨#[], []⟩ hs (Nat.le_refl _) ⟨rfl, DefOk.nil _, fun k => .any _⟩
 refine (hc.2 M1 w args (p1.cc hm) p1.sim (hu.mono p1.ro p1.le)).mono fun e w' hq => ?_
 obtain ⟨cv, v, h2, M2, e1, p2, hv, hr⟩ := hq
 exact ⟨cv, v, h2, M2, e1, p1.trans (p2.mono hl), hv, hr⟩
section
variable {S : Type} {K : Cons S} (hK : K.Ok)
def Cons.H9 {S : Type} (K : Cons S) (km : List (Int × Int × Int)) (s : S) : Heap := Wk K.c km [K.b2 s, K.b3 s, K.b4 s, K.b5 s, Wc, K.b7 s, K.b8 s]
include hK
theorem a111 {s : S} {km : List (Int × Int × Int)} (hA : K.A s) (hkm : kmOk K.c km) :
  ACalls Try.prog 111 [.yl 7, .ptr 6 0 0] (K.H9 km s) fun _ h => K.A (runY K.stepZ (comp K.c K.c.trades ⟨[], []⟩) (km, s)).2.2 ∧ kmOk K.c (runY K.stepZ (comp K.c K.c.trades ⟨[], []⟩) (km, s)).2.1 ∧
   ∃ J, h = K.H9 (runY K.stepZ (comp K.c K.c.trades ⟨[], []⟩) (km, s)).2.1 (runY K.stepZ (comp K.c K.c.trades ⟨[], []⟩) (km, s)).2.2 ++ J := by
 refine q111.calls X111_ok rfl (w111 K.c km _ _ _ _ _ _) ?_
 simp only [holds]
 have hc := a112 hK K.c.trades.length 0 ⟨[], []⟩ s km (by omega) rfl rfl (fun j hj => by omega) hA hkm
 rw [List.drop_zero] at hc
 generalize runY K.stepZ (comp K.c K.c.trades ⟨[], []⟩) (km, s) = r at hc ⊢
 refine callV_holds (K := K.P r) ?_ (ACalls.le (h' := K.H km s ⟨[], []⟩ []) ?_ (Nat.le_refl _) hc)
 ·rintro v h' ⟨rfl, hA', hkm', t', J, rfl⟩
  exact ⟨r.1, rfl, fun e => (by cases e), hA', hkm', _, rfl⟩
 ·exact StLe.cells (id := 10) (cs := [.d .nils, .d .nils]) (cs' := [.d (.sl false 0 []), .d (.sl false 0 [])]) rfl (.cons .nilsF (.cons .nilsF .nil))
theorem rangeF_truths {G : Cfg} {n : Nat} {g : Operand} {ps : List Nat} {ca cb : CCode} {Q : CExit → Env → Heap → Prop} {env : Env} {s : S} {km : List (Int × Int × Int)} (x2 x3 x4 x5 : Option Blk) (hA : K.A s) (hkm : kmOk K.c km)
  (hg : opnd env g = .fn (.func 111) [] [.ptr 6 0 0]) (hst : StLe 8 0 [] (Wk K.c km [x2, x3, x4, x5, Wc, some (.loop ⟨G, ca, cb, ps, env, .ready, none⟩)]) [] (K.H9 km s))
  (hL : ∀ s, K.A s → ∃ st pe, K.b7 s = some (.loop ⟨G, ca, cb, ps, env, st, pe⟩) ∧ st ≠ .busy)
  (hq : ∀ s' km' J st pe, (km', s') = (runY K.stepZ (comp K.c K.c.trades ⟨[], []⟩) (km, s)).2 → K.A s' → kmOk K.c km' → K.b7 s' = some (.loop ⟨G, ca, cb, ps, env, st, pe⟩) →
   Q (pe.getD .normal) env (Wk K.c km' (K.b2 s' :: K.b3 s' :: K.b4 s' :: K.b5 s' :: Wc :: none :: K.b8 s' :: J))) :
  wpc Try.prog G n (.rangeF g ps ca cb) Q env (Wk K.c km [x2, x3, x4, x5, Wc]) := by
 show callF Try.prog (opnd env g) [.yl 7] (Wk K.c km [x2, x3, x4, x5, Wc, some (.loop ⟨G, ca, cb, ps, env, .ready, none⟩)]) fun _ h' => doneR 7 env h' Q
 rw [hg]
 refine ACalls.le (h' := K.H9 km s) hst (show 8 ≤ 9 by decide) (ACalls.mono (a111 hK hA hkm) ?_)
 rintro v h' ⟨hA', hkm', J, rfl⟩
 obtain ⟨st, pe, e8, hst⟩ := hL _ hA'
 have := hq _ _ J st pe rfl hA' hkm' e8
 unfold doneR
 have e9 : (K.H9 (runY K.stepZ (comp K.c K.c.trades ⟨[], []⟩) (km, s)).2.1 (runY K.stepZ (comp K.c K.c.trades ⟨[], []⟩) (km, s)).2.2 ++ J)[7]? = some (some (.loop ⟨G, ca, cb, ps, env, st, pe⟩)) := by
  rw [← e8]; rfl
 rw [e9]
 exact ⟨hst, this⟩
end
theorem a95 (c : Cmp) (km : List (Int × Int × Int)) (b2 b3 b4 b5 : Option Blk) : ACalls Try.prog 95 [.ptr 1 0 0] (Wk c km [b2, b3, b4, b5]) fun v h => v = .fn (.func 111) [] [.ptr 6 0 0] ∧ h = Wk c km [b2, b3, b4, b5, Wc] := by
 refine q95.calls X111_ok rfl (w95 c km b2 b3 b4 b5) ?_
 exact ⟨rfl, rfl⟩
end
end Go.Proofs.Ytdnefcjbcieecaa
namespace Go.Proofs.Ytdnefcjbcieecaa
open Go Go.Proofs
noncomputable section
theorem fin_W3 (c : Cmp) (km : List (Int × Int × Int)) (n : Nat) (ds : List D) : finX 2 (.own 3 n n) (Wk c km [none, some (.row 3 1 n ds)]) = (.d (.sl false n ds), Wk c km []) := by
 have hW := Wk_bel c km 2 (by decide)
 simp [finX, rowsIn, rowsIn1, rowIn, frzRows, frzB, blkDs, fzV, fz2, fz1, Wk, bel2, bel1, bel0] at hW ⊢
 exact hW
def OfIs (g : Nat) (M : Cmp → Tru → Dvd → List Int) : Prop := ∀ (c : Cmp) (t : Tru) (d : Dvd) (km : List (Int × Int × Int)), faultM c = 0 → datedB c t = true → okDv d = true → kmOk c km →
 ∃ km', kmOk c km' ∧ ∀ rest, ACalls Try.prog g [.ptr 1 0 0, Uv t, Dv d] (Wk c km rest) fun v h => v = vsl eI (M c t d) ∧ h = Wk c km' rest
theorem of64 : OfIs 64 paidM := by
 intro c t d km hf hd hv hkm
 refine ⟨_, kmT_ok hkm t d.record c.trades.length, fun rest => more_W rfl rfl ?_ rest⟩
 refine ACalls.fin ((a64 c t d km hf hd hv hkm).mono ?_)
 rintro v h' ⟨rfl, rfl⟩
 have e2 : (Wk c km []).length = 2 := rfl
 rw [e2, fin_W3]
 exact ⟨rfl, [], rfl⟩
theorem of66 : OfIs 66 claimsM := by
 intro c t d km hf hd hv hkm
 exact ⟨_, kmC_ok hkm t d c.trades.length, fun rest => more_W rfl rfl (a66f c t d km hf hd hv hkm) rest⟩
theorem of67 : OfIs 67 rightsM := by
 intro c t d km hf hd hv hkm
 refine ⟨_, kmC_ok (kmT_ok hkm t d.record c.trades.length) t d c.trades.length, fun rest => more_W rfl rfl ?_ rest⟩
 refine ACalls.fin ((a67 c t d km hf hd hv hkm).mono ?_)
 rintro v h' ⟨rfl, rfl⟩
 have e2 : (Wk c km []).length = 2 := rfl
 rw [e2, fin_W3]
 refine ⟨?_, [], rfl⟩
 unfold vsl dsl
 rw [rightsM_len]
theorem q73 : FunIs Try.prog 73 G73 c73 r73 := ⟨Try.f73, Try.func73, k73, e73, by kernel_rfl, by kernel_rfl⟩
def ent95At (c : Cmp) (km : List (Int × Int × Int)) (b2 b3 b4 b5 : Option Blk) : Ent := fun args h => some (args = [.ptr 1 0 0] ∧ h = Wk c km [b2, b3, b4, b5], .fn (.func 111) [] [.ptr 6 0 0], some (Wk c km [b2, b3, b4, b5, Wc]))
theorem ent95At_ok (c : Cmp) (km : List (Int × Int × Int)) (b2 b3 b4 b5 : Option Blk) : EntOk Try.prog 95 (ent95At c km b2 b3 b4 b5) := by
 intro args h p v ho he hp
 cases he
 obtain ⟨rfl, rfl⟩ := hp
 exact a95 c km b2 b3 b4 b5
def sp73 (g : Nat) (c : Cmp) (t : Tru) (d : Dvd) (km km2 : List (Int × Int × Int)) (rest : Heap) (l : List Int) : Spec := fun f args h => match args with
 | [_, _, _] => some (f = g ∧ args = [.ptr 1 0 0, Uv t, Dv d] ∧ h = Wk c km rest ∧ ACalls Try.prog g [.ptr 1 0 0, Uv t, Dv d] (Wk c km rest) fun v h => v = vsl eI l ∧ h = Wk c km2 rest, vsl eI l, some (Wk c km2 rest))
 | [x] => match ent96 [x] h with
  | some (p, v, ho) => some (f = 96 ∧ p, v, ho)
  | none => none
 | _ => none
theorem sp73_ok (g : Nat) (c : Cmp) (t : Tru) (d : Dvd) (km km2 : List (Int × Int × Int)) (rest : Heap) (l : List Int) : SpOk Try.prog (sp73 g c t d km km2 rest l) := by
 intro f args h p v ho he hp
 unfold sp73 at he
 split at he
 ·cases he
  obtain ⟨rfl, h1, rfl, h2⟩ := hp
  rw [h1]; exact h2
 ·split at he
  ·rename_i q v' ho' e
   cases he
   obtain ⟨rfl, h1⟩ := hp
   exact ent96_ok _ _ _ _ _ e h1
  ·cases he
 ·cases he
def XA (c : Cmp) (km : List (Int × Int × Int)) (b2 b3 b4 b5 : Option Blk) : Sx := mkX (spAdd 95 (ent95At c km b2 b3 b4 b5) spNil)
def XQ (g : Nat) (c : Cmp) (t : Tru) (d : Dvd) (km km2 : List (Int × Int × Int)) (rest : Heap) (l : List Int) : Sx := mkX (sp73 g c t d km km2 rest l)
def B3 : Option Blk := some (.box [.ptr 1 0 0])
theorem w73a (c : Cmp) (km : List (Int × Int × Int)) (b2 : Option Blk) (g : Nat) (d : Dvd) : sx (mkX spNil) (CCode.at c73 [0]) [] leafK (envOf [.ptr 1 0 0, .agg [.d (.fn (.func g))], Dv d]) [] (Wk c km [b2]) =
  Tr.leaf CExit.normal [(3, V.ptr 3 0 0), (4, V.rptr [D.fn (Fn.func g)] (0)), (5, V.rptr [D.int .i64 (Dvd.ex d), D.int .i64 (Dvd.record d), D.int .i64 (Dvd.pence d)] (0)), (6, V.ptr 4 0 0), (7, V.ptr 5 0 0), (13, V.any)] [some (Blk.map (List.map entE km)), some (Blk.box [V.d (D.int .i64 (Cmp.houses c)), V.d (D.sl false (List.length (Cmp.held c)) (enc eI (Cmp.held c))), V.d (D.sl false (List.length (Cmp.trades c)) (enc eT (Cmp.trades c))), V.d (D.sl false (List.length (Cmp.divs c)) (enc eV (Cmp.divs c))), V.d (D.sl false (List.length (Cmp.splits c)) (enc eS (Cmp.splits c))), V.d (D.sl false (List.length (Cmp.closed c)) (enc eR (Cmp.closed c))), V.mp 0]), b2, some (Blk.box [V.ptr 1 0 0]), some (Blk.box [V.d D.nils]), some (Blk.box [V.d (D.bool false)])] := by kernel_rfl
theorem w73b (c : Cmp) (km : List (Int × Int × Int)) (b2 b4 b5 : Option Blk) (g : Nat) (d : Dvd) : sx (XA c km b2 B3 b4 b5) (CCode.at c73 [1,0,0]) [] leafK [(3, .ptr 3 0 0), (4, .rptr [.fn (.func g)] 0), (5, .rptr [.int .i64 d.ex, .int .i64 d.record, .int .i64 d.pence] 0), (6, .ptr 4 0 0), (7, .ptr 5 0 0), (13, .any)] [] (Wk c km [b2, B3, b4, b5]) =
  Tr.need ([V.ptr 1 0 0] = [V.ptr 1 0 0] ∧ Wk c km [b2, B3, b4, b5] = Wk c km [b2, B3, b4, b5]) (Tr.leaf CExit.normal [(3, V.ptr 3 0 0), (4, V.rptr [D.fn (Fn.func g)] (0)), (5, V.rptr [D.int .i64 (Dvd.ex d), D.int .i64 (Dvd.record d), D.int .i64 (Dvd.pence d)] (0)), (6, V.ptr 4 0 0), (7, V.ptr 5 0 0), (12, V.fn (Fn.func 111) [] [V.ptr 6 0 0]), (13, V.any)] [some (Blk.map (List.map entE km)), some (Blk.box [V.d (D.int .i64 (Cmp.houses c)), V.d (D.sl false (List.length (Cmp.held c)) (enc eI (Cmp.held c))), V.d (D.sl false (List.length (Cmp.trades c)) (enc eT (Cmp.trades c))), V.d (D.sl false (List.length (Cmp.divs c)) (enc eV (Cmp.divs c))), V.d (D.sl false (List.length (Cmp.splits c)) (enc eS (Cmp.splits c))), V.d (D.sl false (List.length (Cmp.closed c)) (enc eR (Cmp.closed c))), V.mp 0]), b2, some (Blk.box [V.ptr 1 0 0]), b4, b5, some (Blk.box [V.ptr 1 0 0])]) := by kernel_rfl
def E73 (g : Nat) (d : Dvd) : Env := [(3, .ptr 3 0 0), (4, .rptr [.fn (.func g)] 0), (5, .rptr [.int .i64 d.ex, .int .i64 d.record, .int .i64 d.pence] 0), (6, .ptr 4 0 0), (7, .ptr 5 0 0), (12, .fn (.func 111) [] [.ptr 6 0 0]), (13, .any)]
def Tb (t : Tru) : Option Blk := some (.box [.d (.sl false t.sold.length (enc eI t.sold)), .d (.sl false t.deliv.length (enc eI t.deliv))])
def R73 (b2 b7 : Option Blk) (t : Tru) (z : Bool) (rl : List Rng) (n gen : Nat) (rest : Heap) : Heap := b2 :: B3 :: some (.box [.own 8 gen n]) :: some (.box [vb z]) :: Wc :: b7 :: some (.row 71 2 gen (enc eR rl)) :: Yb :: Tb t :: Cb :: rest
theorem a73 (c : Cmp) (km : List (Int × Int × Int)) (b2 b7 : Option Blk) (t : Tru) (z : Bool) (rl : List Rng) (n gen : Nat) (g : Nat) (d : Dvd) : sx (mkX spNil) (CCode.at c73 [1,0,1,0,0]) [] leafK ((13, Uv t) :: E73 g d) [] (Wk c km (R73 b2 b7 t z rl n gen [])) =
  let y0_ := (Blk.box [V.d (D.sl false (List.length (Tru.sold t)) (enc eI (Tru.sold t))), V.d (D.sl false (List.length (Tru.deliv t)) (enc eI (Tru.deliv t)))])
  Tr.leaf CExit.normal [(3, V.ptr 3 0 0), (4, V.rptr [D.fn (Fn.func g)] (0)), (5, V.rptr [D.int .i64 (Dvd.ex d), D.int .i64 (Dvd.record d), D.int .i64 (Dvd.pence d)] (0)), (6, V.ptr 4 0 0), (7, V.ptr 5 0 0), (8, V.ptr 12 0 0)] [some (Blk.map (List.map entE km)), some (Blk.box [V.d (D.int .i64 (Cmp.houses c)), V.d (D.sl false (List.length (Cmp.held c)) (enc eI (Cmp.held c))), V.d (D.sl false (List.length (Cmp.trades c)) (enc eT (Cmp.trades c))), V.d (D.sl false (List.length (Cmp.divs c)) (enc eV (Cmp.divs c))), V.d (D.sl false (List.length (Cmp.splits c)) (enc eS (Cmp.splits c))), V.d (D.sl false (List.length (Cmp.closed c)) (enc eR (Cmp.closed c))), V.mp 0]), b2, some (Blk.box [V.ptr 1 0 0]), some (Blk.box [V.own 8 gen n]), some (Blk.box [V.d (D.bool z)]), some (Blk.box [V.ptr 1 0 0]), b7, some (Blk.row 71 2 gen (enc eR rl)), some (Blk.box [V.yl 7]), some y0_, some (Blk.box [V.fn (Fn.func 112) [] [V.ptr 6 0 0, V.ptr 10 0 0, V.ptr 9 0 0, V.ptr 11 0 0]]), some y0_] := by kernel_rfl
def Ec73 (g : Nat) (d : Dvd) : Env := [(3, .ptr 3 0 0), (4, .rptr [.fn (.func g)] 0), (5, .rptr [.int .i64 d.ex, .int .i64 d.record, .int .i64 d.pence] 0), (6, .ptr 4 0 0), (7, .ptr 5 0 0), (8, .ptr 12 0 0)]
theorem c73w (c : Cmp) (km km2 : List (Int × Int × Int)) (b2 b7 : Option Blk) (t : Tru) (z : Bool) (rl : List Rng) (n gen : Nat) (g : Nat) (d : Dvd) (l : List Int) : sx (XQ g c t d km km2 (R73 b2 b7 t z rl n gen [Tb t]) l) (CCode.at c73 [1,0,1,0,1]) [] leafK (Ec73 g d) [] (Wk c km (R73 b2 b7 t z rl n gen [Tb t])) =
  let y0_ := (Blk.box [V.d (D.sl false (List.length (Tru.sold t)) (enc eI (Tru.sold t))), V.d (D.sl false (List.length (Tru.deliv t)) (enc eI (Tru.deliv t)))])
  let y1_ := (R73 b2 b7 t z rl n gen [Tb t])
  Tr.need (g = g ∧ [V.ptr 1 0 0, Uv t, V.agg [V.d (D.int .i64 (Dvd.ex d)), V.d (D.int .i64 (Dvd.record d)), V.d (D.int .i64 (Dvd.pence d))]] = [V.ptr 1 0 0, Uv t, Dv d] ∧ Wk c km y1_ = Wk c km y1_ ∧ ACalls Try.prog g [V.ptr 1 0 0, Uv t, Dv d] (Wk c km y1_) fun v h => v = vsl eI l ∧ h = Wk c km2 y1_) (Tr.lp (CCode.at c73 [1, 0, 1, 0, 1, 0, 0, 1, 0, 0]) [Fr.blk 2, Fr.seq (CCode.at c73 [1, 0, 1, 0, 1, 0, 1]), Fr.blk 1] [(6, V.ptr 4 0 0), (7, V.ptr 5 0 0), (19, V.d (D.sl false (List.length l) (enc eI l))), (20, V.d (D.int .i64 (Int.ofNat (List.length l)))), (21, V.d (D.int .i64 0))] [some (Blk.map (List.map entE km2)), some (Blk.box [V.d (D.int .i64 (Cmp.houses c)), V.d (D.sl false (List.length (Cmp.held c)) (enc eI (Cmp.held c))), V.d (D.sl false (List.length (Cmp.trades c)) (enc eT (Cmp.trades c))), V.d (D.sl false (List.length (Cmp.divs c)) (enc eV (Cmp.divs c))), V.d (D.sl false (List.length (Cmp.splits c)) (enc eS (Cmp.splits c))), V.d (D.sl false (List.length (Cmp.closed c)) (enc eR (Cmp.closed c))), V.mp 0]), b2, some (Blk.box [V.ptr 1 0 0]), some (Blk.box [V.own 8 gen n]), some (Blk.box [V.d (D.bool z)]), some (Blk.box [V.ptr 1 0 0]), b7, some (Blk.row 71 2 gen (enc eR rl)), some (Blk.box [V.yl 7]), some y0_, some (Blk.box [V.fn (Fn.func 112) [] [V.ptr 6 0 0, V.ptr 10 0 0, V.ptr 9 0 0, V.ptr 11 0 0]]), some y0_]) := by kernel_rfl
def El73 (l : List Int) (k : Nat) : Env := [(6, .ptr 4 0 0), (7, .ptr 5 0 0), (19, vsl eI l), (20, vi l.length), (21, vi k)]
theorem b73 (c : Cmp) (km : List (Int × Int × Int)) (b2 b7 : Option Blk) (t : Tru) (z : Bool) (rl : List Rng) (n gen : Nat) (l : List Int) (k : Nat) (d : Dvd) : sx (XQ 0 c t d km km [] []) (CCode.at c73 [1,0,1,0,1,0,0,1,0,0]) [] leafK (El73 l k) [] (Wk c km (R73 b2 b7 t z rl n gen [Tb t])) =
  let y2_ := (List.length l)
  let x1_ := (decide (Int.ofNat k < Int.ofNat y2_))
  let x2_ := (cI (enc eI l) 1 (Int.ofNat k) 0)
  let x3_ := [D.int .i64 x2_, D.int .i64 x2_]
  let y1_ := (enc eR rl ++ x3_)
  let x4_ := (((0 : Int) ≤ Int.ofNat k ∧ Int.ofNat k < Int.ofNat (n + 1)) ∧ Nat.add gen 1 = Nat.add gen 1 ∧ Int.toNat (Int.ofNat k) * 2 + 2 ≤ List.length y1_)
  let x5_ := (Int.toNat (Int.ofNat k) * 2)
  let x6_ := (dI y1_ (Nat.add x5_ 0))
  let x7_ := (dI y1_ (Nat.add x5_ 1))
  let x8_ := [D.int .i64 x6_, D.int .i64 x2_]
  let x9_ := (leastL (dec 1 gI 2 x8_))
  let x10_ := [V.d (D.int .i64 x9_), V.d (D.int .i64 (max2 x7_ x2_))]
  let x11_ := (-9223372036854775808 ≤ Int.ofNat k + (1 : Int) ∧ Int.ofNat k + (1 : Int) ≤ 9223372036854775807)
  let x12_ := (Blk.map (List.map entE km))
  let x13_ := (Blk.box [V.d (D.int .i64 (Cmp.houses c)), V.d (D.sl false (List.length (Cmp.held c)) (enc eI (Cmp.held c))), V.d (D.sl false (List.length (Cmp.trades c)) (enc eT (Cmp.trades c))), V.d (D.sl false (List.length (Cmp.divs c)) (enc eV (Cmp.divs c))), V.d (D.sl false (List.length (Cmp.splits c)) (enc eS (Cmp.splits c))), V.d (D.sl false (List.length (Cmp.closed c)) (enc eR (Cmp.closed c))), V.mp 0])
  let x14_ := (Blk.box [V.ptr 1 0 0])
  let x15_ := (Blk.box [V.d (D.bool z)])
  let x16_ := (Blk.box [V.d (D.sl false (List.length (Tru.sold t)) (enc eI (Tru.sold t))), V.d (D.sl false (List.length (Tru.deliv t)) (enc eI (Tru.deliv t)))])
  let x17_ := (Blk.box [V.fn (Fn.func 112) [] [V.ptr 6 0 0, V.ptr 10 0 0, V.ptr 9 0 0, V.ptr 11 0 0]])
  let x18_ := (((0 : Int) ≤ Int.ofNat k ∧ Int.ofNat k < Int.ofNat n) ∧ gen = gen ∧ Int.toNat (Int.ofNat k) * 2 + 2 ≤ List.length (enc eR rl))
  let x19_ := (dI (enc eR rl) (Nat.add x5_ 0))
  let x20_ := (dI (enc eR rl) (Nat.add x5_ 1))
  let x21_ := [D.int .i64 x19_, D.int .i64 x2_]
  let x22_ := (leastL (dec 1 gI 2 x21_))
  let x23_ := [V.d (D.int .i64 x22_), V.d (D.int .i64 (max2 x20_ x2_))]
  let x24_ := (Blk.box [V.own 8 gen n])
  let y3_ := (20, V.d (D.int .i64 (Int.ofNat y2_)))
  let y4_ := (19, V.d (D.sl false y2_ (enc eI l)))
  let y0_ := [(6, V.ptr 4 0 0), (7, V.ptr 5 0 0), y4_, y3_, (21, V.d (D.int .i64 (Int.ofNat k + (1 : Int))))]
  Tr.br x1_ (Tr.need ((0 : Int) ≤ Int.ofNat k ∧ Int.ofNat k < Int.ofNat y2_ ∧ okEl [0] (enc eI l) 1 (Int.ofNat k)) (Tr.br (!z) (Tr.need (gen = gen ∧ 71 = 71 ∧ 2 = 2 ∧ List.length (enc eR rl) = n * 2 ∧ List.length x3_ = 1 * 2 ∧ n + 1 ≤ 140737488355328 ∧ (n + 1) * 16 ≤ 140737488355328) (Tr.need x4_ (Tr.need (Nat.add gen 1 = Nat.add gen 1 ∧ y1_[Nat.add x5_ 0]? = some (D.int .i64 x6_)) (Tr.need x4_ (Tr.need (Nat.add gen 1 = Nat.add gen 1 ∧ y1_[Nat.add x5_ 1]? = some (D.int .i64 x7_)) (Tr.need ((96 : FuncId) = (96 : FuncId) ∧ okL eI 1 gI 2 x8_ ∧ 0 < 2 ∧ 2 ≤ 1000000) (Tr.need x4_ (Tr.need (Nat.add gen 1 = Nat.add gen 1 ∧ Int.toNat (Int.ofNat k) * 2 + List.length x10_ ≤ List.length y1_ ∧ List.length x10_ = 2) (Tr.need x11_ (Tr.leaf CExit.normal y0_ [some x12_, some x13_, b2, some x14_, some (Blk.box [V.own 8 (Nat.add gen 1) (n + 1)]), some x15_, some x14_, b7, some (Blk.row 71 2 (Nat.add gen 1) (putAt y1_ x5_ [D.int .i64 x9_, D.int .i64 (max2 x7_ x2_)])), some (Blk.box [V.yl 7]), some x16_, some x17_, some x16_])))))))))) (Tr.need x18_ (Tr.need (gen = gen ∧ (enc eR rl)[Nat.add x5_ 0]? = some (D.int .i64 x19_)) (Tr.need x18_ (Tr.need (gen = gen ∧ (enc eR rl)[Nat.add x5_ 1]? = some (D.int .i64 x20_)) (Tr.need ((96 : FuncId) = (96 : FuncId) ∧ okL eI 1 gI 2 x21_ ∧ 0 < 2 ∧ 2 ≤ 1000000) (Tr.need x18_ (Tr.need (gen = gen ∧ Int.toNat (Int.ofNat k) * 2 + List.length x23_ ≤ List.length (enc eR rl) ∧ List.length x23_ = 2) (Tr.need x11_ (Tr.leaf CExit.normal y0_ [some x12_, some x13_, b2, some x14_, some x24_, some x15_, some x14_, b7, some (Blk.row 71 2 gen (putAt (enc eR rl) x5_ [D.int .i64 x22_, D.int .i64 (max2 x20_ x2_)])), some (Blk.box [V.yl 7]), some x16_, some x17_, some x16_]))))))))))) (Tr.leaf (CExit.exit 2) [(6, V.ptr 4 0 0), (7, V.ptr 5 0 0), y4_, y3_, (21, V.d (D.int .i64 (Int.ofNat k))), (22, V.d (D.bool x1_))] [some x12_, some x13_, b2, some x14_, some x24_, some x15_, some x14_, b7, some (Blk.row 71 2 gen (enc eR rl)), some (Blk.box [V.yl 7]), some x16_, some x17_, some x16_]) := by kernel_rfl
end
end Go.Proofs.Ytdnefcjbcieecaa
namespace Go.Proofs.Ytdnefcjbcieecaa
open Go Go.Proofs
noncomputable section
theorem put_R : ∀ (l : List Rng) (k : Nat) (x : Rng), k < l.length → putAt (enc eR l) (k * 2) [D.int .i64 x.lo, D.int .i64 x.hi] = enc eR (l.set k x)
 | a :: l, 0, x, _ => by simp [putAt, enc, eR]
 | a :: l, k + 1, x, h => by
  have ih := put_R l k x (by simpa using h)
  have e : (k + 1) * 2 = k * 2 + 1 + 1 := by omega
  have e2 : ∀ (y : Rng) (m : List Rng), enc eR (y :: m) = D.int .i64 y.lo :: D.int .i64 y.hi :: enc eR m := fun y m => rfl
  rw [List.set_cons_succ, e2, e2, ← ih, e]
  simp [putAt]
theorem get_R0 {l : List Rng} {k : Nat} (h : k < l.length) : (enc eR l)[k * 2]? = some (D.int .i64 (lat l (k : Nat)).lo) := by
 have := enc_get (sz := 2) (f := eR) (fun _ => rfl) l k 0 (by decide)
 rw [Nat.add_zero] at this
 rw [this]
 simp [lat, List.getD, h, eR]
theorem get_R1 {l : List Rng} {k : Nat} (h : k < l.length) : (enc eR l)[k * 2 + 1]? = some (D.int .i64 (lat l (k : Nat)).hi) := by
 rw [enc_get (sz := 2) (f := eR) (fun _ => rfl) l k 1 (by decide)]
 simp [lat, List.getD, h, eR]
theorem dI_R0 {l : List Rng} {k : Nat} (h : k < l.length) : dI (enc eR l) (k * 2) = (lat l (k : Nat)).lo := by unfold dI; rw [get_R0 h]
theorem dI_R1 {l : List Rng} {k : Nat} (h : k < l.length) : dI (enc eR l) (k * 2 + 1) = (lat l (k : Nat)).hi := by unfold dI; rw [get_R1 h]
def rK (z : Bool) (rl : List Rng) (l : List Int) : Nat → List Rng
 | 0 => if z = true then rl else []
 | k + 1 => (if z = true then rK z rl l k else rK z rl l k ++ [⟨lat l (k : Nat), lat l (k : Nat)⟩]).set k
   ⟨leastL [(lat (if z = true then rK z rl l k else rK z rl l k ++ [⟨lat l (k : Nat), lat l (k : Nat)⟩]) (k : Nat)).lo, lat l (k : Nat)],
    max2 (lat (if z = true then rK z rl l k else rK z rl l k ++ [⟨lat l (k : Nat), lat l (k : Nat)⟩]) (k : Nat)).hi (lat l (k : Nat))⟩
theorem rK_len (z : Bool) (rl : List Rng) (l : List Int) : ∀ k, (rK z rl l k).length = if z = true then rl.length else k
 | 0 => by cases z <;> simp [rK]
 | k + 1 => by
  have ih := rK_len z rl l k
  cases z <;> simp [rK] at ih ⊢ <;> exact ih
def gK (z : Bool) (gen k : Nat) : Nat := if z = true then gen else gen + k
theorem t73 (c : Cmp) (km : List (Int × Int × Int)) (b2 b7 : Option Blk) (t : Tru) (z v : Bool) (rl : List Rng) (n gen : Nat) (k : Int) (l : V) (m : V) (rest : Heap) : sS (mkX spNil) leafK [Fr.blk 2, Fr.seq (CCode.at c73 [1,0,1,0,1,0,1]), Fr.blk 1] (.exit 2) [(6, .ptr 4 0 0), (7, .ptr 5 0 0), (19, l), (20, m), (21, vi k), (22, vb v)] [] (Wk c km (R73 b2 b7 t z rl n gen rest)) =
  Tr.leaf CExit.normal [] (some (Blk.map (List.map entE km)) :: some (Blk.box [V.d (D.int .i64 (Cmp.houses c)), V.d (D.sl false (List.length (Cmp.held c)) (enc eI (Cmp.held c))), V.d (D.sl false (List.length (Cmp.trades c)) (enc eT (Cmp.trades c))), V.d (D.sl false (List.length (Cmp.divs c)) (enc eV (Cmp.divs c))), V.d (D.sl false (List.length (Cmp.splits c)) (enc eS (Cmp.splits c))), V.d (D.sl false (List.length (Cmp.closed c)) (enc eR (Cmp.closed c))), V.mp 0]) :: b2 :: some (Blk.box [V.ptr 1 0 0]) :: some (Blk.box [V.own 8 gen n]) :: some (Blk.box [V.d (D.bool true)]) :: some (Blk.box [V.ptr 1 0 0]) :: b7 :: some (Blk.row 71 2 gen (enc eR rl)) :: some (Blk.box [V.yl 7]) :: some (Blk.box [V.d (D.sl false (List.length (Tru.sold t)) (enc eI (Tru.sold t))), V.d (D.sl false (List.length (Tru.deliv t)) (enc eI (Tru.deliv t)))]) :: some (Blk.box [V.fn (Fn.func 112) [] [V.ptr 6 0 0, V.ptr 10 0 0, V.ptr 9 0 0, V.ptr 11 0 0]]) :: rest) := by kernel_rfl
theorem R73_bel (b2 b7 : Option Blk) (t : Tru) (z : Bool) (rl : List Rng) (n gen m : Nat) (rest : Heap) (hm : 12 ≤ m) (h2 : blkBel m b2 = true) (h7 : blkBel m b7 = true) (hr : rest.all (blkBel m) = true) : (R73 b2 b7 t z rl n gen rest).all (blkBel m) = true := by
 have e : ∀ k, k < 12 → Nat.blt k m = true := fun k hk => by rw [Nat.blt_eq]; omega
 simp only [R73, List.all_cons, h2, h7, hr, Bool.and_true, Bool.true_and]
 simp [B3, Wc, Yb, Tb, Cb, blkBel, bel1, belA, bel0, vb, e]
theorem l73 (c : Cmp) (km : List (Int × Int × Int)) (b2 b7 : Option Blk) (t : Tru) (z : Bool) (rl : List Rng) (gen : Nat) (l : List Int) (n : Nat) (Q : CExit → Env → Heap → Prop) (h2 : blkBel 13 b2 = true) (h7 : blkBel 13 b7 = true) (hl : l.length ≤ 1000) (hz : z = true → rl.length = l.length) (hz2 : z = false → rl = [])
  (hQ : ∀ J, Q .normal [] (Wk c km (R73 b2 b7 t true (rK z rl l l.length) l.length (gK z gen l.length) J))) :
  lpS Try.prog G73 12 (CCode.at c73 [1,0,1,0,1,0,0,1,0,0]) [Fr.blk 2, Fr.seq (CCode.at c73 [1,0,1,0,1,0,1]), Fr.blk 1] Q (El73 l 0) (Wk c km (R73 b2 b7 t z rl rl.length gen [Tb t])) := by
 refine lp_count (sp73_ok 0 c t ⟨0, 0, 0⟩ km km [] []) (X := XQ 0 c t ⟨0, 0, 0⟩ km km [] []) l.length (fun _ => True) (El73 l) (fun k => Wk c km (R73 b2 b7 t z (rK z rl l k) (rK z rl l k).length (gK z gen k) [Tb t])) rfl ?_ trivial (fun k _ => ⟨rfl, rfl, ?_⟩) ?_
 ·cases z
  ·rw [hz2 rfl]; rfl
  ·rfl
 ·exact Wk_belr _ _ _ 13 (by decide) (R73_bel _ _ _ _ _ _ _ 13 _ (by decide) h2 h7 rfl)
 intro k hk _ Q' hn he hr
 rw [b73]
 have hlen := rK_len z rl l k
 have ed : ∀ a b : Int, dec 1 gI 2 [D.int .i64 a, D.int .i64 b] = [a, b] := fun _ _ => rfl
 simp only [holds, Int.ofNat_eq_natCast, Int.toNat_natCast, cI_I, Nat.add_zero, Nat.add_eq, ed, true_and]
 refine ⟨fun e1 => ?_, fun e1 => ?_⟩
 ·have hlt : k < l.length := by have := of_decide_eq_true e1; omega
  have hn := hn [] hlt trivial
  refine ⟨⟨by omega, by omega, ok_I (by omega)⟩, fun hz0 => ?_, fun hz0 => ?_⟩
  ·have hz0 : z = false := by simpa using hz0
   subst hz0
   have hlen : (rK false rl l k).length = k := hlen
   have er : enc eR (rK false rl l k) ++ [D.int .i64 (lat l (k : Nat)), D.int .i64 (lat l (k : Nat))] = enc eR (rK false rl l k ++ [⟨lat l (k : Nat), lat l (k : Nat)⟩]) := by rw [enc_append, enc_one]; rfl
   have hr2 : k < (rK false rl l k ++ [⟨lat l (k : Nat), lat l (k : Nat)⟩] : List Rng).length := by simp [hlen]
   have hlr : (enc eR (rK false rl l k ++ [⟨lat l (k : Nat), lat l (k : Nat)⟩])).length = (k + 1) * 2 := by rw [enc_len (sz := 2) (f := eR) (fun _ => rfl)]; simp [hlen]
   simp only [rK, gK, Bool.false_eq_true, if_false] at hn
   generalize hr2d : rK false rl l k ++ [⟨lat l (k : Nat), lat l (k : Nat)⟩] = r2 at *
   have hput := put_R r2 k ⟨leastL [(lat r2 (k : Nat)).lo, lat l (k : Nat)], max2 (lat r2 (k : Nat)).hi (lat l (k : Nat))⟩ hr2
   have hlr2 : r2.length = k + 1 := by rw [← hr2d]; simp [hlen]
   simp only at hput
   simp only [er, dI_R0 hr2, dI_R1 hr2, get_R0 hr2, get_R1 hr2, hput, hlr, hlen, List.length_cons, List.length_nil]
   simp only [List.length_set, hlr2] at hn
   have l1 : (enc eR (rK false rl l k)).length = k * 2 := by rw [enc_len (sz := 2) (f := eR) (fun _ => rfl), hlen]
   exact ⟨⟨l1, trivial, by omega, by omega⟩, ⟨⟨by omega, by omega⟩, by omega⟩, trivial, ⟨⟨by omega, by omega⟩, by omega⟩, trivial, ⟨⟨rfl, by decide⟩, by omega, by omega⟩, ⟨⟨by omega, by omega⟩, by omega⟩, ⟨by omega, trivial⟩, ⟨by omega, by omega⟩, hn⟩
  ·have hz0 : z = true := by simpa using hz0
   subst hz0
   have hlen : (rK true rl l k).length = l.length := hlen.trans (hz rfl)
   simp only [rK, gK, if_true] at hn
   have hr2 : k < (rK true rl l k).length := by omega
   have hlr : (enc eR (rK true rl l k)).length = l.length * 2 := by rw [enc_len (sz := 2) (f := eR) (fun _ => rfl), hlen]
   generalize hr2d : rK true rl l k = r2 at *
   have hput := put_R r2 k ⟨leastL [(lat r2 (k : Nat)).lo, lat l (k : Nat)], max2 (lat r2 (k : Nat)).hi (lat l (k : Nat))⟩ hr2
   simp only at hput
   simp only [dI_R0 hr2, dI_R1 hr2, get_R0 hr2, get_R1 hr2, hput, hlr, hlen, List.length_cons, List.length_nil]
   simp only [List.length_set, hlen] at hn
   exact ⟨⟨⟨by omega, by omega⟩, by omega⟩, trivial, ⟨⟨by omega, by omega⟩, by omega⟩, trivial, ⟨⟨rfl, by decide⟩, by omega, by omega⟩, ⟨⟨by omega, by omega⟩, by omega⟩, ⟨by omega, trivial⟩, ⟨by omega, by omega⟩, hn⟩
 ·have hge : k = l.length := by have := of_decide_eq_false e1; omega
  subst hge
  refine he _ _ _ (ret_tree (R := fun _ _ => True) (spNil_ok _) leafK_ok (t73 c km b2 b7 t z _ _ _ _ _ _ _ _) ?_)
  have e : (rK z rl l l.length).length = l.length := by
   rw [hlen]
   cases z
   ·rfl
   ·exact hz rfl
  rw [e]
  exact hQ [Tb t]
end
end Go.Proofs.Ytdnefcjbcieecaa
namespace Go.Proofs.Ytdnefcjbcieecaa
open Go Go.Proofs
noncomputable section
structure S73 where
 z : Bool
 rl : List Rng
 gen : Nat
def L73 (g : Nat) (d : Dvd) (st : LoopState) : LoopB := ⟨G73, CCode.at c73 [1,0,1,0,0], CCode.at c73 [1,0,1,0,1], [13], E73 g d, st, none⟩
def kmOf (g : Nat) (M : Cmp → Tru → Dvd → List Int) (c : Cmp) (d : Dvd) (t : Tru) (km : List (Int × Int × Int)) : List (Int × Int × Int) := open Classical in
 if h : ∃ km', kmOk c km' ∧ ∀ rest, ACalls Try.prog g [.ptr 1 0 0, Uv t, Dv d] (Wk c km rest) fun v h => v = vsl eI (M c t d) ∧ h = Wk c km' rest then h.choose else km
theorem kmOf_ok {g : Nat} {M : Cmp → Tru → Dvd → List Int} (hOf : OfIs g M) {c : Cmp} {d : Dvd} {t : Tru} {km : List (Int × Int × Int)} (hf : faultM c = 0) (hdt : datedB c t = true) (hd : okDv d = true) (hkm : kmOk c km) :
  kmOk c (kmOf g M c d t km) ∧ ∀ rest, ACalls Try.prog g [.ptr 1 0 0, Uv t, Dv d] (Wk c km rest) fun v h => v = vsl eI (M c t d) ∧ h = Wk c (kmOf g M c d t km) rest := by
 have h := hOf c t d km hf hdt hd hkm
 unfold kmOf
 rw [dif_pos h]
 exact h.choose_spec
def K73 (c : Cmp) (g : Nat) (M : Cmp → Tru → Dvd → List Int) (N : Nat) (d : Dvd) (b2 : Option Blk) : Cons S73 where
 c := c
 step := fun t s => (true, ⟨true, rK s.z s.rl (M c t d) (M c t d).length, gK s.z s.gen (M c t d).length⟩)
 A := fun s => (s.z = true → s.rl.length = N) ∧ (s.z = false → s.rl = [])
 b2 := fun _ => b2
 b3 := fun _ => B3
 b4 := fun s => some (.box [.own 8 s.gen s.rl.length])
 b5 := fun s => some (.box [vb s.z])
 b7 := fun _ => some (.loop (L73 g d .ready))
 b8 := fun s => some (.row 71 2 s.gen (enc eR s.rl))
 kmY := kmOf g M c d
theorem K73_ok {c : Cmp} {g : Nat} {M : Cmp → Tru → Dvd → List Int} {N : Nat} {d : Dvd} {b2 : Option Blk} (hf : faultM c = 0) (hd : okDv d = true) (hOf : OfIs g M) (hN : ∀ t, datedB c t = true → (M c t d).length = N) (hN2 : N ≤ 1000) (h2 : blkBel 12 b2 = true) : (K73 c g M N d b2).Ok where
 fault := hf
 bel := fun s _ => by
  simp only [K73, List.all_cons, List.all_nil, h2, Bool.and_true, Bool.true_and]
  rfl
 yl := by
  intro t s km hA hkm hdt hfit
  obtain ⟨hkm2, hof⟩ := kmOf_ok hOf hf hdt hd hkm
  generalize hk2 : kmOf g M c d t km = km2 at hkm2 hof
  have hA1 := hA.1
  have hA2 := hA.2
  have hlen := hN t hdt
  refine AYield.of_body (L := L73 g d .ready) rfl rfl rfl ?_
  show wpc Try.prog G73 12 (CCode.at c73 [1,0,1,0,0]) (begR Try.prog G73 12 (CCode.at c73 [1,0,1,0,1]) 7 _) ((13, Uv t) :: E73 g d) (Wk c km (R73 b2 (some (.loop (L73 g d .ready))) t s.z s.rl s.rl.length s.gen []))
  refine sx_sound (X := mkX spNil) (R := fun _ _ => True) (spNil_ok _) _ [] leafK _ [] _ leafK_ok (.nil _) ?_
  rw [a73]
  refine ⟨rfl, ?_⟩
  show wpc Try.prog G73 12 (CCode.at c73 [1,0,1,0,1]) (endR 7 _) (Ec73 g d) (Wk c km (R73 b2 (some (.loop (L73 g d .busy))) t s.z s.rl s.rl.length s.gen [Tb t]))
  refine sx_sound (X := XQ g c t d km km2 (R73 b2 (some (.loop (L73 g d .busy))) t s.z s.rl s.rl.length s.gen [Tb t]) (M c t d)) (R := fun _ _ => True) (sp73_ok _ _ _ _ _ _ _ _) _ [] leafK _ [] _ leafK_ok (.nil _) ?_
  rw [c73w]
  refine ⟨⟨rfl, rfl, rfl, hof _⟩, ?_⟩
  refine l73 c km2 b2 (some (.loop (L73 g d .busy))) t s.z s.rl s.gen (M c t d) 0 _ (blk_mono (by decide) h2) rfl (by omega) (fun h => by rw [hA1 h, hlen]) hA2 ?_
  intro J
  have e : (rK s.z s.rl (M c t d) (M c t d).length).length = (M c t d).length := by
   rw [rK_len]
   cases hz : s.z
   ·rfl
   ·rw [if_pos rfl, hA1 hz, hlen]
  show (K73 c g M N d b2).P _ (vb true) ((Wk c km2 (R73 b2 (some (.loop (L73 g d .busy))) t true (rK s.z s.rl (M c t d) (M c t d).length) (M c t d).length (gK s.z s.gen (M c t d).length) J)).set 7 (some (.loop (L73 g d .ready))))
  refine ⟨rfl, ⟨fun _ => ?_, fun h => (by cases h)⟩, ?_, t, J, ?_⟩
  ·show (rK s.z s.rl (M c t d) (M c t d).length).length = N
   rw [e, hlen]
  ·show kmOk c (kmOf g M c d t km)
   rw [hk2]; exact hkm2
  ·show _ = Wk c (kmOf g M c d t km) (R73 b2 (some (.loop (L73 g d .ready))) t true (rK s.z s.rl (M c t d) (M c t d).length) (rK s.z s.rl (M c t d) (M c t d).length).length (gK s.z s.gen (M c t d).length) J)
   rw [e, hk2]; rfl
def XE : Sx := { mkX spNil with mrg := false }
def Db (d : Dvd) : Option Blk := some (.box [vi d.ex, vi d.record, vi d.pence])
theorem w73c (c : Cmp) (km : List (Int × Int × Int)) (b2 : Option Blk) (g : Nat) (d : Dvd) (z : Bool) (rl : List Rng) (gen : Nat) (J : Heap) : sx XE (CCode.at c73 [1,1]) [] (doneK r73) (E73 g d) [] (Wk c km (b2 :: B3 :: some (.box [.own 8 gen rl.length]) :: some (.box [vb z]) :: Wc :: none :: some (.row 71 2 gen (enc eR rl)) :: J)) =
  let x1_ := (Blk.box [V.ptr 1 0 0])
  let y0_ := (Tr.done (V.tup [V.own 8 gen (List.length rl), V.d (D.bool z)]) (some (Blk.map (List.map entE km)) :: some (Blk.box [V.d (D.int .i64 (Cmp.houses c)), V.d (D.sl false (List.length (Cmp.held c)) (enc eI (Cmp.held c))), V.d (D.sl false (List.length (Cmp.trades c)) (enc eT (Cmp.trades c))), V.d (D.sl false (List.length (Cmp.divs c)) (enc eV (Cmp.divs c))), V.d (D.sl false (List.length (Cmp.splits c)) (enc eS (Cmp.splits c))), V.d (D.sl false (List.length (Cmp.closed c)) (enc eR (Cmp.closed c))), V.mp 0]) :: b2 :: some x1_ :: some (Blk.box [V.own 8 gen (List.length rl)]) :: some (Blk.box [V.d (D.bool z)]) :: some x1_ :: none :: some (Blk.row 71 2 gen (enc eR rl)) :: J))
  Tr.two y0_ y0_ := by kernel_rfl
theorem fin_73 (c : Cmp) (km : List (Int × Int × Int)) (d : Dvd) (z : Bool) (n gen : Nat) (ds : List D) (J : Heap) : finX 3 (.tup [.own 8 gen n, vb z]) (Wk c km (Db d :: B3 :: some (.box [.own 8 gen n]) :: some (.box [vb z]) :: Wc :: none :: some (.row 71 2 gen ds) :: J)) = (.tup [.d (.sl false n ds), vb z], Wk c km [Db d]) := by
 have hW := Wk_bel c km 3 (by decide)
 simp [finX, rowsIn, rowsIn1, rowIn, frzRows, frzB, blkDs, fzV, fz2, fz1, Wk, Db, vb, vi, bel2, bel1, bel0] at hW ⊢
 exact ⟨hW.1, hW.2, rfl⟩
section
variable {P : Program} {G : Cfg} {n : Nat}
theorem wpc_seq' {a b : CCode} {Q : CExit → Env → Heap → Prop} {env : Env} {h : Heap} (hk : wpc P G n a (fun e env h => match e with
  | .normal => wpc P G n b Q env h
  | .exit id => Q (.exit id) env h
  | .ret => Q .ret env h) env h) : wpc P G n (.seq a b) Q env h := hk
theorem wpc_block' {id : Nat} {c : CCode} {Q : CExit → Env → Heap → Prop} {env : Env} {h : Heap} (hk : wpc P G n c (fun e env h => match e with
  | .normal => Q .normal env h
  | .exit i => if i = id then Q .normal env h else Q (.exit i) env h
  | .ret => Q .ret env h) env h) : wpc P G n (.block id c) Q env h := hk
theorem wpc_tree {X : Sx} (hX : SpOk P X.sp) {c : CCode} {Q : CExit → Env → Heap → Prop} {env : Env} {h : Heap} {T : Tr} (ht : sx X c [] leafK env [] h = T) (hh : holds P G n Q (fun _ _ => True) T) : wpc P G n c Q env h :=
 sx_sound (R := fun _ _ => True) hX c [] leafK env [] h leafK_ok (.nil _) (by rw [ht]; exact hh)
end
def bndZ (c : Cmp) (g : Nat) (M : Cmp → Tru → Dvd → List Int) (N : Nat) (d : Dvd) (km : List (Int × Int × Int)) : List (Int × Int × Int) × S73 := (runY (K73 c g M N d (Db d)).stepZ (comp c c.trades ⟨[], []⟩) (km, ⟨false, [], 0⟩)).2
theorem a73r {c : Cmp} {g : Nat} {M : Cmp → Tru → Dvd → List Int} {N : Nat} {d : Dvd} {km : List (Int × Int × Int)} (hf : faultM c = 0) (hd : okDv d = true) (hOf : OfIs g M) (hN : ∀ t, datedB c t = true → (M c t d).length = N) (hN2 : N ≤ 1000) (hkm : kmOk c km) :
  ACalls Try.prog 73 [.ptr 1 0 0, .agg [.d (.fn (.func g))], Dv d] (Wk c km [Db d]) fun v h => v = .tup [vsl eR (bndZ c g M N d km).2.rl, vb (bndZ c g M N d km).2.z] ∧ kmOk c (bndZ c g M N d km).1 ∧ h = Wk c (bndZ c g M N d km).1 [Db d] := by
 have hK := K73_ok (N := N) (b2 := Db d) hf hd hOf hN hN2 rfl
 obtain ⟨fn, h1, h2, h3, h4, h5⟩ := q73
 refine ACalls.fin (acalls_of h1 h2 h3 h4 h5 (show 3 ≤ 56 by decide) ?_)
 show wpc Try.prog G73 3 (.seq (CCode.at c73 [0]) (.seq (.seq (CCode.at c73 [1,0,0]) (.block 0 (.rangeF (.tmp 12) [13] (CCode.at c73 [1,0,1,0,0]) (CCode.at c73 [1,0,1,0,1])))) (CCode.at c73 [1,1]))) _ _ _
 refine wpc_seq' (wpc_tree (X := mkX spNil) (spNil_ok _) (w73a c km (Db d) g d) ?_)
 refine wpc_seq' (wpc_seq' (wpc_tree (X := XA c km (Db d) B3 (some (.box [.d .nils])) (some (.box [vb false]))) (spAdd_ok (ent95At_ok c km (Db d) B3 _ _) (spNil_ok _)) (w73b c km (Db d) (some (.box [.d .nils])) (some (.box [vb false])) g d) ?_))
 refine ⟨⟨rfl, rfl⟩, ?_⟩
 have hA0 : (K73 c g M N d (Db d)).A ⟨false, [], 0⟩ := ⟨fun h => (by cases h), fun _ => rfl⟩
 simp only [holds]
 show wpc Try.prog G73 3 (.block 0 (.rangeF (.tmp 12) [13] (CCode.at c73 [1,0,1,0,0]) (CCode.at c73 [1,0,1,0,1]))) _ (E73 g d) (Wk c km [Db d, B3, some (.box [.d .nils]), some (.box [vb false]), Wc])
 refine wpc_block' (rangeF_truths (K := K73 c g M N d (Db d)) hK (g := .tmp 12) (ps := [13]) (ca := CCode.at c73 [1,0,1,0,0]) (cb := CCode.at c73 [1,0,1,0,1]) (s := ⟨false, [], 0⟩) (env := E73 g d) (Db d) B3 (some (.box [.d .nils])) (some (.box [vb false])) hA0 hkm rfl ?_ ?_ ?_)
 ·exact StLe.ghostBox (id := 4) (off := 0) (cs := [.d .nils]) 71 2 rfl rfl
 ·exact fun s _ => ⟨.ready, none, rfl, by decide⟩
 ·intro s' km' J st pe hs' hA' hkm' h8
  have h9 : (some (Blk.loop (L73 g d .ready))) = some (.loop ⟨G73, CCode.at c73 [1,0,1,0,0], CCode.at c73 [1,0,1,0,1], [13], E73 g d, st, pe⟩) := h8
  simp only [L73, Option.some.injEq, Blk.loop.injEq, LoopB.mk.injEq, true_and] at h9
  obtain ⟨_, rfl⟩ := h9
  show wpc Try.prog G73 3 (CCode.at c73 [1,1]) _ (E73 g d) (Wk c km' (Db d :: B3 :: some (.box [.own 8 s'.gen s'.rl.length]) :: some (.box [vb s'.z]) :: Wc :: none :: some (.row 71 2 s'.gen (enc eR s'.rl)) :: J))
  refine sx_sound (X := XE) (R := fun v h1 => (finX 3 v h1).1 = .tup [vsl eR (bndZ c g M N d km).2.rl, vb (bndZ c g M N d km).2.z] ∧ kmOk c (bndZ c g M N d km).1 ∧ (finX 3 v h1).2 = Wk c (bndZ c g M N d km).1 [Db d]) (spNil_ok _) (CCode.at c73 [1,1]) [] (doneK r73) _ [] _ (doneK_ok rfl) (.nil _) ?_
  rw [w73c]
  have hend : (fun v h1 => (finX 3 v h1).1 = V.tup [vsl eR (bndZ c g M N d km).2.rl, vb (bndZ c g M N d km).2.z] ∧ kmOk c (bndZ c g M N d km).1 ∧ (finX 3 v h1).2 = Wk c (bndZ c g M N d km).1 [Db d]) (.tup [.own 8 s'.gen s'.rl.length, vb s'.z]) (Wk c km' (Db d :: B3 :: some (.box [.own 8 s'.gen s'.rl.length]) :: some (.box [vb s'.z]) :: Wc :: none :: some (.row 71 2 s'.gen (enc eR s'.rl)) :: J)) := by
   simp only [fin_73]
   have hb : bndZ c g M N d km = (km', s') := hs'.symm
   rw [hb]
   exact ⟨rfl, hkm', rfl⟩
  exact ⟨hend, hend⟩
end
end Go.Proofs.Ytdnefcjbcieecaa
namespace Go.Proofs.Ytdnefcjbcieecaa
open Go Go.Proofs
noncomputable section
def truthsP (c : Cmp) : List Tru := (comp c c.trades ⟨[], []⟩).filter fun t => fitsB c t
def bndL (M : Tru → List Int) : List Tru → Bool × List Rng → Bool × List Rng
 | [], s => s
 | t :: l, s => bndL M l (true, rK s.1 s.2 (M t) (M t).length)
theorem bndZ_run (c : Cmp) (g : Nat) (M : Cmp → Tru → Dvd → List Int) (N : Nat) (d : Dvd) (b2 : Option Blk) : ∀ (l : List Tru) (km : List (Int × Int × Int)) (s : S73),
  ((runY (K73 c g M N d b2).stepZ l (km, s)).2.2.z, (runY (K73 c g M N d b2).stepZ l (km, s)).2.2.rl) = bndL (fun t => M c t d) (l.filter fun t => fitsB c t) (s.z, s.rl)
 | [], km, s => rfl
 | t :: l, km, s => by
  by_cases h : fitsB c t = true
  ·have hz : (K73 c g M N d b2).stepZ t (km, s) = (true, (K73 c g M N d b2).kmY t (kmF c t km (kEnd c t)), ⟨true, rK s.z s.rl (M c t d) (M c t d).length, gK s.z s.gen (M c t d).length⟩) := by
    unfold Cons.stepZ
    rw [if_pos (show fitsB (K73 c g M N d b2).c t = true from h)]; rfl
   rw [runY, hz, if_pos rfl, List.filter_cons_of_pos (by simpa using h), bndL]
   exact bndZ_run c g M N d b2 l _ _
  ·have hz : (K73 c g M N d b2).stepZ t (km, s) = (true, kmF c t km (kEnd c t), s) := by
    unfold Cons.stepZ
    rw [if_neg (show ¬ fitsB (K73 c g M N d b2).c t = true from h)]; rfl
   rw [runY, hz, if_pos rfl, List.filter_cons_of_neg (by simpa using h)]
   exact bndZ_run c g M N d b2 l _ _
def bndM (M : Cmp → Tru → Dvd → List Int) (c : Cmp) (d : Dvd) : List Rng := (bndL (fun t => M c t d) (truthsP c) (false, [])).2
theorem bndZ_rl (c : Cmp) (g : Nat) (M : Cmp → Tru → Dvd → List Int) (N : Nat) (d : Dvd) (km : List (Int × Int × Int)) : (bndZ c g M N d km).2.rl = bndM M c d :=
 congrArg Prod.snd (bndZ_run c g M N d (Db d) (comp c c.trades ⟨[], []⟩) km ⟨false, [], 0⟩)
theorem bndL_z (M : Tru → List Int) : ∀ (l : List Tru) (s : Bool × List Rng), (bndL M l s).1 = (s.1 || !l.isEmpty)
 | [], s => by simp [bndL]
 | t :: l, s => by rw [bndL, bndL_z M l]; simp
theorem bndZ_z (c : Cmp) (g : Nat) (M : Cmp → Tru → Dvd → List Int) (N : Nat) (d : Dvd) (km : List (Int × Int × Int)) : (bndZ c g M N d km).2.z = !(truthsP c).isEmpty := by
 have h := congrArg Prod.fst (bndZ_run c g M N d (Db d) (comp c c.trades ⟨[], []⟩) km ⟨false, [], 0⟩)
 have h : (bndZ c g M N d km).2.z = (bndL (fun t => M c t d) (truthsP c) (false, [])).1 := h
 rw [h, bndL_z]; simp
def M73 (g : Nat) : Cmp → Tru → Dvd → List Int := bif Nat.beq g 64 then paidM else bif Nat.beq g 66 then claimsM else rightsM
def N73 (g : Nat) (c : Cmp) : Nat := bif Nat.beq g 66 then c.trades.length else c.held.length
def ent73 : Ent := fun args h => match args, asW h with
 | [.ptr 1 0 0, .agg [.d (.fn (.func g))], y], some (c, km, [_]) => match asDv y with
  | some d => some ((g = 64 ∨ g = 66 ∨ g = 67) ∧ h = Wk c km [Db d] ∧ Dv d = y ∧ faultM c = 0 ∧ okDv d = true ∧ kmOk c km, .tup [vsl eR (bndM (M73 g) c d), vb (!(truthsP c).isEmpty)], some (Wk c (bndZ c g (M73 g) (N73 g c) d km).1 [Db d]))
  | none => none
 | _, _ => none
theorem ent73_at {g : Nat} {M : Cmp → Tru → Dvd → List Int} {n : Cmp → Nat} (hM : M73 g = M) (hn : ∀ c, N73 g c = n c) {c : Cmp} {d : Dvd} {km : List (Int × Int × Int)} (hf : faultM c = 0) (hd : okDv d = true) (hOf : OfIs g M) (hN : ∀ t, (M c t d).length = n c) (hN2 : n c ≤ 1000) (hkm : kmOk c km) :
  ACalls Try.prog 73 [.ptr 1 0 0, .agg [.d (.fn (.func g))], Dv d] (Wk c km [Db d]) fun v h => v = .tup [vsl eR (bndM (M73 g) c d), vb (!(truthsP c).isEmpty)] ∧ h = heapO (Wk c km [Db d]) (some (Wk c (bndZ c g (M73 g) (N73 g c) d km).1 [Db d])) := by
 rw [hM, hn, ← bndZ_rl c g M (n c) d km, ← bndZ_z c g M (n c) d km]
 exact (a73r hf hd hOf (fun t _ => hN t) hN2 hkm).mono fun v h1 ⟨e1, _, e2⟩ => ⟨e1, e2⟩
theorem ent73_ok : EntOk Try.prog 73 ent73 := by
 intro args h p v h' he hp
 unfold ent73 at he
 split at he
 ·split at he
  ·cases he
   obtain ⟨hg, h1, rfl, h2, h3, h4⟩ := hp
   have hb := (fault_ok h2).1
   rw [h1]
   rcases hg with rfl | rfl | rfl
   ·exact ent73_at (g := 64) (M := paidM) (n := fun c => c.held.length) rfl (fun c => rfl) h2 h3 of64 (fun t => paidM_len _ _ _) (by omega) h4
   ·exact ent73_at (g := 66) (M := claimsM) (n := fun c => c.trades.length) rfl (fun c => rfl) h2 h3 of66 (fun t => claimsM_len _ _ _) (by omega) h4
   ·exact ent73_at (g := 67) (M := rightsM) (n := fun c => c.held.length) rfl (fun c => rfl) h2 h3 of67 (fun t => rightsM_len _ _ _) (by omega) h4
  ·cases he
 ·cases he
end
end Go.Proofs.Ytdnefcjbcieecaa
namespace Go.Proofs.Ytdnefcjbcieecaa
open Go Go.Proofs
noncomputable section
mutual
def V.ren (p : Nat → Nat) : V → V
 | .any => .any
 | .d x => .d x
 | .agg cs => .agg (renL p cs)
 | .tup cs => .tup (renL p cs)
 | .own a b c => .own (p a) b c
 | .ptr a b c => .ptr (p a) b c
 | .rptr a b => .rptr a b
 | .fn f a c => .fn f (renL p a) (renL p c)
 | .mp a => .mp (p a)
 | .yl a => .yl (p a)
def renL (p : Nat → Nat) : List V → List V
 | [] => []
 | v :: l => v.ren p :: renL p l
end
theorem renL_eq (p : Nat → Nat) : ∀ l : List V, renL p l = l.map (V.ren p)
 | [] => rfl
 | v :: l => by rw [renL, renL_eq p l]; rfl
mutual
theorem V.ren_ren {p q : Nat → Nat} (h : ∀ i, q (p i) = i) : ∀ v : V, (v.ren p).ren q = v
 | .any => rfl
 | .d x => rfl
 | .agg cs => by rw [V.ren, V.ren, renL_renL h cs]
 | .tup cs => by rw [V.ren, V.ren, renL_renL h cs]
 | .own a b c => by rw [V.ren, V.ren, h]
 | .ptr a b c => by rw [V.ren, V.ren, h]
 | .rptr a b => rfl
 | .fn f a c => by rw [V.ren, V.ren, renL_renL h a, renL_renL h c]
 | .mp a => by rw [V.ren, V.ren, h]
 | .yl a => by rw [V.ren, V.ren, h]
theorem renL_renL {p q : Nat → Nat} (h : ∀ i, q (p i) = i) : ∀ l : List V, renL q (renL p l) = l
 | [] => rfl
 | v :: l => by rw [renL, renL, V.ren_ren h v, renL_renL h l]
end
def Mem.ren (M : Mem) (q : Nat → Nat) : Mem := { M with mu := fun i => M.mu (q i) }
theorem RepV.ren {M : Mem} {p q : Nat → Nat} (h : ∀ i, q (p i) = i) {v : V} {c : Value} (hr : RepV M v c) : RepV (M.ren q) (v.ren p) c := by
 have hmu : ∀ i, (M.ren q).mu (p i) = M.mu i := fun i => by show M.mu (q (p i)) = _; rw [h]
 induction hr with
 | any v => exact .any v
 | d x v hx => exact .d x v hx
 | agg cs arr hl h0 h1 ih =>
  rw [V.ren, renL_eq]
  refine .agg _ arr (by simp [hl]) (fun k v c hv hc => ?_) h1
  rw [List.getElem?_map] at hv
  cases hk : cs[k]? with
  | none => rw [hk] at hv; cases hv
  | some x => rw [hk] at hv; cases hv; exact ih k x c hk hc
 | tup cs arr hl h0 ih =>
  rw [V.ren, renL_eq]
  refine .tup _ arr (by simp [hl]) (fun k v c hv hc => ?_)
  rw [List.getElem?_map] at hv
  cases hk : cs[k]? with
  | none => rw [hk] at hv; cases hv
  | some x => rw [hk] at hv; cases hv; exact ih k x c hk hc
 | own id g len r ao cap h1 hg hl hm hv => exact .own (p id) g len r ao cap (by rw [hmu]; exact h1) hg hl hm hv
 | ptr id g off r b h1 hg hv => exact .ptr (p id) g off r b (by rw [hmu]; exact h1) hg hv
 | rptr cs off b o vals hro hrep => exact .rptr cs off b o vals hro hrep
 | fn f first caps a1 a2 h1l h2l h1 h2 ih1 ih2 =>
  rw [V.ren, renL_eq, renL_eq]
  refine .fn f _ _ a1 a2 (by simp [h1l]) (by simp [h2l]) (fun k v c hv hc => ?_) (fun k v c hv hc => ?_)
  ·rw [List.getElem?_map] at hv
   cases hk : first[k]? with
   | none => rw [hk] at hv; cases hv
   | some x => rw [hk] at hv; cases hv; exact ih1 k x c hk hc
  ·rw [List.getElem?_map] at hv
   cases hk : caps[k]? with
   | none => rw [hk] at hv; cases hv
   | some x => rw [hk] at hv; cases hv; exact ih2 k x c hk hc
 | mp id r b h1 hv => exact .mp (p id) r b (by rw [hmu]; exact h1) hv
 | yl id r b h1 hv => exact .yl (p id) r b (by rw [hmu]; exact h1) hv
def Blk.ren (p : Nat → Nat) : Blk → Blk
 | .box cs => .box (renL p cs)
 | .row e sz g cs => .row e sz g cs
 | .obj o => .obj o
 | .map es => .map (es.map fun e => (e.1.ren p, e.2.ren p))
 | .loop L => .loop { L with env := L.env.map fun e => (e.1, e.2.ren p) }
theorem env_ren (p : Nat → Nat) : ∀ (env : Env) (k : Nat), Env.get (env.map fun e => (e.1, e.2.ren p)) k = (env.get k).ren p
 | [], k => rfl
 | (j, v) :: r, k => by
  have ih := env_ren p r k
  show (if k = j then v.ren p else Env.get (r.map fun e => (e.1, e.2.ren p)) k) = (if k = j then v else Env.get r k).ren p
  split
  ·rfl
  ·exact ih
theorem BlkAt.ren {M : Mem} {w : World} {r : Ref} {p q : Nat → Nat} (h : ∀ i, q (p i) = i) {b : Blk} (hb : BlkAt M w r b) : BlkAt (M.ren q) w r (b.ren p) := by
 cases b with
 | box cs =>
  obtain ⟨h1, b, arr, T, h2, h3, h4, h5⟩ := hb
  refine ⟨h1, b, arr, T, h2, h3, ⟨by rw [renL_eq]; simpa using h4.1, fun k v c hv hc => ?_⟩, h5⟩
  rw [renL_eq, List.getElem?_map] at hv
  cases hk : cs[k]? with
  | none => rw [hk] at hv; cases hv
  | some x => rw [hk] at hv; cases hv; exact (h4.2 k x c hk hc).ren h
 | row e sz g cs => exact hb
 | obj o => exact hb
 | map es =>
  obtain ⟨h1, b, arr, clock, h2, h3, h4, h5⟩ := hb
  refine ⟨h1, b, arr, clock, h2, h3, by simpa using h4, fun k e x he hx => ?_⟩
  rw [List.getElem?_map] at he
  cases hk : es[k]? with
  | none => rw [hk] at he; cases he
  | some y => rw [hk] at he; cases he; exact ⟨(h5 k y x hk hx).1.ren h, (h5 k y x hk hx).2.ren h⟩
 | loop L =>
  obtain ⟨h1, b, rec, h2, h3, h4, h5, h6, h7, h8, h9, h10⟩ := hb
  exact ⟨h1, b, rec, h2, h3, h4, h5, h6, h7, h8, h9, fun k => by
   show RepV _ (Env.get (L.env.map fun e => (e.1, e.2.ren p)) k) _
   rw [env_ren]; exact (h10 k).ren h⟩
theorem Blk.ren_ren {p q : Nat → Nat} (h : ∀ i, q (p i) = i) (b : Blk) : (b.ren p).ren q = b := by
 cases b with
 | box cs => simp only [Blk.ren, renL_renL h]
 | row e sz g cs => rfl
 | obj o => rfl
 | map es =>
  simp only [Blk.ren, List.map_map]
  congr 1
  conv => rhs; rw [← List.map_id es]
  refine List.map_congr_left fun e _ => ?_
  simp [V.ren_ren h]
 | loop L =>
  simp only [Blk.ren, List.map_map]
  have : (List.map ((fun e : Nat × V => (e.1, e.2.ren q)) ∘ fun e => (e.1, e.2.ren p)) L.env) = L.env := by
   conv => rhs; rw [← List.map_id L.env]
   refine List.map_congr_left fun e _ => ?_
   simp [V.ren_ren h]
  rw [this]
def HRen (p : Nat → Nat) (h h' : Heap) : Prop := h'.length = h.length ∧ ∀ i, h'[p i]? = (h[i]?).map (Option.map (Blk.ren p))
theorem HRen.symm {p q : Nat → Nat} (h1 : ∀ i, q (p i) = i) (h2 : ∀ i, p (q i) = i) {h h' : Heap} (hr : HRen p h h') : HRen q h' h := by
 refine ⟨hr.1.symm, fun i => ?_⟩
 have := hr.2 (q i)
 rw [h2] at this
 rw [this]
 cases h[q i]? with
 | none => rfl
 | some b => cases b with
  | none => rfl
  | some b => simp [Blk.ren_ren h1]
theorem HRen.live {p q : Nat → Nat} (h1 : ∀ i, q (p i) = i) {M : Mem} {h h' : Heap} (hr : HRen p h h') {b : Nat} (hl : liveBlk M h b) : liveBlk (M.ren q) h' b := by
 obtain ⟨i, blk, r, hi, hm, hb⟩ := hl
 refine ⟨p i, blk.ren p, r, ?_, ?_, hb⟩
 ·rw [hr.2, hi]; rfl
 ·show M.mu (q (p i)) = _
  rw [h1]; exact hm
theorem Mem.ren_ren {p q : Nat → Nat} (h2 : ∀ i, q (p i) = i) (M : Mem) : (M.ren q).ren p = M := by
 show { M with mu := fun i => M.mu (q (p i)) } = M
 simp only [h2]
theorem Sim.ren {p q : Nat → Nat} (h1 : ∀ i, q (p i) = i) (h2 : ∀ i, p (q i) = i) {M : Mem} {h h' : Heap} {w : World} (hlen : ∀ i, h.length ≤ i → h.length ≤ q i) (hr : HRen p h h') (hs : Sim M h w) : Sim (M.ren q) h' w := by
 have hsy := hr.symm h1 h2
 have hlv : ∀ b, liveBlk (M.ren q) h' b → liveBlk M h b := fun b hl => by
  have := hsy.live (q := p) h2 hl
  rw [Mem.ren_ren h1] at this; exact this
 refine ⟨fun i blk hi => ?_, fun i j bi bj ri rj b hi hj hri hrj hbi hbj => ?_, fun b o v hv => ⟨(hs.ro b o v hv).1, fun hl => (hs.ro b o v hv).2 (hlv b hl)⟩, fun i hi => hs.dom _ (hlen i (by rw [← hr.1]; exact hi)), fun b hb => ⟨(hs.df b hb).1, fun hl => (hs.df b hb).2 (hlv b hl)⟩⟩
 ·have e := hsy.2 i
  rw [hi] at e
  obtain ⟨r, hm, hat⟩ := hs.blks (q i) (blk.ren q) e
  refine ⟨r, hm, ?_⟩
  have := hat.ren (p := p) (q := q) h1
  rw [Blk.ren_ren h2] at this
  exact this
 ·have ei := hsy.2 i
  rw [hi] at ei
  have ej := hsy.2 j
  rw [hj] at ej
  have := hs.inj (q i) (q j) _ _ ri rj b ei ej hri hrj hbi hbj
  have := congrArg p this
  rw [h2, h2] at this
  exact this
theorem HRen.make {p q : Nat → Nat} (h1 : ∀ i, q (p i) = i) {n : Nat} (hid : ∀ i, n ≤ i → p i = i) (k0 : Heap) (hn : n ≤ k0.length) : ∃ k, HRen p k0 k := by
 have hlt : ∀ i, i < k0.length → p i < k0.length := fun i hi => by
  rcases Nat.lt_or_ge (p i) k0.length with g | g
  ·exact g
  ·have e1 := hid (p i) (by omega)
   have e2 := h1 (p i)
   rw [e1, h1] at e2
   omega
 refine ⟨(List.range k0.length).map fun j => (k0[q j]?).join.map (Blk.ren p), by simp, fun i => ?_⟩
 rcases Nat.lt_or_ge i k0.length with g | g
 ·rw [List.getElem?_map, List.getElem?_range (hlt i g)]
  simp only [Option.map_some, h1]
  rw [List.getElem?_eq_getElem g]
  rfl
 ·rw [hid i (by omega), List.getElem?_eq_none (by simpa using g), List.getElem?_eq_none g]; rfl
theorem ACalls.ren {P : Program} {f : FuncId} {vs : List V} {h h' : Heap} {R : V → Heap → Prop} {p q : Nat → Nat} (h1 : ∀ i, q (p i) = i) (h2 : ∀ i, p (q i) = i) (hid : ∀ i, h.length ≤ i → p i = i) (hr : HRen p h h')
  (hc : ACalls P f vs h R) : ACalls P f (vs.map (V.ren p)) h' fun v k => ∃ v0 k0, R v0 k0 ∧ v = v0.ren p ∧ HRen p k0 k := by
 have hidq : ∀ i, h.length ≤ i → q i = i := fun i hi => by
  have := h1 i
  rw [hid i hi] at this
  exact this
 refine ⟨hc.1, fun M w args hm hs hu => ?_⟩
 have hsy := hr.symm h1 h2
 have hs0 : Sim (M.ren p) h w := hs.ren (p := q) (q := p) h2 h1 (fun i hi => by rw [hr.1] at hi ⊢; rw [hid i hi]; exact hi) hsy
 have hu0 : RepL (M.ren p) vs args := ⟨by simpa using hu.1, fun k v c hv hc => by
  have := (hu.2 k (v.ren p) c (by rw [List.getElem?_map, hv]; rfl) hc).ren (p := q) (q := p) h2
  rw [V.ren_ren h1] at this
  exact this⟩
 refine (hc.2 (M.ren p) w args hm hs0 hu0).mono ?_
 rintro e w' ⟨cv, v, k0, M1, rfl, pp, hrv, hR⟩
 obtain ⟨k, hk⟩ := HRen.make h1 hid k0 pp.len
 have hlive : ∀ b, liveBlk (M.ren p) h b → liveBlk M h' b := fun b hl => by
  have := hr.live (q := q) h1 hl
  rw [Mem.ren_ren h2] at this
  exact this
 have hlive1 : ∀ b, liveBlk (M1.ren q) k b → liveBlk M1 k0 b := fun b hl => by
  have := (hk.symm h1 h2).live (q := p) h2 hl
  rw [Mem.ren_ren h1] at this
  exact this
 have hl := pp.len
 refine ⟨cv, v.ren p, k, M1.ren q, rfl, ⟨pp.ro, ⟨⟨pp.dc.1.1, pp.dc.1.2.1, fun b o u hb hu => (pp.dc.1.2.2 b o u hb hu).elim .inl fun hl => .inr (hlive b hl)⟩, pp.dc.2⟩, fun i r hi => ?_, by rw [hk.1, hr.1]; exact hl,
  pp.sim.ren h1 h2 (fun i hi => by rw [hidq i (by omega)]; exact hi) hk, pp.os, pp.tape, pp.output, pp.size, fun b hb hnl => pp.keep b hb fun hl => hnl (hlive b hl), fun b hb hl => hlive b (pp.live b hb (hlive1 b hl))⟩, hrv.ren h1, v, k0, hR, rfl, hk⟩
 have := pp.le (q i) r (by show M.mu (p (q i)) = _; rw [h2]; exact hi)
 exact this
end
end Go.Proofs.Ytdnefcjbcieecaa
namespace Go.Proofs.Ytdnefcjbcieecaa
open Go Go.Proofs
noncomputable section
def Wbox1 (c : Cmp) : List V := [vi c.houses, .d (.sl false c.held.length (enc eI c.held)), .d (.sl false c.trades.length (enc eT c.trades)), .d (.sl false c.divs.length (enc eV c.divs)), .d (.sl false c.splits.length (enc eS c.splits)), .d (.sl false c.closed.length (enc eR c.closed)), .mp 1]
def Wk1 (b : Option Blk) (c : Cmp) (km : List (Int × Int × Int)) : Heap := [b, some (.map (km.map entE)), some (.box (Wbox1 c))]
def p1 : Nat → Nat
 | 0 => 1
 | 1 => 2
 | 2 => 0
 | n + 3 => n + 3
def q1 : Nat → Nat
 | 0 => 2
 | 1 => 0
 | 2 => 1
 | n + 3 => n + 3
theorem q1_p1 : ∀ i, q1 (p1 i) = i
 | 0 => rfl
 | 1 => rfl
 | 2 => rfl
 | n + 3 => rfl
theorem p1_q1 : ∀ i, p1 (q1 i) = i
 | 0 => rfl
 | 1 => rfl
 | 2 => rfl
 | n + 3 => rfl
theorem entE_ren (km : List (Int × Int × Int)) : ((km.map entE).map fun e => (e.1.ren p1, e.2.ren p1)) = km.map entE := by
 rw [List.map_map]
 refine List.map_congr_left fun e _ => ?_
 simp [entE, V.ren, renL, vi]
theorem ren_Wk (c : Cmp) (km : List (Int × Int × Int)) (d : Dvd) : HRen p1 (Wk c km [Db d]) (Wk1 (Db d) c km) := by
 refine ⟨rfl, fun i => ?_⟩
 match i with
 | 0 =>
  show some (some (Blk.map (km.map entE))) = some (some (Blk.map ((km.map entE).map fun e => (e.1.ren p1, e.2.ren p1))))
  rw [entE_ren]
 | 1 => rfl
 | 2 => rfl
 | n + 3 => simp [p1, Wk1, Wk]
theorem HRen.uniq {p q : Nat → Nat} (h2 : ∀ i, p (q i) = i) {h a b : Heap} (ha : HRen p h a) (hb : HRen p h b) : a = b := by
 apply List.ext_getElem?
 intro i
 have e1 := ha.2 (q i)
 have e2 := hb.2 (q i)
 rw [h2] at e1 e2
 rw [e1, e2]
theorem w72b (b : Option Blk) (c : Cmp) : sx (mkX spNil) c72 [] (doneK r72) (envOf [Cv c]) [] [b] =
  Tr.need (DP.P (dp True)) (Tr.done (V.ptr 2 0 0) [b, some (Blk.map []), some (Blk.box [V.d (D.int .i64 (Cmp.houses c)), V.d (D.sl false (List.length (Cmp.held c)) (enc eI (Cmp.held c))), V.d (D.sl false (List.length (Cmp.trades c)) (enc eT (Cmp.trades c))), V.d (D.sl false (List.length (Cmp.divs c)) (enc eV (Cmp.divs c))), V.d (D.sl false (List.length (Cmp.splits c)) (enc eS (Cmp.splits c))), V.d (D.sl false (List.length (Cmp.closed c)) (enc eR (Cmp.closed c))), V.mp 1])]) := by kernel_rfl
theorem ent73_ren {g : Nat} {c : Cmp} {d : Dvd} {km km' : List (Int × Int × Int)} {v : V} (hv : v.ren p1 = v) (hc : ACalls Try.prog 73 [.ptr 1 0 0, .agg [.d (.fn (.func g))], Dv d] (Wk c km [Db d]) fun v1 h1 => v1 = v ∧ h1 = Wk c km' [Db d]) :
  ACalls Try.prog 73 [.ptr 2 0 0, .agg [.d (.fn (.func g))], Dv d] (Wk1 (Db d) c km) fun v1 h1 => v1 = v ∧ h1 = Wk1 (Db d) c km' := by
 have h := ACalls.ren q1_p1 p1_q1 (fun i hi => by
  match i, hi with
  | n + 3, _ => rfl) (ren_Wk c km d) hc
 have e : List.map (V.ren p1) [.ptr 1 0 0, .agg [.d (.fn (.func g))], Dv d] = [.ptr 2 0 0, .agg [.d (.fn (.func g))], Dv d] := by
  simp [V.ren, renL, Dv, p1, vi]
 rw [e] at h
 refine h.mono ?_
 rintro v1 h1 ⟨v0, k0, ⟨rfl, rfl⟩, rfl, hk⟩
 exact ⟨hv, HRen.uniq p1_q1 hk (ren_Wk c km' d)⟩
def ent72x : Ent := fun args h => match args, h with
 | [x], [] => match asC x with
  | some c => some (Cv c = x, .ptr 1 0 0, some (Wk c [] []))
  | none => none
 | [x], [b] => match asC x with
  | some c => some (Cv c = x, .ptr 2 0 0, some (Wk1 b c []))
  | none => none
 | _, _ => none
theorem ent72x_ok : EntOk Try.prog 72 ent72x := by
 intro args h p v h' he hp
 unfold ent72x at he
 split at he
 ·split at he
  ·cases he; rw [← hp]; exact a72 _
  ·cases he
 ·split at he
  ·cases he; rw [← hp]
   refine q72.calls (X := mkX spNil) (spNil_ok _) rfl (w72b _ _) ?_
   exact ⟨trivial, rfl, rfl⟩
  ·cases he
 ·cases he
def asW1 (h : Heap) : Option (Cmp × List (Int × Int × Int) × Option Blk) := match h with
 | [b, some (.map es), some (.box [x0, x1, x2, x3, x4, x5, .mp 1])] => match asC (.agg [x0, x1, x2, x3, x4, x5]) with
  | some c => some (c, dK es, b)
  | none => none
 | _ => none
def ent73y : Ent := fun args h => match args, asW1 h with
 | [.ptr 2 0 0, .agg [.d (.fn (.func g))], y], some (c, km, _) => match asDv y with
  | some d => some ((g = 64 ∨ g = 66 ∨ g = 67) ∧ h = Wk1 (Db d) c km ∧ Dv d = y ∧ faultM c = 0 ∧ okDv d = true ∧ kmOk c km, .tup [vsl eR (bndM (M73 g) c d), vb (!(truthsP c).isEmpty)], some (Wk1 (Db d) c (bndZ c g (M73 g) (N73 g c) d km).1))
  | none => none
 | _, _ => none
theorem ent73y_ok : EntOk Try.prog 73 ent73y := by
 intro args h p v h' he hp
 unfold ent73y at he
 split at he
 ·split at he
  ·cases he
   obtain ⟨hg, h1, rfl, h2, h3, h4⟩ := hp
   have hb := (fault_ok h2).1
   rw [h1]
   refine ent73_ren (by simp [V.ren, renL, vb, vsl]) ?_
   rcases hg with rfl | rfl | rfl
   ·exact ent73_at (g := 64) (M := paidM) (n := fun c => c.held.length) rfl (fun c => rfl) h2 h3 of64 (fun t => paidM_len _ _ _) (by omega) h4
   ·exact ent73_at (g := 66) (M := claimsM) (n := fun c => c.trades.length) rfl (fun c => rfl) h2 h3 of66 (fun t => claimsM_len _ _ _) (by omega) h4
   ·exact ent73_at (g := 67) (M := rightsM) (n := fun c => c.held.length) rfl (fun c => rfl) h2 h3 of67 (fun t => rightsM_len _ _ _) (by omega) h4
  ·cases he
 ·cases he
def ent73x : Ent := fun args h => match ent73 args h with
 | some r => some r
 | none => ent73y args h
theorem ent73x_ok : EntOk Try.prog 73 ent73x := by
 intro args h p v h' he hp
 unfold ent73x at he
 split at he
 ·rename_i r e
  cases he
  exact ent73_ok _ _ _ _ _ e hp
 ·exact ent73y_ok _ _ _ _ _ he hp
theorem q33 : FunIs Try.prog 33 G33 c33 r33 := ⟨Try.f33, Try.func33, k33, e33, by kernel_rfl, by kernel_rfl⟩
def tab33 : Spec := spAdd 73 ent73x (spAdd 72 ent72x (spAdd 71 ent71 (spAdd 52 ent52 spNil)))
theorem tab33_ok : SpOk Try.prog tab33 := spAdd_ok ent73x_ok (spAdd_ok ent72x_ok (spAdd_ok ent71_ok (spAdd_ok ent52_ok (spNil_ok _))))
def X33 : Sx := mkX tab33
theorem w33 (c : Cmp) (n : Int) : sx X33 c33 [] (doneP r33) (envOf [Cv c, vi n]) [] [] =
  let x1_ := (List.length (Cmp.divs c))
  let x2_ := ((64 : FuncId) = (64 : FuncId) ∨ (64 : FuncId) = (66 : FuncId) ∨ (64 : FuncId) = (67 : FuncId))
  let x3_ := (D.int .i64 (Cmp.houses (dCe c)))
  let x4_ := (D.sl false (List.length (Cmp.held (dCe c))) (enc eI (Cmp.held (dCe c))))
  let x5_ := (D.sl false (List.length (Cmp.trades (dCe c))) (enc eT (Cmp.trades (dCe c))))
  let x6_ := (D.sl false (List.length (Cmp.divs (dCe c))) (enc eV (Cmp.divs (dCe c))))
  let x7_ := (D.sl false (List.length (Cmp.splits (dCe c))) (enc eS (Cmp.splits (dCe c))))
  let x8_ := (D.sl false (List.length (Cmp.closed (dCe c))) (enc eR (Cmp.closed (dCe c))))
  let y5_ := (enc eV (Cmp.divs c))
  let x9_ := [V.d (D.int .i64 (cI y5_ 3 n 0)), V.d (D.int .i64 (cI y5_ 3 n 1)), V.d (D.int .i64 (cI y5_ 3 n 2))]
  let x10_ := (!!List.isEmpty (truthsP (dCe (dCe c))))
  let x11_ := ((66 : FuncId) = (64 : FuncId) ∨ (66 : FuncId) = (66 : FuncId) ∨ (66 : FuncId) = (67 : FuncId))
  let y1_ := ({ ex := cI y5_ 3 n 0, record := cI y5_ 3 n 1, pence := cI y5_ 3 n 2 } : Dvd)
  let y7_ := (dK (List.map entE []))
  let x12_ := (Prod.fst (bndZ (dCe (dCe c)) (64 : FuncId) (M73 (64 : FuncId)) (N73 (64 : FuncId) (dCe (dCe c))) y1_ y7_))
  let x13_ := (dK (List.map entE x12_))
  let x14_ := [V.d (D.int .i64 (Dvd.ex y1_)), V.d (D.int .i64 (Dvd.record y1_)), V.d (D.int .i64 (Dvd.pence y1_))]
  let x15_ := ((67 : FuncId) = (64 : FuncId) ∨ (67 : FuncId) = (66 : FuncId) ∨ (67 : FuncId) = (67 : FuncId))
  let y0_ := ({ ex := Dvd.ex y1_, record := Dvd.record y1_, pence := Dvd.pence y1_ } : Dvd)
  let y4_ := (dCe (dCe (dCe c)))
  let x16_ := (Prod.fst (bndZ y4_ (66 : FuncId) (M73 (66 : FuncId)) (N73 (66 : FuncId) y4_) y0_ x13_))
  let x17_ := (dCe y4_)
  let x18_ := (dK (List.map entE x16_))
  let x19_ := [V.d (D.int .i64 (Dvd.ex y0_)), V.d (D.int .i64 (Dvd.record y0_)), V.d (D.int .i64 (Dvd.pence y0_))]
  let x20_ := (bndM (M73 (64 : FuncId)) (dCe (dCe c)) y1_)
  let x21_ := (bndM (M73 (66 : FuncId)) y4_ y0_)
  let y2_ := ({ ex := Dvd.ex y0_, record := Dvd.record y0_, pence := Dvd.pence y0_ } : Dvd)
  let x22_ := (bndM (M73 (67 : FuncId)) x17_ y2_)
  let x23_ := (D.int .i64 0)
  let x24_ := (Blk.box [V.d x23_, V.d x23_, V.d x23_])
  let x25_ := (Db y1_)
  let x26_ := (Db y0_)
  let y3_ := (Tr.done (V.tup [V.d (D.sl false (List.length x20_) (enc eR x20_)), V.d (D.sl false (List.length x21_) (enc eR x21_)), V.d (D.sl false (List.length x22_) (enc eR x22_)), V.d x23_]) [])
  let y6_ := (Tr.done (V.tup [V.d D.nils, V.d D.nils, V.d D.nils, V.d (D.int .i64 (9 : Int))]) [])
  Tr.need (Cv (dCe c) = Cv c ∧ True) (Tr.br (faultM (dCe c) != (0 : Int)) (Tr.done (V.tup [V.d D.nils, V.d D.nils, V.d D.nils, V.d (D.int .i64 (faultM (dCe c)))]) []) (Tr.need (-9223372036854775808 ≤ Int.ofNat x1_ - (1 : Int) ∧ Int.ofNat x1_ - (1 : Int) ≤ 9223372036854775807) (Tr.need True (Tr.br (!inR n (0 : Int) (Int.ofNat x1_ - (1 : Int))) (Tr.done (V.tup [V.d D.nils, V.d D.nils, V.d D.nils, V.d (D.int .i64 (2 : Int))]) []) (Tr.need ((0 : Int) ≤ n ∧ n < Int.ofNat x1_ ∧ okEl [0, 0, 0] y5_ 3 n) (Tr.two (Tr.need (Cv (dCe c) = Cv c) (Tr.need (HLe [] (Wk (dCe c) [] [])) (Tr.need (x2_ ∧ [some (Blk.map []), some (Blk.box [V.d x3_, V.d x4_, V.d x5_, V.d x6_, V.d x7_, V.d x8_, V.mp 0]), some (Blk.box x9_)] = Wk (dCe (dCe c)) y7_ [Db y1_] ∧ Dv y1_ = V.agg x9_ ∧ faultM (dCe (dCe c)) = (0 : Int) ∧ okDv y1_ = true ∧ kmOk (dCe (dCe c)) y7_) (Tr.br x10_ y6_ (Tr.need (x11_ ∧ Wk (dCe (dCe c)) x12_ [Db y1_] = Wk y4_ x13_ [Db y0_] ∧ Dv y0_ = V.agg x14_ ∧ faultM y4_ = (0 : Int) ∧ okDv y0_ = true ∧ kmOk y4_ x13_) (Tr.need (x15_ ∧ Wk y4_ x16_ [Db y0_] = Wk x17_ x18_ [Db y2_] ∧ Dv y2_ = V.agg x19_ ∧ faultM x17_ = (0 : Int) ∧ okDv y2_ = true ∧ kmOk x17_ x18_) y3_)))))) (Tr.need (Cv (dCe c) = Cv c) (Tr.need (HLe [some x24_] (Wk1 (some x24_) (dCe c) [])) (Tr.need (x2_ ∧ [some (Blk.box x9_), some (Blk.map []), some (Blk.box [V.d x3_, V.d x4_, V.d x5_, V.d x6_, V.d x7_, V.d x8_, V.mp 1])] = Wk1 x25_ (dCe (dCe c)) y7_ ∧ Dv y1_ = V.agg x9_ ∧ faultM (dCe (dCe c)) = (0 : Int) ∧ okDv y1_ = true ∧ kmOk (dCe (dCe c)) y7_) (Tr.br x10_ y6_ (Tr.need (x11_ ∧ Wk1 x25_ (dCe (dCe c)) x12_ = Wk1 x26_ y4_ x13_ ∧ Dv y0_ = V.agg x14_ ∧ faultM y4_ = (0 : Int) ∧ okDv y0_ = true ∧ kmOk y4_ x13_) (Tr.need (x15_ ∧ Wk1 x26_ y4_ x16_ = Wk1 (Db y2_) x17_ x18_ ∧ Dv y2_ = V.agg x19_ ∧ faultM x17_ = (0 : Int) ∧ okDv y2_ = true ∧ kmOk x17_ x18_) y3_)))))))))))) := by kernel_rfl
end
end Go.Proofs.Ytdnefcjbcieecaa
namespace Go.Proofs.Ytdnefcjbcieecaa
open Go Go.Proofs
noncomputable section
def bdE (c : Cmp) (n : Int) : Int := if faultM c ≠ 0 then faultM c else if inR n 0 (c.divs.length - 1) = false then 2 else if (truthsP c).isEmpty = true then 9 else 0
def bdL (M : Cmp → Tru → Dvd → List Int) (c : Cmp) (n : Int) : List Rng := if bdE c n = 0 then bndM M c (lat c.divs n) else []
theorem nil4 (n : Int) : VLe (.tup [V.d D.nils, V.d D.nils, V.d D.nils, V.d (D.int .i64 n)]) (.tup [vsl eR [], vsl eR [], vsl eR [], vi n]) := .tup (.cons .nilsF (.cons .nilsF (.cons .nilsF (.cons (.refl _) .nil))))
theorem HLe_nil (h : Heap) : HLe [] h := fun i b hb _ => by simp at hb
theorem HLe_one (b : Option Blk) (h : Heap) : HLe [b] (b :: h) := fun i x hx _ => by
 cases i with
 | zero => exact hx
 | succ i => simp at hx
theorem kmOf_km {g : Nat} {M : Cmp → Tru → Dvd → List Int} {c : Cmp} {d : Dvd} {t : Tru} {km : List (Int × Int × Int)} (hkm : kmOk c km) : kmOk c (kmOf g M c d t km) := by
 unfold kmOf
 split
 ·rename_i h; exact h.choose_spec.1
 ·exact hkm
theorem runZ_km {c : Cmp} {g : Nat} {M : Cmp → Tru → Dvd → List Int} {N : Nat} {d : Dvd} {b2 : Option Blk} : ∀ (l : List Tru) (km : List (Int × Int × Int)) (s : S73), kmOk c km → kmOk c (runY (K73 c g M N d b2).stepZ l (km, s)).2.1
 | [], km, s, h => h
 | t :: l, km, s, h => by
  have h2 : kmOk c ((K73 c g M N d b2).stepZ t (km, s)).2.1 := by
   unfold Cons.stepZ
   split
   ·exact kmOf_km (kmF_ok h t _)
   ·exact kmF_ok h t _
  rw [runY]
  split
  ·exact runZ_km l _ _ h2
  ·exact h2
theorem bndZ_km {c : Cmp} (g : Nat) (M : Cmp → Tru → Dvd → List Int) (N : Nat) (d : Dvd) {km : List (Int × Int × Int)} (h : kmOk c km) : kmOk c (bndZ c g M N d km).1 := runZ_km _ _ _ h
theorem y33 (c : Cmp) (n : Int) : Yields Try.prog 33 [Cv c, vi n] (.tup [vsl eR (bdL paidM c n), vsl eR (bdL claimsM c n), vsl eR (bdL rightsM c n), vi (bdE c n)]) := by
 refine q33.yieldsP (X := X33) tab33_ok rfl rfl rfl (w33 c n) ?_
 simp only [holds, Int.ofNat_eq_natCast, cI_V0, cI_V1, cI_V2, dCe, dC_enc, true_and, and_true, dK_map, List.map_nil]
 refine ⟨fun h1 => ?_, fun h1 => ?_⟩
 ·have h1 : faultM c ≠ 0 := by simpa using h1
  have e : bdE c n = faultM c := by simp [bdE, h1]
  simp only [bdL, e, if_neg h1]
  exact nil4 _
 have h1 : faultM c = 0 := by simpa using h1
 have hb := (fault_ok h1).1
 refine ⟨by omega, fun h2 => ?_, fun h2 => ?_⟩
 ·have h2 : inR n 0 (c.divs.length - 1) = false := by simpa using h2
  have e : bdE c n = 2 := by simp [bdE, h1, h2]
  have e0 : ¬ (2 : Int) = 0 := by decide
  simp only [bdL, e, if_neg e0]
  exact nil4 _
 have h2 : inR n 0 (c.divs.length - 1) = true := by simpa using h2
 have h3 : 0 ≤ n ∧ n < (c.divs.length : Int) := by simp only [inR, decide_eq_true_eq] at h2; omega
 have hd := divs_ok h1 h3.1 h3.2
 have m64 : M73 64 = paidM := rfl
 have m66 : M73 66 = claimsM := rfl
 have m67 : M73 67 = rightsM := rfl
 have k0 := kmOk_nil c
 refine ⟨⟨h3.1, h3.2, ok_V (by omega)⟩, ?_⟩
 have k1 := bndZ_km 64 (M73 64) (N73 64 c) (lat c.divs n) k0
 have k2 := bndZ_km 66 (M73 66) (N73 66 c) (lat c.divs n) k1
 have f1 : (!!(truthsP c).isEmpty) = true → VLe (.tup [V.d D.nils, V.d D.nils, V.d D.nils, V.d (D.int .i64 9)]) (.tup [vsl eR (bdL paidM c n), vsl eR (bdL claimsM c n), vsl eR (bdL rightsM c n), vi (bdE c n)]) := fun h4 => by
  have h4 : (truthsP c).isEmpty = true := by simpa using h4
  have e : bdE c n = 9 := by simp [bdE, h1, h2, h4]
  have e0 : ¬ (9 : Int) = 0 := by decide
  simp only [bdL, e, if_neg e0]
  exact nil4 _
 have f2 : (!!(truthsP c).isEmpty) = false → VLe (.tup [vsl eR (bndM paidM c (lat c.divs n)), vsl eR (bndM claimsM c (lat c.divs n)), vsl eR (bndM rightsM c (lat c.divs n)), vi 0]) (.tup [vsl eR (bdL paidM c n), vsl eR (bdL claimsM c n), vsl eR (bdL rightsM c n), vi (bdE c n)]) := fun h4 => by
  have h4 : (truthsP c).isEmpty = false := by simpa using h4
  have e : bdE c n = 0 := by simp [bdE, h1, h2, h4]
  simp only [bdL, e, if_true]
  exact .refl _
 simp only [m64, m66] at k1 k2
 simp only [m64, m66, m67]
 refine ⟨⟨HLe_nil _, ⟨.inl trivial, rfl, rfl, h1, hd, k0⟩, f1, fun h4 => ⟨⟨.inr (.inl trivial), rfl, h1, hd, k1⟩, ⟨.inr (.inr trivial), rfl, h1, hd, k2⟩, f2 h4⟩⟩, ?_⟩
 exact ⟨HLe_one _ _, ⟨.inl trivial, rfl, rfl, h1, hd, k0⟩, f1, fun h4 => ⟨⟨.inr (.inl trivial), rfl, h1, hd, k1⟩, ⟨.inr (.inr trivial), rfl, h1, hd, k2⟩, f2 h4⟩⟩
end
end Go.Proofs.Ytdnefcjbcieecaa
namespace Go.Proofs.Ytdnefcjbcieecaa
open Go Go.Proofs
def G32 : Cfg := ⟨[], [(0, [1, 2]), (1, [4])], 19, []⟩
def r32 : List CRes := [.tmp 4]
def c32 : CCode :=
(.seq (.region [
 rs 2 (.box false (.tmp 0)),
 rs 4 (.move (.const (.bool false)))] (some [1, 2]))
(.seq (.region [
 rs 5 (.load (some 6) (.tmp 2)),
 rs 6 (.build [(.d .nils), (.d .nils)] []),
 ⟨(some 7), none, .call (.func 17) [(.tmp 5), (.tmp 6)]⟩,
 rs 8 (.move (.tmp 7)),
 rg 9 8 true (.load (some 6) (.tmp 2)),
 ⟨(some 10), (some (8, true)), .call (.func 69) [(.tmp 9)]⟩,
 rg 11 8 true (.bin .neq (.tmp 10) (ci 0)),
 rg 12 8 true (.move (.tmp 11)),
 rg 13 12 false (.load (some 6) (.tmp 2)),
 ⟨(some 14), (some (12, false)), .call (.func 70) [(.tmp 13)]⟩,
 rg 15 12 false (.move (.tmp 1)),
 rg 16 12 false (.bin .leq (.tmp 14) (.tmp 15)),
 rg 17 8 true (.pick (.tmp 12) (.const (.bool true)) (.tmp 16)),
 rs 18 (.pick (.tmp 8) (.tmp 17) (.const (.bool false))),
 rs 4 (.move (.tmp 18))] (some [4]))
.ret))
theorem k32 : Try.f32.body.bind (compC Try.prog G32) = some c32 := by kernel_rfl
theorem e32 : compRes Try.prog Try.f32.results.toList = some r32 := by kernel_rfl
def G70 : Cfg := ⟨[5], [(0, [1]), (1, [1, 3]), (2, [1, 3, 4]), (3, [1, 3, 4, 10]), (5, [1, 3, 4, 5]), (6, [1, 3, 4]), (4, [1, 3, 4]), (7, [2])], 38, []⟩
def r70 : List CRes := [.tmp 2]
def c70 : CCode :=
(.seq (.region [
 rs 1 (.box false (.tmp 0)),
 rs 2 (.move (ci 0))] (some [1]))
(.seq (.region [
 rs 3 (.move (ci 1))] (some [1, 3]))
(.seq (.seq (.region [
 rs 4 (.move (ci 0))] (some [1, 3, 4]))
(.block 0 (.loop (.seq (.seq (.region [
 rs 6 (.move (.tmp 4)),
 rs 7 (.fieldAddr 2 (.tmp 1)),
 rs 8 (.load none (.tmp 7)),
 rs 9 (.len (.tmp 8)),
 rs 10 (.bin .lss (.tmp 6) (.tmp 9))] (some [1, 3, 4, 10]))
 (.cond (.tmp 10)
 .skip
 (.exit 0)))
 (.seq (.block 1 (.seq (.region [
 rs 13 (.fieldAddr 2 (.tmp 1)),
 rs 14 (.load none (.tmp 13)),
 rs 15 (.move (.tmp 4)),
 rs 16 (.indexS 7 (.tmp 14) (.tmp 15)),
 rs 17 (.load (some 7) (.tmp 16)),
 rs 5 (.alloc [(.d (.int .i64 0)), (.d (.int .i64 0)), (.d (.int .i64 0)), (.d (.int .i64 0)), (.d (.int .i64 0)), (.d (.int .i64 0)), (.d (.int .i64 0))]),
 rn (.store 7 (.tmp 5) (.tmp 17))] (some [1, 3, 4, 5]))
 (.region [
 rs 18 (.move (.tmp 3)),
 rs 19 (.fieldAddr 3 (.tmp 5)),
 rs 20 (.fieldAddr 1 (.tmp 19)),
 rs 21 (.load none (.tmp 20)),
 rs 22 (.fieldAddr 3 (.tmp 5)),
 rs 23 (.fieldAddr 0 (.tmp 22)),
 rs 24 (.load none (.tmp 23)),
 rs 25 (.bin .sub (.tmp 21) (.tmp 24)),
 rs 26 (.bin .add (.tmp 25) (ci 1)),
 rs 27 (.fieldAddr 5 (.tmp 5)),
 rs 28 (.fieldAddr 1 (.tmp 27)),
 rs 29 (.load none (.tmp 28)),
 rs 30 (.fieldAddr 5 (.tmp 5)),
 rs 31 (.fieldAddr 0 (.tmp 30)),
 rs 32 (.load none (.tmp 31)),
 rs 33 (.bin .sub (.tmp 29) (.tmp 32)),
 rs 34 (.bin .add (.tmp 33) (ci 1)),
 rs 35 (.bin .mul (.tmp 26) (.tmp 34)),
 rs 36 (.bin .mul (.tmp 18) (.tmp 35)),
 rs 3 (.move (.tmp 36))] (some [1, 3, 4]))))
 (.region [
 rs 11 (.move (.tmp 4)),
 rs 12 (.bin .add (.tmp 11) (ci 1)),
 rs 4 (.move (.tmp 12))] (some [1, 3, 4])))))))
(.seq (.region [
 rs 37 (.move (.tmp 3)),
 rs 2 (.move (.tmp 37))] (some [2]))
.ret))))
theorem k70 : Try.f70.body.bind (compC Try.prog G70) = some c70 := by kernel_rfl
theorem e70 : compRes Try.prog Try.f70.results.toList = some r70 := by kernel_rfl
def G74 : Cfg := ⟨[61, 48, 7, 5, 4], [(0, [1, 2, 4]), (1, [1, 2, 4, 5]), (2, [1, 2, 4, 5, 6]), (3, [1, 2, 4, 5, 6, 14]), (5, [1, 2, 4, 5, 6, 7]), (6, [1, 2, 4, 5, 6, 7, 8, 9]), (7, [1, 2, 4, 5, 6, 8, 9]), (8, [1, 2, 4, 5, 6]), (4, [1, 2, 4, 5, 6]), (9, [4])], 70, []⟩
def r74 : List CRes := [.cell 4 (some 2)]
def c74 : CCode :=
(.seq (.region [
 rs 2 (.box false (.tmp 0)),
 rs 4 (.alloc [(.d .nils), (.d .nils)])] (some [1, 2, 4]))
(.seq (.region [
 rs 5 (.alloc [(.d .nils), (.d .nils)])] (some [1, 2, 4, 5]))
(.seq (.seq (.region [
 rs 6 (.move (ci 0))] (some [1, 2, 4, 5, 6]))
(.block 0 (.loop (.seq (.seq (.region [
 rs 10 (.move (.tmp 6)),
 rs 11 (.fieldAddr 2 (.tmp 2)),
 rs 12 (.load none (.tmp 11)),
 rs 13 (.len (.tmp 12)),
 rs 14 (.bin .lss (.tmp 10) (.tmp 13))] (some [1, 2, 4, 5, 6, 14]))
 (.cond (.tmp 14)
 .skip
 (.exit 0)))
 (.seq (.block 1 (.seq (.region [
 rs 17 (.fieldAddr 2 (.tmp 2)),
 rs 18 (.load none (.tmp 17)),
 rs 19 (.move (.tmp 6)),
 rs 20 (.indexS 7 (.tmp 18) (.tmp 19)),
 rs 21 (.load (some 7) (.tmp 20)),
 rs 7 (.alloc [(.d (.int .i64 0)), (.d (.int .i64 0)), (.d (.int .i64 0)), (.d (.int .i64 0)), (.d (.int .i64 0)), (.d (.int .i64 0)), (.d (.int .i64 0))]),
 rn (.store 7 (.tmp 7) (.tmp 21))] (some [1, 2, 4, 5, 6, 7]))
 (.seq (.region [
 rs 22 (.fieldAddr 3 (.tmp 7)),
 rs 23 (.fieldAddr 1 (.tmp 22)),
 rs 24 (.load none (.tmp 23)),
 rs 25 (.fieldAddr 3 (.tmp 7)),
 rs 26 (.fieldAddr 0 (.tmp 25)),
 rs 27 (.load none (.tmp 26)),
 rs 28 (.bin .sub (.tmp 24) (.tmp 27)),
 rs 29 (.bin .add (.tmp 28) (ci 1)),
 rs 30 (.fieldAddr 5 (.tmp 7)),
 rs 31 (.fieldAddr 1 (.tmp 30)),
 rs 32 (.load none (.tmp 31)),
 rs 33 (.fieldAddr 5 (.tmp 7)),
 rs 34 (.fieldAddr 0 (.tmp 33)),
 rs 35 (.load none (.tmp 34)),
 rs 36 (.bin .sub (.tmp 32) (.tmp 35)),
 rs 37 (.bin .add (.tmp 36) (ci 1)),
 rs 8 (.move (.tmp 29)),
 rs 9 (.move (.tmp 37))] (some [1, 2, 4, 5, 6, 7, 8, 9]))
 (.seq (.seq (.region [
 rs 38 (.fieldAddr 0 (.tmp 5)),
 rs 39 (.load none (.tmp 38)),
 rs 40 (.fieldAddr 3 (.tmp 7)),
 rs 41 (.fieldAddr 0 (.tmp 40)),
 rs 42 (.load none (.tmp 41)),
 rs 43 (.move (.tmp 1)),
 rs 44 (.move (.tmp 8)),
 rs 45 (.bin .rem (.tmp 43) (.tmp 44)),
 rs 46 (.bin .add (.tmp 42) (.tmp 45)),
 rs 47 (.bslice false 3 1 1 [(.int .i64 0)] [(0, (.tmp 46))]),
 rs 49 (.fieldAddr 1 (.tmp 5)),
 rs 51 (.fieldAddr 5 (.tmp 7)),
 rs 52 (.fieldAddr 0 (.tmp 51)),
 rs 54 (.move (.tmp 1)),
 rs 55 (.move (.tmp 8)),
 rs 56 (.bin .quo (.tmp 54) (.tmp 55)),
 rs 57 (.move (.tmp 9)),
 rs 58 (.bin .rem (.tmp 56) (.tmp 57))] none)
 (.both (.region [
 ⟨(some 48), none, .app 3 1 8 (.tmp 39) (.tmp 47)⟩,
 rs 50 (.load none (.tmp 49)),
 rs 53 (.load none (.tmp 52)),
 rs 59 (.bin .add (.tmp 53) (.tmp 58)),
 rs 60 (.bslice false 3 1 1 [(.int .i64 0)] [(0, (.tmp 59))]),
 rs 62 (.fieldAddr 0 (.tmp 5)),
 ⟨(some 61), none, .app 3 1 8 (.tmp 50) (.tmp 60)⟩,
 rn (.store 1 (.tmp 62) (.tmp 48)),
 rs 63 (.fieldAddr 1 (.tmp 5)),
 rn (.store 1 (.tmp 63) (.tmp 61))] (some [1, 2, 4, 5, 6, 8, 9]))
 (.seq (.region [
 ] none)
 (.both (.seq (.region [
 rs 50 (.load none (.tmp 49))] none)
 (.both (.region [
 ⟨(some 48), none, .app 3 1 8 (.tmp 39) (.tmp 47)⟩,
 rs 53 (.load none (.tmp 52)),
 rs 59 (.bin .add (.tmp 53) (.tmp 58)),
 rs 60 (.bslice false 3 1 1 [(.int .i64 0)] [(0, (.tmp 59))]),
 rs 62 (.fieldAddr 0 (.tmp 5)),
 ⟨(some 61), none, .app 3 1 8 (.tmp 50) (.tmp 60)⟩,
 rn (.store 1 (.tmp 62) (.tmp 48)),
 rs 63 (.fieldAddr 1 (.tmp 5)),
 rn (.store 1 (.tmp 63) (.tmp 61))] (some [1, 2, 4, 5, 6, 8, 9]))
 (.region [
 rs 53 (.load none (.tmp 52)),
 rs 59 (.bin .add (.tmp 53) (.tmp 58)),
 rs 60 (.bslice false 3 1 1 [(.int .i64 0)] [(0, (.tmp 59))]),
 ⟨(some 48), none, .app 3 1 8 (.tmp 39) (.tmp 47)⟩,
 rs 62 (.fieldAddr 0 (.tmp 5)),
 ⟨(some 61), none, .app 3 1 8 (.tmp 50) (.tmp 60)⟩,
 rn (.store 1 (.tmp 62) (.tmp 48)),
 rs 63 (.fieldAddr 1 (.tmp 5)),
 rn (.store 1 (.tmp 63) (.tmp 61))] (some [1, 2, 4, 5, 6, 8, 9]))))
 (.seq (.region [
 rs 53 (.load none (.tmp 52)),
 rs 59 (.bin .add (.tmp 53) (.tmp 58)),
 rs 60 (.bslice false 3 1 1 [(.int .i64 0)] [(0, (.tmp 59))])] none)
 (.both (.region [
 ⟨(some 48), none, .app 3 1 8 (.tmp 39) (.tmp 47)⟩,
 rs 50 (.load none (.tmp 49)),
 rs 62 (.fieldAddr 0 (.tmp 5)),
 ⟨(some 61), none, .app 3 1 8 (.tmp 50) (.tmp 60)⟩,
 rn (.store 1 (.tmp 62) (.tmp 48)),
 rs 63 (.fieldAddr 1 (.tmp 5)),
 rn (.store 1 (.tmp 63) (.tmp 61))] (some [1, 2, 4, 5, 6, 8, 9]))
 (.region [
 rs 50 (.load none (.tmp 49)),
 ⟨(some 48), none, .app 3 1 8 (.tmp 39) (.tmp 47)⟩,
 rs 62 (.fieldAddr 0 (.tmp 5)),
 ⟨(some 61), none, .app 3 1 8 (.tmp 50) (.tmp 60)⟩,
 rn (.store 1 (.tmp 62) (.tmp 48)),
 rs 63 (.fieldAddr 1 (.tmp 5)),
 rn (.store 1 (.tmp 63) (.tmp 61))] (some [1, 2, 4, 5, 6, 8, 9]))))))))
 (.region [
 rs 64 (.move (.tmp 1)),
 rs 65 (.move (.tmp 8)),
 rs 66 (.bin .quo (.tmp 64) (.tmp 65)),
 rs 67 (.move (.tmp 9)),
 rs 68 (.bin .quo (.tmp 66) (.tmp 67)),
 rs 1 (.move (.tmp 68))] (some [1, 2, 4, 5, 6]))))))
 (.region [
 rs 15 (.move (.tmp 6)),
 rs 16 (.bin .add (.tmp 15) (ci 1)),
 rs 6 (.move (.tmp 16))] (some [1, 2, 4, 5, 6])))))))
(.seq (.region [
 rs 69 (.load (some 2) (.tmp 5)),
 rn (.store 2 (.tmp 4) (.tmp 69))] (some [4]))
.ret))))
theorem k74 : Try.f74.body.bind (compC Try.prog G74) = some c74 := by kernel_rfl
theorem e74 : compRes Try.prog Try.f74.results.toList = some r74 := by kernel_rfl
def G35 : Cfg := ⟨[21, 5], [(0, [1]), (1, [1, 3]), (2, [1, 3, 4]), (3, [1, 3, 4, 9]), (5, [1, 3, 4, 5]), (6, [1, 3, 4, 5, 17]), (7, [1, 3, 4]), (4, [1, 3, 4]), (8, [2])], 23, []⟩
def r35 : List CRes := [.tmp 2]
def c35 : CCode :=
(.seq (.region [
 rs 1 (.box false (.tmp 0)),
 rs 2 (.move (.const (.slice none 0 0)))] (some [1]))
(.seq (.region [
 rs 3 (.move (.const (.slice none 0 0)))] (some [1, 3]))
(.seq (.seq (.region [
 rs 4 (.move (ci 0))] (some [1, 3, 4]))
(.block 0 (.loop (.seq (.seq (.region [
 rs 6 (.move (.tmp 4)),
 rs 7 (.load (some 6) (.tmp 1)),
 ⟨(some 8), none, .call (.func 70) [(.tmp 7)]⟩,
 rs 9 (.bin .lss (.tmp 6) (.tmp 8))] (some [1, 3, 4, 9]))
 (.cond (.tmp 9)
 .skip
 (.exit 0)))
 (.seq (.block 1 (.seq (.region [
 rs 12 (.load (some 6) (.tmp 1)),
 rs 13 (.move (.tmp 4)),
 ⟨(some 14), none, .call (.func 74) [(.tmp 12), (.tmp 13)]⟩,
 rs 5 (.alloc [(.d .nils), (.d .nils)]),
 rn (.store 2 (.tmp 5) (.tmp 14))] (some [1, 3, 4, 5]))
 (.seq (.region [
 rs 15 (.load (some 6) (.tmp 1)),
 rs 16 (.load (some 2) (.tmp 5)),
 ⟨(some 17), none, .call (.func 44) [(.tmp 15), (.tmp 16)]⟩] (some [1, 3, 4, 5, 17]))
 (.cond (.tmp 17)
 (.region [
 rs 18 (.move (.tmp 3)),
 rs 19 (.load (some 2) (.tmp 5)),
 rs 20 (.bslice false 30 2 1 [.nils, .nils] [(0, (.tmp 19))]),
 ⟨(some 21), none, .app 30 2 48 (.tmp 18) (.tmp 20)⟩,
 rs 3 (.move (.tmp 21))] (some [1, 3, 4]))
 .skip))))
 (.region [
 rs 10 (.move (.tmp 4)),
 rs 11 (.bin .add (.tmp 10) (ci 1)),
 rs 4 (.move (.tmp 11))] (some [1, 3, 4])))))))
(.seq (.region [
 rs 22 (.move (.tmp 3)),
 rs 2 (.move (.tmp 22))] (some [2]))
.ret))))
theorem k35 : Try.f35.body.bind (compC Try.prog G35) = some c35 := by kernel_rfl
theorem e35 : compRes Try.prog Try.f35.results.toList = some r35 := by kernel_rfl
def G36 : Cfg := ⟨[51, 27], [(0, [0, 1, 2]), (1, [0, 1, 2, 7]), (2, [0, 1, 2, 7, 8]), (3, [0, 1, 2, 7, 8, 12]), (5, [0, 1, 2, 7, 8, 15]), (7, [0, 1, 2, 7, 8]), (6, [0, 1, 2, 7, 8]), (4, [0, 1, 2, 7, 8]), (8, [6])], 53, []⟩
def r36 : List CRes := [.tmp 6]
def c36 : CCode :=
(.seq (.region [
 rs 6 (.move (.const (.slice none 0 0)))] (some [0, 1, 2]))
(.seq (.region [
 rs 7 (.move (.const (.slice none 0 0)))] (some [0, 1, 2, 7]))
(.seq (.seq (.region [
 rs 8 (.move (ci 0))] (some [0, 1, 2, 7, 8]))
(.block 0 (.loop (.seq (.seq (.region [
 rs 9 (.move (.tmp 8)),
 rs 10 (.move (.tmp 1)),
 rs 11 (.len (.tmp 10)),
 rs 12 (.bin .lss (.tmp 9) (.tmp 11))] (some [0, 1, 2, 7, 8, 12]))
 (.cond (.tmp 12)
 .skip
 (.exit 0)))
 (.seq (.block 1 (.seq (.region [
 rs 15 (.move (.tmp 2))] (some [0, 1, 2, 7, 8, 15]))
 (.cond (.tmp 15)
 (.region [
 rs 16 (.move (.tmp 7)),
 rs 17 (.move (.tmp 1)),
 rs 18 (.move (.tmp 8)),
 rs 19 (.indexS 1 (.tmp 17) (.tmp 18)),
 rs 20 (.load none (.tmp 19)),
 rs 21 (.move (.tmp 1)),
 rs 22 (.move (.tmp 8)),
 rs 23 (.indexS 1 (.tmp 21) (.tmp 22)),
 rs 24 (.load none (.tmp 23)),
 rs 25 (.build [(.d (.int .i64 0)), (.d (.int .i64 0))] [(0, 1, (.tmp 20)), (1, 1, (.tmp 24))]),
 rs 26 (.bslice false 73 2 1 [(.int .i64 0), (.int .i64 0)] [(0, (.tmp 25))]),
 ⟨(some 27), none, .app 73 2 16 (.tmp 16) (.tmp 26)⟩,
 rs 7 (.move (.tmp 27))] (some [0, 1, 2, 7, 8]))
 (.region [
 rs 28 (.move (.tmp 7)),
 rs 29 (.move (.tmp 0)),
 rs 30 (.move (.tmp 8)),
 rs 31 (.indexS 2 (.tmp 29) (.tmp 30)),
 rs 32 (.fieldAddr 0 (.tmp 31)),
 rs 33 (.load none (.tmp 32)),
 rs 34 (.move (.tmp 1)),
 rs 35 (.move (.tmp 8)),
 rs 36 (.indexS 1 (.tmp 34) (.tmp 35)),
 rs 37 (.load none (.tmp 36)),
 rs 38 (.min [(.tmp 33), (.tmp 37)]),
 rs 39 (.move (.tmp 0)),
 rs 40 (.move (.tmp 8)),
 rs 41 (.indexS 2 (.tmp 39) (.tmp 40)),
 rs 42 (.fieldAddr 1 (.tmp 41)),
 rs 43 (.load none (.tmp 42)),
 rs 44 (.move (.tmp 1)),
 rs 45 (.move (.tmp 8)),
 rs 46 (.indexS 1 (.tmp 44) (.tmp 45)),
 rs 47 (.load none (.tmp 46)),
 rs 48 (.max [(.tmp 43), (.tmp 47)]),
 rs 49 (.build [(.d (.int .i64 0)), (.d (.int .i64 0))] [(0, 1, (.tmp 38)), (1, 1, (.tmp 48))]),
 rs 50 (.bslice false 73 2 1 [(.int .i64 0), (.int .i64 0)] [(0, (.tmp 49))]),
 ⟨(some 51), none, .app 73 2 16 (.tmp 28) (.tmp 50)⟩,
 rs 7 (.move (.tmp 51))] (some [0, 1, 2, 7, 8])))))
 (.region [
 rs 13 (.move (.tmp 8)),
 rs 14 (.bin .add (.tmp 13) (ci 1)),
 rs 8 (.move (.tmp 14))] (some [0, 1, 2, 7, 8])))))))
(.seq (.region [
 rs 52 (.move (.tmp 7)),
 rs 6 (.move (.tmp 52))] (some [6]))
.ret))))
theorem k36 : Try.f36.body.bind (compC Try.prog G36) = some c36 := by kernel_rfl
theorem e36 : compRes Try.prog Try.f36.results.toList = some r36 := by kernel_rfl
def G37 : Cfg := ⟨[], [(0, [0, 1]), (1, [0, 1, 10]), (2, [4]), (3, [0, 1, 5]), (4, [0, 1, 5, 14]), (6, [0, 1, 5, 26]), (7, [4]), (5, [0, 1, 5]), (8, [4])], 27, []⟩
def r37 : List CRes := [.tmp 4]
def c37 : CCode :=
(.seq (.region [
 rs 4 (.move (.const (.bool false)))] (some [0, 1]))
(.seq (.seq (.region [
 rs 6 (.move (.tmp 0)),
 rs 7 (.len (.tmp 6)),
 rs 8 (.move (.tmp 1)),
 rs 9 (.len (.tmp 8)),
 rs 10 (.bin .neq (.tmp 7) (.tmp 9))] (some [0, 1, 10]))
(.cond (.tmp 10)
 (.seq (.region [
 rs 4 (.move (.const (.bool false)))] (some [4]))
 .ret)
 .skip))
(.seq (.seq (.region [
 rs 5 (.move (ci 0))] (some [0, 1, 5]))
(.block 0 (.loop (.seq (.seq (.region [
 rs 11 (.move (.tmp 5)),
 rs 12 (.move (.tmp 0)),
 rs 13 (.len (.tmp 12)),
 rs 14 (.bin .lss (.tmp 11) (.tmp 13))] (some [0, 1, 5, 14]))
 (.cond (.tmp 14)
 .skip
 (.exit 0)))
 (.seq (.block 1 (.seq (.region [
 rs 17 (.move (.tmp 0)),
 rs 18 (.move (.tmp 5)),
 rs 19 (.indexS 2 (.tmp 17) (.tmp 18)),
 rs 20 (.load (some 2) (.tmp 19)),
 rs 21 (.move (.tmp 1)),
 rs 22 (.move (.tmp 5)),
 rs 23 (.indexS 2 (.tmp 21) (.tmp 22)),
 rs 24 (.load (some 2) (.tmp 23)),
 ⟨(some 25), none, .callx (.func 61) [(.tmp 24)]⟩,
 rs 26 (.eqA true [(.int .i64), (.int .i64)] (.tmp 20) (.tmp 25))] (some [0, 1, 5, 26]))
 (.cond (.tmp 26)
 (.seq (.region [
 rs 4 (.move (.const (.bool false)))] (some [4]))
 .ret)
 .skip)))
 (.region [
 rs 15 (.move (.tmp 5)),
 rs 16 (.bin .add (.tmp 15) (ci 1)),
 rs 5 (.move (.tmp 16))] (some [0, 1, 5])))))))
(.seq (.region [
 rs 4 (.move (.const (.bool true)))] (some [4]))
.ret))))
theorem k37 : Try.f37.body.bind (compC Try.prog G37) = some c37 := by kernel_rfl
theorem e37 : compRes Try.prog Try.f37.results.toList = some r37 := by kernel_rfl
def G5 : Cfg := ⟨[11], [(0, [1, 2]), (1, [1, 2, 18]), (2, [4]), (3, [1, 2, 5, 6, 7, 8]), (4, [1, 2, 5, 6, 7, 8, 9]), (5, [1, 2, 5, 6, 7, 8, 9, 41]), (6, [1, 2, 5, 6, 7, 8, 9]), (7, [1, 2, 5, 6, 7, 8, 9, 10]), (8, [1, 2, 5, 6, 7, 8, 9, 10, 43]), (9, [1, 2, 5, 6, 7, 8, 9, 10]), (10, [1, 2, 5, 6, 7, 8, 9, 10, 48]), (11, [1, 2, 5, 6, 7, 8, 9, 10]), (12, [1, 2, 5, 6, 7, 8, 9, 10, 50]), (13, [4]), (14, [2, 5, 6, 7, 8, 10, 11]), (15, [2, 5, 6, 7, 8, 10, 11, 12, 13, 14]), (16, [2, 5, 6, 7, 8, 10, 11, 12, 13, 14, 15]), (17, [2, 5, 6, 7, 8, 10, 11, 12, 13, 14, 15, 76]), (19, [2, 5, 6, 7, 8, 10, 11, 12, 13, 14, 15]), (18, [2, 5, 6, 7, 8, 10, 11, 12, 13, 14, 15]), (20, [4])], 132, []⟩
def r5 : List CRes := [.tmp 4]
def c5 : CCode :=
(.seq (.region [
 rs 2 (.box false (.tmp 0)),
 rs 4 (.move (.const (.bool false)))] (some [1, 2]))
(.seq (.seq (.region [
 rs 16 (.load (some 6) (.tmp 2)),
 ⟨(some 17), none, .call (.func 32) [(.tmp 16), (ci 150)]⟩,
 rs 18 (.un .not (.tmp 17))] (some [1, 2, 18]))
(.cond (.tmp 18)
 (.seq (.region [
 ⟨(some 19), none, .call (.func 18) []⟩,
 rs 4 (.move (.tmp 19))] (some [4]))
 .ret)
 .skip))
(.seq (.region [
 rs 21 (.load (some 6) (.tmp 2)),
 ⟨(some 22), none, .call (.func 20) [(.tmp 21)]⟩,
 rs 23 (.move (.tmp 1)),
 ⟨(some 24), none, .call (.func 33) [(.tmp 22), (.tmp 23)]⟩,
 rs 20 (.move (.tmp 24)),
 rs 25 (.extract (.tmp 20) 0),
 rs 26 (.extract (.tmp 20) 1),
 rs 27 (.extract (.tmp 20) 2),
 rs 28 (.extract (.tmp 20) 3),
 rs 5 (.move (.tmp 25)),
 rs 6 (.move (.tmp 26)),
 rs 7 (.move (.tmp 27)),
 rs 8 (.move (.tmp 28))] (some [1, 2, 5, 6, 7, 8]))
(.seq (.region [
 rs 29 (.load (some 6) (.tmp 2)),
 ⟨(some 30), none, .call (.func 34) [(.tmp 29)]⟩,
 rs 9 (.move (.tmp 30))] (some [1, 2, 5, 6, 7, 8, 9]))
(.seq (.seq (.region [
 rs 31 (.move (.tmp 9)),
 rs 32 (.bin .eql (.tmp 31) (ci 0)),
 rs 33 (.move (.tmp 32)),
 rg 34 33 true (.move (.tmp 1)),
 rg 35 33 true (.fieldAddr 3 (.tmp 2)),
 rg 36 33 true (.load none (.tmp 35)),
 rg 37 33 true (.len (.tmp 36)),
 rg 38 33 true (.bin .sub (.tmp 37) (ci 1)),
 ⟨(some 39), (some (33, true)), .call (.func 23) [(.tmp 34), (ci 0), (.tmp 38)]⟩,
 rg 40 33 true (.un .not (.tmp 39)),
 rs 41 (.pick (.tmp 33) (.tmp 40) (.const (.bool false)))] (some [1, 2, 5, 6, 7, 8, 9, 41]))
(.cond (.tmp 41)
 (.region [
 rs 9 (.move (ci 2))] (some [1, 2, 5, 6, 7, 8, 9]))
 .skip))
(.seq (.region [
 rs 10 (.move (.const (.slice none 0 0)))] (some [1, 2, 5, 6, 7, 8, 9, 10]))
(.seq (.seq (.region [
 rs 42 (.move (.tmp 9)),
 rs 43 (.bin .eql (.tmp 42) (ci 0))] (some [1, 2, 5, 6, 7, 8, 9, 10, 43]))
(.cond (.tmp 43)
 (.seq (.region [
 rs 44 (.load (some 6) (.tmp 2)),
 ⟨(some 45), none, .call (.func 35) [(.tmp 44)]⟩,
 rs 10 (.move (.tmp 45))] (some [1, 2, 5, 6, 7, 8, 9, 10]))
 (.seq (.region [
 rs 46 (.move (.tmp 10)),
 rs 47 (.len (.tmp 46)),
 rs 48 (.bin .eql (.tmp 47) (ci 0))] (some [1, 2, 5, 6, 7, 8, 9, 10, 48]))
 (.cond (.tmp 48)
 (.region [
 rs 9 (.move (ci 9))] (some [1, 2, 5, 6, 7, 8, 9, 10]))
 .skip)))
 .skip))
(.seq (.seq (.region [
 rs 49 (.move (.tmp 9)),
 rs 50 (.bin .neq (.tmp 49) (ci 0))] (some [1, 2, 5, 6, 7, 8, 9, 10, 50]))
(.cond (.tmp 50)
 (.seq (.region [
 rs 51 (.move (.tmp 8)),
 rs 52 (.move (.tmp 9)),
 rs 53 (.bin .eql (.tmp 51) (.tmp 52)),
 rs 54 (.move (.tmp 53)),
 rg 55 54 true (.move (.tmp 5)),
 rg 56 54 true (.len (.tmp 55)),
 rg 57 54 true (.move (.tmp 6)),
 rg 58 54 true (.len (.tmp 57)),
 rg 59 54 true (.bin .add (.tmp 56) (.tmp 58)),
 rg 60 54 true (.move (.tmp 7)),
 rg 61 54 true (.len (.tmp 60)),
 rg 62 54 true (.bin .add (.tmp 59) (.tmp 61)),
 rg 63 54 true (.bin .eql (.tmp 62) (ci 0)),
 rs 64 (.pick (.tmp 54) (.tmp 63) (.const (.bool false))),
 rs 65 (.move (.tmp 64)),
 ⟨(some 66), (some (65, true)), .call (.func 18) []⟩,
 rs 67 (.pick (.tmp 65) (.tmp 66) (.const (.bool false))),
 rs 4 (.move (.tmp 67))] (some [4]))
 .ret)
 .skip))
(.seq (.region [
 rs 68 (.fieldAddr 3 (.tmp 2)),
 rs 69 (.load none (.tmp 68)),
 rs 70 (.move (.tmp 1)),
 rs 71 (.indexS 3 (.tmp 69) (.tmp 70)),
 rs 72 (.load (some 3) (.tmp 71)),
 rs 11 (.alloc [(.d (.int .i64 0)), (.d (.int .i64 0)), (.d (.int .i64 0))]),
 rn (.store 3 (.tmp 11) (.tmp 72))] (some [2, 5, 6, 7, 8, 10, 11]))
(.seq (.region [
 rs 12 (.move (.const (.slice none 0 0))),
 rs 13 (.move (.const (.slice none 0 0))),
 rs 14 (.move (.const (.slice none 0 0)))] (some [2, 5, 6, 7, 8, 10, 11, 12, 13, 14]))
(.seq (.seq (.region [
 rs 15 (.move (ci 0))] (some [2, 5, 6, 7, 8, 10, 11, 12, 13, 14, 15]))
(.block 0 (.loop (.seq (.seq (.region [
 rs 73 (.move (.tmp 15)),
 rs 74 (.move (.tmp 10)),
 rs 75 (.len (.tmp 74)),
 rs 76 (.bin .lss (.tmp 73) (.tmp 75))] (some [2, 5, 6, 7, 8, 10, 11, 12, 13, 14, 15, 76]))
 (.cond (.tmp 76)
 .skip
 (.exit 0)))
 (.seq (.block 1 (.region [
 rs 79 (.move (.tmp 12)),
 rs 80 (.load (some 6) (.tmp 2)),
 rs 81 (.move (.tmp 10)),
 rs 82 (.move (.tmp 15)),
 rs 83 (.indexS 2 (.tmp 81) (.tmp 82)),
 rs 84 (.load (some 2) (.tmp 83)),
 rs 85 (.load (some 3) (.tmp 11)),
 rs 87 (.move (.tmp 15)),
 rs 88 (.bin .eql (.tmp 87) (ci 0)),
 rs 90 (.move (.tmp 13)),
 rs 91 (.load (some 6) (.tmp 2)),
 rs 92 (.move (.tmp 10)),
 rs 93 (.move (.tmp 15)),
 rs 94 (.indexS 2 (.tmp 92) (.tmp 93)),
 rs 95 (.load (some 2) (.tmp 94)),
 rs 96 (.load (some 3) (.tmp 11)),
 rs 98 (.move (.tmp 15)),
 rs 99 (.bin .eql (.tmp 98) (ci 0)),
 rs 101 (.move (.tmp 14)),
 rs 102 (.load (some 6) (.tmp 2)),
 rs 103 (.move (.tmp 10)),
 rs 104 (.move (.tmp 15)),
 rs 105 (.indexS 2 (.tmp 103) (.tmp 104)),
 rs 106 (.load (some 2) (.tmp 105)),
 rs 107 (.load (some 3) (.tmp 11)),
 rs 109 (.move (.tmp 15)),
 rs 110 (.bin .eql (.tmp 109) (ci 0)),
 ⟨(some 86), none, .callx (.func 29) [(.tmp 80), (.tmp 84), (.tmp 85)]⟩,
 ⟨(some 89), none, .callx (.func 36) [(.tmp 79), (.tmp 86), (.tmp 88)]⟩,
 ⟨(some 97), none, .callx (.func 30) [(.tmp 91), (.tmp 95), (.tmp 96)]⟩,
 ⟨(some 100), none, .callx (.func 36) [(.tmp 90), (.tmp 97), (.tmp 99)]⟩,
 ⟨(some 108), none, .callx (.func 31) [(.tmp 102), (.tmp 106), (.tmp 107)]⟩,
 ⟨(some 111), none, .call (.func 36) [(.tmp 101), (.tmp 108), (.tmp 110)]⟩,
 rs 12 (.move (.tmp 89)),
 rs 13 (.move (.tmp 100)),
 rs 14 (.move (.tmp 111))] (some [2, 5, 6, 7, 8, 10, 11, 12, 13, 14, 15])))
 (.region [
 rs 77 (.move (.tmp 15)),
 rs 78 (.bin .add (.tmp 77) (ci 1)),
 rs 15 (.move (.tmp 78))] (some [2, 5, 6, 7, 8, 10, 11, 12, 13, 14, 15])))))))
(.seq (.region [
 rs 112 (.move (.tmp 8)),
 rs 113 (.bin .eql (.tmp 112) (ci 0)),
 rs 114 (.move (.tmp 113)),
 rg 115 114 true (.move (.tmp 5)),
 rg 116 114 true (.move (.tmp 12)),
 ⟨(some 117), (some (114, true)), .call (.func 37) [(.tmp 115), (.tmp 116)]⟩,
 rs 118 (.pick (.tmp 114) (.tmp 117) (.const (.bool false))),
 rs 119 (.move (.tmp 118)),
 rg 120 119 true (.move (.tmp 6)),
 rg 121 119 true (.move (.tmp 13)),
 ⟨(some 122), (some (119, true)), .call (.func 37) [(.tmp 120), (.tmp 121)]⟩,
 rs 123 (.pick (.tmp 119) (.tmp 122) (.const (.bool false))),
 rs 124 (.move (.tmp 123)),
 rg 125 124 true (.move (.tmp 7)),
 rg 126 124 true (.move (.tmp 14)),
 ⟨(some 127), (some (124, true)), .call (.func 37) [(.tmp 125), (.tmp 126)]⟩,
 rs 128 (.pick (.tmp 124) (.tmp 127) (.const (.bool false))),
 rs 129 (.move (.tmp 128)),
 ⟨(some 130), (some (129, true)), .call (.func 18) []⟩,
 rs 131 (.pick (.tmp 129) (.tmp 130) (.const (.bool false))),
 rs 4 (.move (.tmp 131))] (some [4]))
.ret))))))))))))
theorem k5 : Try.f5.body.bind (compC Try.prog G5) = some c5 := by kernel_rfl
theorem e5 : compRes Try.prog Try.f5.results.toList = some r5 := by kernel_rfl
end Go.Proofs.Ytdnefcjbcieecaa
namespace Go.Proofs.Ytdnefcjbcieecaa
open Go Go.Proofs
noncomputable section
theorem q70 : FunIs Try.prog 70 G70 c70 r70 := ⟨Try.f70, Try.func70, k70, e70, by kernel_rfl, by kernel_rfl⟩
theorem q37 : FunIs Try.prog 37 G37 c37 r37 := ⟨Try.f37, Try.func37, k37, e37, by kernel_rfl, by kernel_rfl⟩
theorem q36 : FunIs Try.prog 36 G36 c36 r36 := ⟨Try.f36, Try.func36, k36, e36, by kernel_rfl, by kernel_rfl⟩
def E70 (c : Cmp) (m : Int) (k : Nat) : Env := [(1, .rptr (Cds c) 0), (3, vi m), (4, vi k)]
theorem w70 (c : Cmp) : sx (mkX spNil) c70 [] (doneK r70) (envOf [Cv c]) [] [] =
  Tr.lp (CCode.at c70 [1, 1, 0, 1, 0, 0]) [Fr.blk 0, Fr.seq (CCode.at c70 [1, 1, 1])] [(1, V.rptr (Cds c) 0), (3, V.d (D.int .i64 (1 : Int))), (4, V.d (D.int .i64 0))] [] := by kernel_rfl
theorem b70 (c : Cmp) (m : Int) (k : Nat) : sx (mkX spNil) (CCode.at c70 [1,1,0,1,0,0]) [] leafK (E70 c m k) [] [] =
  let x1_ := (List.length (Cmp.trades c))
  let x2_ := (decide (Int.ofNat k < Int.ofNat x1_))
  let y0_ := (enc eT (Cmp.trades c))
  let x3_ := (cI y0_ 7 (Int.ofNat k) 4 - cI y0_ 7 (Int.ofNat k) 3 + (1 : Int))
  let x4_ := (cI y0_ 7 (Int.ofNat k) 6 - cI y0_ 7 (Int.ofNat k) 5 + (1 : Int))
  Tr.br x2_ (Tr.need ((0 : Int) ≤ Int.ofNat k ∧ Int.ofNat k < Int.ofNat x1_ ∧ okEl [0, 0, 0, 0, 0, 0, 0] y0_ 7 (Int.ofNat k)) (Tr.need (-9223372036854775808 ≤ cI y0_ 7 (Int.ofNat k) 4 - cI y0_ 7 (Int.ofNat k) 3 ∧ cI y0_ 7 (Int.ofNat k) 4 - cI y0_ 7 (Int.ofNat k) 3 ≤ 9223372036854775807) (Tr.need (-9223372036854775808 ≤ cI y0_ 7 (Int.ofNat k) 4 - cI y0_ 7 (Int.ofNat k) 3 + (1 : Int) ∧ cI y0_ 7 (Int.ofNat k) 4 - cI y0_ 7 (Int.ofNat k) 3 + (1 : Int) ≤ 9223372036854775807) (Tr.need (-9223372036854775808 ≤ cI y0_ 7 (Int.ofNat k) 6 - cI y0_ 7 (Int.ofNat k) 5 ∧ cI y0_ 7 (Int.ofNat k) 6 - cI y0_ 7 (Int.ofNat k) 5 ≤ 9223372036854775807) (Tr.need (-9223372036854775808 ≤ cI y0_ 7 (Int.ofNat k) 6 - cI y0_ 7 (Int.ofNat k) 5 + (1 : Int) ∧ cI y0_ 7 (Int.ofNat k) 6 - cI y0_ 7 (Int.ofNat k) 5 + (1 : Int) ≤ 9223372036854775807) (Tr.need (-9223372036854775808 ≤ x3_ * x4_ ∧ x3_ * x4_ ≤ 9223372036854775807) (Tr.need (-9223372036854775808 ≤ m * (x3_ * x4_) ∧ m * (x3_ * x4_) ≤ 9223372036854775807) (Tr.need (-9223372036854775808 ≤ Int.ofNat k + (1 : Int) ∧ Int.ofNat k + (1 : Int) ≤ 9223372036854775807) (Tr.leaf CExit.normal [(1, V.rptr (Cds c) 0), (3, V.d (D.int .i64 (m * (x3_ * x4_)))), (4, V.d (D.int .i64 (Int.ofNat k + (1 : Int))))] [some (Blk.box [V.d (D.int .i64 (cI y0_ 7 (Int.ofNat k) 0)), V.d (D.int .i64 (cI y0_ 7 (Int.ofNat k) 1)), V.d (D.int .i64 (cI y0_ 7 (Int.ofNat k) 2)), V.d (D.int .i64 (cI y0_ 7 (Int.ofNat k) 3)), V.d (D.int .i64 (cI y0_ 7 (Int.ofNat k) 4)), V.d (D.int .i64 (cI y0_ 7 (Int.ofNat k) 5)), V.d (D.int .i64 (cI y0_ 7 (Int.ofNat k) 6))])]))))))))) (Tr.leaf (CExit.exit 0) [(1, V.rptr (Cds c) 0), (3, V.d (D.int .i64 m)), (4, V.d (D.int .i64 (Int.ofNat k))), (10, V.d (D.bool x2_))] []) := by kernel_rfl
theorem x70 (c : Cmp) (m : Int) (u : V) (z : Bool) : sS (mkX spNil) (doneK r70) [Fr.blk 0, Fr.seq (CCode.at c70 [1,1,1])] (.exit 0) [(1, .rptr (Cds c) 0), (3, vi m), (4, u), (10, vb z)] [] [] =
  Tr.done (V.d (D.int .i64 m)) [] := by kernel_rfl
def wS (x : Trd) : Int := x.sold.hi - x.sold.lo + 1
def wD (x : Trd) : Int := x.deliv.hi - x.deliv.lo + 1
def manyK (c : Cmp) : Nat → Int
 | 0 => 1
 | k + 1 => manyK c k * (wS (lat c.trades (k : Nat)) * wD (lat c.trades (k : Nat)))
def many (c : Cmp) : Int := manyK c c.trades.length
theorem trade_wide {c : Cmp} (hf : faultM c = 0) {k : Nat} (hk : k < c.trades.length) : 0 ≤ (lat c.trades (k : Nat)).sold.lo ∧ (lat c.trades (k : Nat)).sold.hi ≤ 11 ∧ 0 ≤ (lat c.trades (k : Nat)).deliv.lo ∧ (lat c.trades (k : Nat)).deliv.hi ≤ 11 ∧ 1 ≤ wS (lat c.trades (k : Nat)) ∧ wS (lat c.trades (k : Nat)) ≤ 3 ∧ 1 ≤ wD (lat c.trades (k : Nat)) ∧ wD (lat c.trades (k : Nat)) ≤ 3 := by
 have htr := trade_in hf hk
 simp only [okTr, Bool.and_eq_true, Rng.short, Rng.days, Rng.has, inR, isDay, decide_eq_true_eq] at htr
 unfold wS wD
 omega
theorem mul9 {m a b : Int} {M : Int} (h0 : 1 ≤ m) (h1 : m ≤ M) (ha : 1 ≤ a) (ha3 : a ≤ 3) (hb : 1 ≤ b) (hb3 : b ≤ 3) : 1 ≤ a * b ∧ a * b ≤ 9 ∧ 1 ≤ m * (a * b) ∧ m * (a * b) ≤ M * 9 := by
 have e1 : a * b ≤ 3 * 3 := Int.mul_le_mul ha3 hb3 (by omega) (by omega)
 have e2 : 1 * 1 ≤ a * b := Int.mul_le_mul ha hb (by omega) (by omega)
 have e3 : 1 * 1 ≤ m * (a * b) := Int.mul_le_mul h0 (by omega) (by omega) (by omega)
 have e4 : m * (a * b) ≤ M * 9 := Int.mul_le_mul h1 (by omega) (by omega) (by omega)
 omega
theorem manyK_in {c : Cmp} (hf : faultM c = 0) : ∀ k, k ≤ c.trades.length → 1 ≤ manyK c k ∧ manyK c k ≤ 9 ^ k
 | 0, _ => by simp [manyK]
 | k + 1, hk => by
  have ih := manyK_in hf k (by omega)
  have h := trade_wide hf (show k < c.trades.length by omega)
  have := mul9 ih.1 ih.2 h.2.2.2.2.1 h.2.2.2.2.2.1 h.2.2.2.2.2.2.1 h.2.2.2.2.2.2.2
  rw [manyK, Int.pow_succ]
  exact ⟨this.2.2.1, this.2.2.2⟩
theorem y70 (c : Cmp) (hf : faultM c = 0) : Yields Try.prog 70 [Cv c] (vi (many c)) := by
 have hb := (fault_ok hf).1
 refine q70.yieldsK (X := mkX spNil) (spNil_ok _) rfl rfl rfl (w70 c) ?_
 simp only [holds]
 refine lp_count (X := mkX spNil) (spNil_ok _) c.trades.length (fun _ => True) (fun k => E70 c (manyK c k) k) (fun _ => []) rfl rfl trivial (fun k _ => ⟨rfl, rfl, rfl⟩) ?_
 intro k hk _ Q' hn he hr
 rw [b70]
 simp only [holds, Int.ofNat_eq_natCast, cI_T0, cI_T1, cI_T2, cI_T3, cI_T4, cI_T5, cI_T6]
 refine ⟨fun e1 => ?_, fun e1 => ?_⟩
 ·have hlt : k < c.trades.length := by have := of_decide_eq_true e1; omega
  have h := trade_wide hf hlt
  have hm := manyK_in hf k hk
  have h9 : (9 : Int) ^ k ≤ 9 ^ 4 := by
   have : k = 0 ∨ k = 1 ∨ k = 2 ∨ k = 3 := by omega
   rcases this with rfl | rfl | rfl | rfl <;> decide
  have h94 : (9 : Int) ^ 4 = 6561 := by decide
  have hp := mul9 hm.1 (show manyK c k ≤ 6561 by omega) h.2.2.2.2.1 h.2.2.2.2.2.1 h.2.2.2.2.2.2.1 h.2.2.2.2.2.2.2
  have hn := fun J => hn J hlt trivial
  simp only [manyK] at hn
  unfold wS wD at hp hn h
  exact ⟨⟨by omega, by omega, ok_T (by omega)⟩, ⟨by omega, by omega⟩, ⟨by omega, by omega⟩, ⟨by omega, by omega⟩, ⟨by omega, by omega⟩, ⟨by omega, by omega⟩, ⟨by omega, by omega⟩, ⟨by omega, by omega⟩, hn _⟩
 ·have hge : k = c.trades.length := by have := of_decide_eq_false e1; omega
  subst hge
  refine he _ _ _ (ret_tree (X := mkX spNil) (spNil_ok _) (doneK_ok rfl) (x70 _ _ _ _) ?_)
  simp only [holds]
  exact .refl _
end
end Go.Proofs.Ytdnefcjbcieecaa
namespace Go.Proofs.Ytdnefcjbcieecaa
open Go Go.Proofs
noncomputable section
def tab61 : Spec := (spAdd 61 ent61 spNil)
theorem tab61_ok : SpOk Try.prog tab61 := (spAdd_ok ent61_ok (spNil_ok _))
def X61 : Sx := mkX tab61
theorem X61_ok : SpOk Try.prog X61.sp := tab61_ok
def E37 (p x : List Rng) (k : Nat) : Env := [(0, vsl eR p), (1, vsl eR x), (5, vi k)]
theorem w37 (p x : List Rng) : sx X61 c37 [] (doneP r37) (envOf [vsl eR p, vsl eR x]) [] [] =
  Tr.br (Int.ofNat (List.length p) != Int.ofNat (List.length x)) (Tr.done (V.d (D.bool false)) []) (Tr.lp (CCode.at c37 [1, 1, 0, 1, 0, 0]) [Fr.blk 0, Fr.seq (CCode.at c37 [1, 1, 1])] [(0, V.d (D.sl false (List.length p) (enc eR p))), (1, V.d (D.sl false (List.length x) (enc eR x))), (5, V.d (D.int .i64 0))] []) := by kernel_rfl
theorem b37 (p x : List Rng) (k : Nat) : sx X61 (CCode.at c37 [1,1,0,1,0,0]) [] (bodyK r37) (E37 p x k) [] [] =
  let x1_ := (decide (Int.ofNat k < Int.ofNat (List.length p)))
  let x2_ := [D.int .i64 (cI (enc eR p) 2 (Int.ofNat k) 0), D.int .i64 (cI (enc eR p) 2 (Int.ofNat k) 1)]
  let y0_ := ({ lo := cI (enc eR x) 2 (Int.ofNat k) 0, hi := cI (enc eR x) 2 (Int.ofNat k) 1 } : Rng)
  let x3_ := [D.int .i64 (Rng.lo y0_), D.int .i64 (Rng.hi y0_)]
  let y1_ := (0, V.d (D.sl false (List.length p) (enc eR p)))
  let y2_ := (1, V.d (D.sl false (List.length x) (enc eR x)))
  Tr.br x1_ (Tr.need ((0 : Int) ≤ Int.ofNat k ∧ Int.ofNat k < Int.ofNat (List.length p) ∧ okEl [0, 0] (enc eR p) 2 (Int.ofNat k)) (Tr.need ((0 : Int) ≤ Int.ofNat k ∧ Int.ofNat k < Int.ofNat (List.length x) ∧ okEl [0, 0] (enc eR x) 2 (Int.ofNat k)) (Tr.need True (Tr.need (DP.P (dp True)) (Tr.br (if true = true then !eqDs x2_ x3_ else eqDs x2_ x3_) (Tr.done (V.d (D.bool false)) []) (Tr.need (-9223372036854775808 ≤ Int.ofNat k + (1 : Int) ∧ Int.ofNat k + (1 : Int) ≤ 9223372036854775807) (Tr.leaf CExit.normal [y1_, y2_, (5, V.d (D.int .i64 (Int.ofNat k + (1 : Int))))] []))))))) (Tr.leaf (CExit.exit 0) [y1_, y2_, (5, V.d (D.int .i64 (Int.ofNat k))), (14, V.d (D.bool x1_))] []) := by kernel_rfl
theorem x37 (p x : List Rng) (u : V) (z : Bool) : sS X61 (doneK r37) [Fr.blk 0, Fr.seq (CCode.at c37 [1,1,1])] (.exit 0) [(0, vsl eR p), (1, vsl eR x), (5, u), (14, vb z)] [] [] =
  Tr.done (V.d (D.bool true)) [] := by kernel_rfl
def E36 (l : List Rng) (n : List Int) (f : Bool) (o : List Rng) (k : Nat) : Env := [(0, vsl eR l), (1, vsl eI n), (2, vb f), (7, .own 0 k k), (8, vi k)]
theorem w36 (l : List Rng) (n : List Int) (f : Bool) : sx (mkX spNil) c36 [] (doneK r36) (envOf [vsl eR l, vsl eI n, vb f]) [] [] =
  Tr.lp (CCode.at c36 [1, 1, 0, 1, 0, 0]) [Fr.blk 0, Fr.seq (CCode.at c36 [1, 1, 1])] [(0, V.d (D.sl false (List.length l) (enc eR l))), (1, V.d (D.sl false (List.length n) (enc eI n))), (2, V.d (D.bool f)), (7, V.d D.nils), (8, V.d (D.int .i64 0))] [] := by kernel_rfl
theorem b36 (l : List Rng) (n : List Int) (f : Bool) (o : List Rng) (k : Nat) : sx (mkX spNil) (CCode.at c36 [1,1,0,1,0,0]) [] leafK (E36 l n f o k) [] [some (.row 73 2 k (enc eR o))] =
  let x1_ := (decide (Int.ofNat k < Int.ofNat (List.length n)))
  let x2_ := ((0 : Int) ≤ Int.ofNat k ∧ Int.ofNat k < Int.ofNat (List.length n) ∧ okEl [0] (enc eI n) 1 (Int.ofNat k))
  let x3_ := (cI (enc eI n) 1 (Int.ofNat k) 0)
  let x4_ := [D.int .i64 x3_, D.int .i64 x3_]
  let x5_ := (-9223372036854775808 ≤ Int.ofNat k + (1 : Int) ∧ Int.ofNat k + (1 : Int) ≤ 9223372036854775807)
  let x6_ := ((0 : Int) ≤ Int.ofNat k ∧ Int.ofNat k < Int.ofNat (List.length l) ∧ okEl [0, 0] (enc eR l) 2 (Int.ofNat k))
  let x7_ := [D.int .i64 (min2 (cI (enc eR l) 2 (Int.ofNat k) 0) x3_), D.int .i64 (max2 (cI (enc eR l) 2 (Int.ofNat k) 1) x3_)]
  let y1_ := (0, V.d (D.sl false (List.length l) (enc eR l)))
  let y2_ := (1, V.d (D.sl false (List.length n) (enc eI n)))
  let y0_ := [y1_, y2_, (2, V.d (D.bool f)), (7, V.own 0 (Nat.add k 1) (k + 1)), (8, V.d (D.int .i64 (Int.ofNat k + (1 : Int))))]
  Tr.br x1_ (Tr.br f (Tr.need x2_ (Tr.need x2_ (Tr.need (k = k ∧ 73 = 73 ∧ 2 = 2 ∧ List.length (enc eR o) = k * 2 ∧ List.length x4_ = 1 * 2 ∧ k + 1 ≤ 140737488355328 ∧ (k + 1) * 16 ≤ 140737488355328) (Tr.need x5_ (Tr.leaf CExit.normal y0_ [some (Blk.row 73 2 (Nat.add k 1) (enc eR o ++ x4_))]))))) (Tr.need x6_ (Tr.need x2_ (Tr.need x6_ (Tr.need x2_ (Tr.need (k = k ∧ 73 = 73 ∧ 2 = 2 ∧ List.length (enc eR o) = k * 2 ∧ List.length x7_ = 1 * 2 ∧ k + 1 ≤ 140737488355328 ∧ (k + 1) * 16 ≤ 140737488355328) (Tr.need x5_ (Tr.leaf CExit.normal y0_ [some (Blk.row 73 2 (Nat.add k 1) (enc eR o ++ x7_))])))))))) (Tr.leaf (CExit.exit 0) [y1_, y2_, (2, V.d (D.bool f)), (7, V.own 0 k k), (8, V.d (D.int .i64 (Int.ofNat k))), (12, V.d (D.bool x1_))] [some (Blk.row 73 2 k (enc eR o))]) := by kernel_rfl
theorem x36 (a b d u : V) (z : Bool) (k : Nat) (h : Heap) : sS (mkX spNil) (doneK r36) [Fr.blk 0, Fr.seq (CCode.at c36 [1,1,1])] (.exit 0) [(0, a), (1, b), (2, d), (7, .own 0 k k), (8, u), (12, vb z)] [] h =
  Tr.done (V.own 0 k k) h := by kernel_rfl
instance : DecidableEq Rng := fun a b => decidable_of_iff (a.lo = b.lo ∧ a.hi = b.hi) ⟨fun h => by cases a; cases b; simp only at h; rw [h.1, h.2], fun h => by rw [h]; exact ⟨rfl, rfl⟩⟩
theorem y37 (p x : List Rng) (hl : p.length ≤ 1000000) : Yields Try.prog 37 [vsl eR p, vsl eR x] (vb (decide (p = x))) := by
 refine q37.yieldsP X61_ok rfl rfl rfl (w37 p x) ?_
 simp only [holds, Int.ofNat_eq_natCast]
 refine ⟨fun h => ?_, fun h1 => ?_⟩
 ·refine .of_eq (congrArg vb ?_)
  rw [eq_comm, decide_eq_false_iff_not]
  rintro rfl
  simp at h
 have l1 : p.length = x.length := by simp at h1; omega
 refine lp_countK (R := fun v => VLe v (vb (decide (p = x)))) X61_ok rfl p.length (fun k => ∀ j, j < k → lat p (j : Nat) = lat x (j : Nat)) (E37 p x) (fun _ => []) rfl rfl (fun j hj => by omega) (fun k _ => ⟨rfl, rfl, rfl⟩) ?_
 intro k hk hA Q' hn he
 rw [b37]
 simp only [holds, Int.ofNat_eq_natCast, cI_R0, cI_R1, true_and]
 refine ⟨fun h2 => ?_, fun h2 => ?_⟩
 ·have hlt : k < p.length := by have := of_decide_eq_true h2; omega
  refine ⟨⟨by omega, by omega, ok_R (by omega)⟩, ⟨by omega, by omega, ok_R (by omega)⟩, fun h3 => ?_, fun h3 => ⟨⟨by omega, by omega⟩, hn [] hlt (step_all hA ?_)⟩⟩
  ·refine .of_eq (congrArg vb ?_)
   rw [eq_comm, decide_eq_false_iff_not]
   rintro rfl
   simp [eqDs, eqD] at h3
  ·simp [eqDs, eqD] at h3
   have e1 := h3.1
   have e2 := h3.2
   cases ha : lat p (k : Nat) with
   | mk a b =>
    cases hb : lat x (k : Nat) with
    | mk a' b' =>
     rw [ha, hb] at e1 e2
     simp only at e1 e2
     rw [e1, e2]
 ·have hge : k = p.length := by have := of_decide_eq_false h2; omega
  refine he _ _ _ (ret_tree (R := fun v _ => VLe v (vb (decide (p = x)))) X61_ok (doneK_ok rfl) (x37 _ _ _ _) ?_)
  simp only [holds]
  refine .of_eq (congrArg vb ?_)
  rw [eq_comm, decide_eq_true_iff]
  apply List.ext_getElem l1
  intro j h3 h4
  have := hA j (by omega)
  simpa [lat, List.getD, h3, h4] using this
def widK (l : List Rng) (n : List Int) (f : Bool) : Nat → List Rng
 | 0 => []
 | k + 1 => widK l n f k ++ [if f = true then ⟨lat n (k : Nat), lat n (k : Nat)⟩ else ⟨min2 (lat l (k : Nat)).lo (lat n (k : Nat)), max2 (lat l (k : Nat)).hi (lat n (k : Nat))⟩]
theorem widK_len (l : List Rng) (n : List Int) (f : Bool) : ∀ k, (widK l n f k).length = k
 | 0 => rfl
 | k + 1 => by rw [widK, List.length_append, widK_len l n f k]; rfl
def widM (l : List Rng) (n : List Int) (f : Bool) : List Rng := widK l n f n.length
theorem fin_own2R (o : List Rng) (k : Nat) (hk : o.length = k) : VLe (finX 0 (.own 0 k k) [some (.row 73 2 k (enc eR o))]).1 (vsl eR o) := by
 subst hk
 simp [finX, rowsIn, rowsIn1, rowIn, frzRows, frzB, blkDs, fzV, fz2, fz1, bel2, bel1, bel0]
 exact .refl _
theorem y36 (l : List Rng) (n : List Int) (f : Bool) (hl : n.length ≤ 1000000) (hf : f = false → n.length ≤ l.length) : Yields Try.prog 36 [vsl eR l, vsl eI n, vb f] (vsl eR (widM l n f)) := by
 refine q36.yieldsX (X := mkX spNil) (spNil_ok _) rfl rfl ?_ (w36 l n f) ?_
 ·rfl
 simp only [holds]
 refine LoopP.state (StLe.ghostTmp (t := 7) 73 2 rfl) ?_
 refine lp_count (X := mkX spNil) (spNil_ok _) n.length (fun _ => True) (fun k => E36 l n f (widK l n f k) k) (fun k => [some (.row 73 2 k (enc eR (widK l n f k)))]) rfl rfl trivial (fun k _ => ⟨rfl, rfl, rfl⟩) ?_
 intro k hk _ Q' hn he hr
 rw [b36]
 have hlen := widK_len l n f k
 have hle : (enc eR (widK l n f k)).length = k * 2 := by rw [enc_len (sz := 2) (f := eR) (fun _ => rfl), hlen]
 simp only [holds, Int.ofNat_eq_natCast, cI_I, cI_R0, cI_R1, true_and, Nat.add_eq, hle, List.length_cons, List.length_nil]
 refine ⟨fun e1 => ?_, fun e1 => ?_⟩
 ·have hlt : k < n.length := by have := of_decide_eq_true e1; omega
  have hn := fun J => hn J hlt trivial
  have o1 : okEl [0] (enc eI n) 1 (k : Nat) := ok_I (by omega)
  refine ⟨fun hf1 => ?_, fun hf1 => ?_⟩
  ·subst hf1
   simp only [widK, if_true, enc_append, enc_one] at hn
   exact ⟨⟨by omega, by omega, o1⟩, ⟨by omega, by omega, o1⟩, ⟨by omega, by omega⟩, ⟨by omega, by omega⟩, hn []⟩
  ·subst hf1
   have hl2 := hf rfl
   have o2 : okEl [0, 0] (enc eR l) 2 (k : Nat) := ok_R (by omega)
   simp only [widK, Bool.false_eq_true, if_false, enc_append, enc_one] at hn
   exact ⟨⟨by omega, by omega, o2⟩, ⟨by omega, by omega, o1⟩, ⟨by omega, by omega, o2⟩, ⟨by omega, by omega, o1⟩, ⟨by omega, by omega⟩, ⟨by omega, by omega⟩, hn []⟩
 ·have hge : k = n.length := by have := of_decide_eq_false e1; omega
  subst hge
  refine he _ _ _ (ret_tree (R := fun v1 h1 => VLe (finX 0 v1 h1).1 (vsl eR (widM l n f))) (X := mkX spNil) (spNil_ok _) (doneK_ok rfl) (x36 _ _ _ _ _ _ _) ?_)
  simp only [holds]
  exact fin_own2R _ _ hlen
end
end Go.Proofs.Ytdnefcjbcieecaa
namespace Go.Proofs.Ytdnefcjbcieecaa
open Go Go.Proofs
noncomputable section
theorem q74 : FunIs Try.prog 74 G74 c74 r74 := ⟨Try.f74, Try.func74, k74, e74, by kernel_rfl, by kernel_rfl⟩
def E74 (c : Cmp) (n : Int) (k : Nat) : Env := [(1, vi n), (2, .rptr (Cds c) 0), (4, .ptr 0 0 0), (5, .ptr 1 0 0), (6, vi k)]
def H74 (t : Tru) (k : Nat) : Heap := [some (.box [.d .nils, .d .nils]), some (.box [.own 2 k k, .own 3 k k]), some (.row 3 1 k (enc eI t.sold)), some (.row 3 1 k (enc eI t.deliv))]
theorem w74 (c : Cmp) (n : Int) : sx (mkX spNil) c74 [] (doneK r74) (envOf [Cv c, vi n]) [] [] =
  Tr.lp (CCode.at c74 [1, 1, 0, 1, 0, 0]) [Fr.blk 0, Fr.seq (CCode.at c74 [1, 1, 1])] [(1, V.d (D.int .i64 n)), (2, V.rptr (Cds c) 0), (4, V.ptr 0 0 0), (5, V.ptr 1 0 0), (6, V.d (D.int .i64 0))] [some (Blk.box [V.d D.nils, V.d D.nils]), some (Blk.box [V.d D.nils, V.d D.nils])] := by kernel_rfl
theorem b74 (c : Cmp) (n : Int) (t : Tru) (k : Nat) : sx (mkX spNil) (CCode.at c74 [1,1,0,1,0,0]) [] leafK (E74 c n k) [] (H74 t k) =
  let x1_ := (List.length (Cmp.trades c))
  let x2_ := (decide (Int.ofNat k < Int.ofNat x1_))
  let y0_ := (enc eT (Cmp.trades c))
  let x3_ := (cI y0_ 7 (Int.ofNat k) 4 - cI y0_ 7 (Int.ofNat k) 3 + (1 : Int) ≠ (0 : Int))
  let x4_ := (cI y0_ 7 (Int.ofNat k) 4 - cI y0_ 7 (Int.ofNat k) 3 + (1 : Int))
  let x5_ := (-9223372036854775808 ≤ Int.tdiv n x4_ ∧ Int.tdiv n x4_ ≤ 9223372036854775807)
  let x6_ := (cI y0_ 7 (Int.ofNat k) 6 - cI y0_ 7 (Int.ofNat k) 5 + (1 : Int) ≠ (0 : Int))
  let x7_ := [D.int .i64 (cI y0_ 7 (Int.ofNat k) 3 + Int.tmod n x4_)]
  let x8_ := (k = k ∧ 3 = 3 ∧ 1 = 1 ∧ List.length (enc eI (Tru.sold t)) = k * 1 ∧ List.length x7_ = 1 * 1 ∧ k + 1 ≤ 140737488355328 ∧ (k + 1) * 8 ≤ 140737488355328)
  let x9_ := (cI y0_ 7 (Int.ofNat k) 6 - cI y0_ 7 (Int.ofNat k) 5 + (1 : Int))
  let y2_ := (Int.tdiv n x4_)
  let x10_ := (-9223372036854775808 ≤ cI y0_ 7 (Int.ofNat k) 5 + Int.tmod y2_ x9_ ∧ cI y0_ 7 (Int.ofNat k) 5 + Int.tmod y2_ x9_ ≤ 9223372036854775807)
  let x11_ := [D.int .i64 (cI y0_ 7 (Int.ofNat k) 5 + Int.tmod y2_ x9_)]
  let x12_ := (k = k ∧ 3 = 3 ∧ 1 = 1 ∧ List.length (enc eI (Tru.deliv t)) = k * 1 ∧ List.length x11_ = 1 * 1 ∧ k + 1 ≤ 140737488355328 ∧ (k + 1) * 8 ≤ 140737488355328)
  let x13_ := (Blk.box [V.d D.nils, V.d D.nils])
  let x14_ := [some x13_, some (Blk.box [V.own 2 (Nat.add k 1) (k + 1), V.own 3 (Nat.add k 1) (k + 1)]), some (Blk.row 3 1 (Nat.add k 1) (enc eI (Tru.sold t) ++ x7_)), some (Blk.row 3 1 (Nat.add k 1) (enc eI (Tru.deliv t) ++ x11_)), some (Blk.box [V.d (D.int .i64 (cI y0_ 7 (Int.ofNat k) 0)), V.d (D.int .i64 (cI y0_ 7 (Int.ofNat k) 1)), V.d (D.int .i64 (cI y0_ 7 (Int.ofNat k) 2)), V.d (D.int .i64 (cI y0_ 7 (Int.ofNat k) 3)), V.d (D.int .i64 (cI y0_ 7 (Int.ofNat k) 4)), V.d (D.int .i64 (cI y0_ 7 (Int.ofNat k) 5)), V.d (D.int .i64 (cI y0_ 7 (Int.ofNat k) 6))])]
  let y3_ := (2, V.rptr (Cds c) 0)
  let y4_ := (6, V.d (D.int .i64 (Int.ofNat k)))
  let y1_ := [(1, V.d (D.int .i64 n)), y3_, (4, V.ptr 0 0 0), (5, V.ptr 1 0 0), y4_, (8, V.d (D.int .i64 x4_)), (9, V.d (D.int .i64 x9_))]
  let x15_ := (y1_ = y1_ ∧ x14_ = x14_)
  Tr.br x2_ (Tr.need ((0 : Int) ≤ Int.ofNat k ∧ Int.ofNat k < Int.ofNat x1_ ∧ okEl [0, 0, 0, 0, 0, 0, 0] y0_ 7 (Int.ofNat k)) (Tr.need (-9223372036854775808 ≤ cI y0_ 7 (Int.ofNat k) 4 - cI y0_ 7 (Int.ofNat k) 3 ∧ cI y0_ 7 (Int.ofNat k) 4 - cI y0_ 7 (Int.ofNat k) 3 ≤ 9223372036854775807) (Tr.need (-9223372036854775808 ≤ cI y0_ 7 (Int.ofNat k) 4 - cI y0_ 7 (Int.ofNat k) 3 + (1 : Int) ∧ cI y0_ 7 (Int.ofNat k) 4 - cI y0_ 7 (Int.ofNat k) 3 + (1 : Int) ≤ 9223372036854775807) (Tr.need (-9223372036854775808 ≤ cI y0_ 7 (Int.ofNat k) 6 - cI y0_ 7 (Int.ofNat k) 5 ∧ cI y0_ 7 (Int.ofNat k) 6 - cI y0_ 7 (Int.ofNat k) 5 ≤ 9223372036854775807) (Tr.need (-9223372036854775808 ≤ cI y0_ 7 (Int.ofNat k) 6 - cI y0_ 7 (Int.ofNat k) 5 + (1 : Int) ∧ cI y0_ 7 (Int.ofNat k) 6 - cI y0_ 7 (Int.ofNat k) 5 + (1 : Int) ≤ 9223372036854775807) (Tr.need x3_ (Tr.need (-9223372036854775808 ≤ cI y0_ 7 (Int.ofNat k) 3 + Int.tmod n x4_ ∧ cI y0_ 7 (Int.ofNat k) 3 + Int.tmod n x4_ ≤ 9223372036854775807) (Tr.need x3_ (Tr.need x5_ (Tr.need x6_ (Tr.need x8_ (Tr.need x10_ (Tr.need x12_ (Tr.need x8_ (Tr.need x10_ (Tr.need x12_ (Tr.need x10_ (Tr.need x8_ (Tr.need x12_ (Tr.need x15_ (Tr.need x10_ (Tr.need x8_ (Tr.need x12_ (Tr.need x8_ (Tr.need x12_ (Tr.need x15_ (Tr.need x15_ (Tr.need x15_ (Tr.need x3_ (Tr.need x5_ (Tr.need x6_ (Tr.need (-9223372036854775808 ≤ Int.tdiv y2_ x9_ ∧ Int.tdiv y2_ x9_ ≤ 9223372036854775807) (Tr.need (-9223372036854775808 ≤ Int.ofNat k + (1 : Int) ∧ Int.ofNat k + (1 : Int) ≤ 9223372036854775807) (Tr.leaf CExit.normal [(1, V.d (D.int .i64 (Int.tdiv y2_ x9_))), y3_, (4, V.ptr 0 0 0), (5, V.ptr 1 0 0), (6, V.d (D.int .i64 (Int.ofNat k + (1 : Int))))] x14_)))))))))))))))))))))))))))))))))) (Tr.leaf (CExit.exit 0) [(1, V.d (D.int .i64 n)), y3_, (4, V.ptr 0 0 0), (5, V.ptr 1 0 0), y4_, (14, V.d (D.bool x2_))] [some x13_, some (Blk.box [V.own 2 k k, V.own 3 k k]), some (Blk.row 3 1 k (enc eI (Tru.sold t))), some (Blk.row 3 1 k (enc eI (Tru.deliv t)))]) := by kernel_rfl
theorem x74 (u v w : V) (k : Nat) (z : Bool) (t : Tru) : sS (mkX spNil) (doneK r74) [Fr.blk 0, Fr.seq (CCode.at c74 [1,1,1])] (.exit 0) [(1, u), (2, v), (4, .ptr 0 0 0), (5, .ptr 1 0 0), (6, w), (14, vb z)] [] (H74 t k) =
  let y0_ := [V.own 2 k k, V.own 3 k k]
  Tr.done (V.agg y0_) [some (Blk.box y0_), some (Blk.box y0_), some (Blk.row 3 1 k (enc eI (Tru.sold t))), some (Blk.row 3 1 k (enc eI (Tru.deliv t)))] := by kernel_rfl
def nthN (c : Cmp) (n : Int) : Nat → Int
 | 0 => n
 | k + 1 => ((nthN c n k).tdiv (wS (lat c.trades (k : Nat)))).tdiv (wD (lat c.trades (k : Nat)))
def nthK (c : Cmp) (n : Int) : Nat → Tru
 | 0 => ⟨[], []⟩
 | k + 1 => (nthK c n k).snoc ((lat c.trades (k : Nat)).sold.lo + (nthN c n k).tmod (wS (lat c.trades (k : Nat)))) ((lat c.trades (k : Nat)).deliv.lo + ((nthN c n k).tdiv (wS (lat c.trades (k : Nat)))).tmod (wD (lat c.trades (k : Nat))))
def nth (c : Cmp) (n : Int) : Tru := nthK c n c.trades.length
theorem nthK_len (c : Cmp) (n : Int) : ∀ k, (nthK c n k).sold.length = k ∧ (nthK c n k).deliv.length = k
 | 0 => ⟨rfl, rfl⟩
 | k + 1 => by
  have ih := nthK_len c n k
  simp [nthK, Tru.snoc, ih]
theorem div_in3 {m w : Int} (h0 : 0 ≤ m) (hw : 1 ≤ w) : 0 ≤ m.tdiv w ∧ m.tdiv w ≤ m ∧ 0 ≤ m.tmod w ∧ m.tmod w < w := by
 rw [Int.tdiv_eq_ediv_of_nonneg h0, Int.tmod_eq_emod_of_nonneg h0]
 exact ⟨Int.ediv_nonneg h0 (by omega), Int.ediv_le_self _ h0, Int.emod_nonneg _ (by omega), Int.emod_lt_of_pos _ (by omega)⟩
theorem nthN_in {c : Cmp} (hf : faultM c = 0) {n : Int} (h0 : 0 ≤ n) : ∀ k, k ≤ c.trades.length → 0 ≤ nthN c n k ∧ nthN c n k ≤ n
 | 0, _ => ⟨h0, Int.le_refl _⟩
 | k + 1, hk => by
  have ih := nthN_in hf h0 k (by omega)
  have h := trade_wide hf (show k < c.trades.length by omega)
  have d1 := div_in3 ih.1 h.2.2.2.2.1
  have d2 := div_in3 d1.1 h.2.2.2.2.2.2.1
  rw [nthN]
  omega
theorem fin_74 (t : Tru) (k : Nat) (h1 : t.sold.length = k) (h2 : t.deliv.length = k) : VLe (finX 0 (.agg [.own 2 k k, .own 3 k k]) [some (.box [.own 2 k k, .own 3 k k]), some (.box [.own 2 k k, .own 3 k k]), some (.row 3 1 k (enc eI t.sold)), some (.row 3 1 k (enc eI t.deliv))]).1 (Uv t) := by
 have e : finX 0 (.agg [.own 2 k k, .own 3 k k]) [some (.box [.own 2 k k, .own 3 k k]), some (.box [.own 2 k k, .own 3 k k]), some (.row 3 1 k (enc eI t.sold)), some (.row 3 1 k (enc eI t.deliv))] = (.agg [.d (.sl false k (enc eI t.sold)), .d (.sl false k (enc eI t.deliv))], []) := by
  simp [finX, rowsIn, rowsIn1, rowIn, frzRows, frzB, blkDs, fzV, fz2, fz1, fzH, fzB, bel2, bel1, bel0]
 rw [e]
 have e2 : Uv t = .agg [.d (.sl false k (enc eI t.sold)), .d (.sl false k (enc eI t.deliv))] := by unfold Uv; rw [h1, h2]
 rw [e2]
 exact .refl _
theorem y74 (c : Cmp) (n : Int) (hf : faultM c = 0) (h0 : 0 ≤ n) (h1 : n ≤ 1000000) : Yields Try.prog 74 [Cv c, vi n] (Uv (nth c n)) := by
 have hb := (fault_ok hf).1
 refine q74.yieldsX (X := mkX spNil) (spNil_ok _) rfl rfl ?_ (w74 c n) ?_
 ·rfl
 simp only [holds]
 refine LoopP.state (StLe.trans (StLe.ghostBox (id := 1) (off := 0) (cs := [.d .nils, .d .nils]) 3 1 rfl rfl) (StLe.ghostBox (id := 1) (off := 1) (cs := [.own 2 0 0, .d .nils]) 3 1 rfl rfl)) ?_
 refine lp_count (X := mkX spNil) (spNil_ok _) c.trades.length (fun _ => True) (fun k => E74 c (nthN c n k) k) (fun k => H74 (nthK c n k) k) rfl rfl trivial (fun k _ => ⟨rfl, rfl, rfl⟩) ?_
 intro k hk _ Q' hn he hr
 rw [b74]
 have hlen := nthK_len c n k
 have l1 : (enc eI (nthK c n k).sold).length = k * 1 := by rw [len_I, hlen.1]
 have l2 : (enc eI (nthK c n k).deliv).length = k * 1 := by rw [len_I, hlen.2]
 simp only [holds, Int.ofNat_eq_natCast, cI_T0, cI_T1, cI_T2, cI_T3, cI_T4, cI_T5, cI_T6, true_and, and_true, Nat.add_eq, l1, l2, List.length_cons, List.length_nil]
 refine ⟨fun e1 => ?_, fun e1 => ?_⟩
 ·have hlt : k < c.trades.length := by have := of_decide_eq_true e1; omega
  have hn := fun J => hn J hlt trivial
  have h := trade_wide hf hlt
  have hm := nthN_in hf h0 k hk
  have d1 := div_in3 hm.1 h.2.2.2.2.1
  have d2 := div_in3 d1.1 h.2.2.2.2.2.2.1
  have o1 : okEl [0, 0, 0, 0, 0, 0, 0] (enc eT c.trades) 7 (k : Nat) := ok_T (by omega)
  simp only [nthN, nthK, H74, Tru.snoc, enc_append, enc_one] at hn
  unfold wS wD at *
  generalize hx : lat c.trades (k : Nat) = x at *
  (repeat' (refine And.intro ?_ ?_)) <;> first
   | omega
   | assumption
   | exact hn _
 ·have hge : k = c.trades.length := by have := of_decide_eq_false e1; omega
  subst hge
  refine he _ _ _ (ret_tree (R := fun v1 h1 => VLe (finX 0 v1 h1).1 (Uv (nth c n))) (X := mkX spNil) (spNil_ok _) (doneK_ok rfl) (x74 _ _ _ _ _ _) ?_)
  simp only [holds]
  exact fin_74 _ _ hlen.1 hlen.2
end
end Go.Proofs.Ytdnefcjbcieecaa
namespace Go.Proofs.Ytdnefcjbcieecaa
open Go Go.Proofs
noncomputable section
theorem q35 : FunIs Try.prog 35 G35 c35 r35 := ⟨Try.f35, Try.func35, k35, e35, by kernel_rfl, by kernel_rfl⟩
def ent70 := entC (fun c => faultM c = 0) (fun c => vi (many c))
theorem ent70_ok : EntOk Try.prog 70 ent70 := entC_ok fun c h => y70 c h
def ent74 := entCI (fun c n => faultM c = 0 ∧ 0 ≤ n ∧ n ≤ 1000000) (fun c n => Uv (nth c n))
theorem ent74_ok : EntOk Try.prog 74 ent74 := entCI_ok fun c n h => y74 c n h.1 h.2.1 h.2.2
def tab35 : Spec := (spAdd 44 ent44 (spAdd 74 ent74 (spAdd 70 ent70 spNil)))
theorem tab35_ok : SpOk Try.prog tab35 := (spAdd_ok ent44_ok (spAdd_ok ent74_ok (spAdd_ok ent70_ok (spNil_ok _))))
def X35 : Sx := mkX tab35
theorem X35_ok : SpOk Try.prog X35.sp := tab35_ok
def eU (t : Tru) : List D := [.sl false t.sold.length (enc eI t.sold), .sl false t.deliv.length (enc eI t.deliv)]
def E35 (c : Cmp) (l : List Tru) (k : Nat) : Env := [(1, .rptr (Cds c) 0), (3, .own 0 l.length l.length), (4, vi k)]
theorem w35 (c : Cmp) : sx X35 c35 [] (doneK r35) (envOf [Cv c]) [] [] =
  Tr.lp (CCode.at c35 [1, 1, 0, 1, 0, 0]) [Fr.blk 0, Fr.seq (CCode.at c35 [1, 1, 1])] [(1, V.rptr (Cds c) 0), (3, V.d D.nils), (4, V.d (D.int .i64 0))] [] := by kernel_rfl
theorem b35 (c : Cmp) (l : List Tru) (k : Nat) : sx X35 (CCode.at c35 [1,1,0,1,0,0]) [] leafK (E35 c l k) [] [some (.row 30 2 l.length (enc eU l))] =
  let x1_ := (decide (Int.ofNat k < many (dCe c)))
  let x2_ := (nth (dCe c) (Int.ofNat k))
  let x3_ := (List.length (Tru.sold x2_))
  let x4_ := (List.length (Tru.deliv x2_))
  let x5_ := (enc eI (Tru.deliv x2_))
  let x6_ := [D.sl false x3_ (enc eI (Tru.sold x2_)), D.sl false x4_ x5_]
  let x7_ := (List.length l + 1)
  let x8_ := (-9223372036854775808 ≤ Int.ofNat k + (1 : Int) ∧ Int.ofNat k + (1 : Int) ≤ 9223372036854775807)
  let y0_ := (List.length l)
  let x9_ := (Nat.add y0_ 1)
  let x10_ := (Blk.box [V.d (D.sl false x3_ (enc eI (Tru.sold x2_))), V.d (D.sl false x4_ x5_)])
  let x11_ := (Blk.row 30 2 y0_ (enc eU l))
  let y1_ := (4, V.d (D.int .i64 (Int.ofNat k + (1 : Int))))
  let y2_ := (1, V.rptr (Cds c) 0)
  Tr.need (Cv (dCe c) = Cv c ∧ faultM (dCe c) = (0 : Int)) (Tr.br x1_ (Tr.need (Cv (dCe c) = Cv c ∧ faultM (dCe c) = (0 : Int) ∧ (0 : Int) ≤ Int.ofNat k ∧ Int.ofNat k ≤ (1000000 : Int)) (Tr.need (Cv (dCe c) = Cv c ∧ Uv (dUe x2_) = Uv x2_ ∧ faultM (dCe c) = (0 : Int)) (Tr.br (truthB (dCe c) (dUe x2_)) (Tr.need (List.length l = List.length l ∧ 30 = 30 ∧ 2 = 2 ∧ List.length (enc eU l) = List.length l * 2 ∧ List.length x6_ = 1 * 2 ∧ List.length l + 1 ≤ 140737488355328 ∧ x7_ * 48 ≤ 140737488355328) (Tr.need x8_ (Tr.leaf CExit.normal [y2_, (3, V.own 0 x9_ x7_), y1_] [some (Blk.row 30 2 x9_ (enc eU l ++ x6_)), some x10_]))) (Tr.need x8_ (Tr.leaf CExit.normal [y2_, (3, V.own 0 y0_ y0_), y1_] [some x11_, some x10_]))))) (Tr.leaf (CExit.exit 0) [y2_, (3, V.own 0 y0_ y0_), (4, V.d (D.int .i64 (Int.ofNat k))), (9, V.d (D.bool x1_))] [some x11_])) := by kernel_rfl
theorem x35 (u v : V) (k : Nat) (z : Bool) (h : Heap) : sS X35 (doneK r35) [Fr.blk 0, Fr.seq (CCode.at c35 [1,1,1])] (.exit 0) [(1, u), (3, .own 0 k k), (4, v), (9, vb z)] [] h =
  Tr.done (V.own 0 k k) h := by kernel_rfl
def trK (c : Cmp) : Nat → List Tru
 | 0 => []
 | k + 1 => if truthB c (nth c (k : Nat)) = true then trK c k ++ [nth c (k : Nat)] else trK c k
def truthsR (c : Cmp) : List Tru := trK c (many c).toNat
theorem trK_len (c : Cmp) : ∀ k, (trK c k).length ≤ k
 | 0 => Nat.le_refl _
 | k + 1 => by
  have ih := trK_len c k
  rw [trK]
  split
  ·simp; exact ih
  ·omega
theorem many_in {c : Cmp} (hf : faultM c = 0) : 1 ≤ many c ∧ many c ≤ 6561 := by
 have h := manyK_in hf c.trades.length (Nat.le_refl _)
 have hb := (fault_ok hf).1
 have h9 : (9 : Int) ^ c.trades.length ≤ 6561 := by
  have : c.trades.length = 0 ∨ c.trades.length = 1 ∨ c.trades.length = 2 ∨ c.trades.length = 3 ∨ c.trades.length = 4 := by omega
  rcases this with e | e | e | e | e <;> rw [e] <;> decide
 unfold many
 omega
theorem fin_35 (l : List Tru) : VLe (finX 0 (.own 0 l.length l.length) [some (.row 30 2 l.length (enc eU l))]).1 (vsl eU l) := by
 simp [finX, rowsIn, rowsIn1, rowIn, frzRows, frzB, blkDs, fzV, fz2, fz1, bel2, bel1, bel0]
 exact .refl _
theorem y35 (c : Cmp) (hf : faultM c = 0) : Yields Try.prog 35 [Cv c] (vsl eU (truthsR c)) := by
 have hm := many_in hf
 refine q35.yieldsX X35_ok rfl rfl ?_ (w35 c) ?_
 ·rfl
 simp only [holds]
 refine LoopP.state (StLe.ghostTmp (t := 3) 30 2 rfl) ?_
 refine lp_count X35_ok (many c).toNat (fun _ => True) (fun k => E35 c (trK c k) k) (fun k => [some (.row 30 2 (trK c k).length (enc eU (trK c k)))]) rfl rfl trivial (fun k _ => ⟨rfl, rfl, rfl⟩) ?_
 intro k hk _ Q' hn he hr
 rw [b35]
 have hlen := trK_len c k
 have hle : (enc eU (trK c k)).length = (trK c k).length * 2 := enc_len (sz := 2) (f := eU) (fun _ => rfl) _
 simp only [holds, Int.ofNat_eq_natCast, dCe, dC_enc, dUe, dU_enc, true_and, and_true, Nat.add_eq, hle, hf, List.length_cons, List.length_nil]
 refine ⟨fun e1 => ?_, fun e1 => ?_⟩
 ·have e1 := of_decide_eq_true e1
  have hlt : k < (many c).toNat := by omega
  have hn := fun J => hn J hlt trivial
  refine ⟨⟨by omega, by omega⟩, fun h2 => ?_, fun h2 => ?_⟩
  ·simp only [E35, trK, h2, if_true, Nat.zero_add, List.length_append, List.length_cons, List.length_nil, enc_append, enc_one] at hn
   exact ⟨⟨by omega, by omega⟩, ⟨by omega, by omega⟩, hn [_]⟩
  ·simp only [trK, h2, Bool.false_eq_true, if_false] at hn
   exact ⟨⟨by omega, by omega⟩, hn [_]⟩
 ·have e1 := of_decide_eq_false e1
  have hge : k = (many c).toNat := by omega
  subst hge
  refine he _ _ _ (ret_tree (R := fun v1 h1 => VLe (finX 0 v1 h1).1 (vsl eU (truthsR c))) X35_ok (doneK_ok rfl) (x35 _ _ _ _ _) ?_)
  simp only [holds]
  exact fin_35 _
end
end Go.Proofs.Ytdnefcjbcieecaa
namespace Go.Proofs.Ytdnefcjbcieecaa
open Go Go.Proofs
noncomputable section
theorem upto_mem {a b x : Int} : x ∈ upto a b ↔ a ≤ x ∧ x ≤ b := by
 simp only [upto, List.mem_map, List.mem_range]
 constructor
 ·rintro ⟨k, hk, rfl⟩; omega
 ·intro h; exact ⟨(x - a).toNat, by omega, by omega⟩
def datedL : List Trd → List Int → List Int → Prop
 | [], [], [] => True
 | x :: xs, s :: ss, d :: ds => x.sold.has s = true ∧ x.deliv.has d = true ∧ s ≤ d ∧ datedL xs ss ds
 | _, _, _ => False
theorem comp_mem {c : Cmp} : ∀ (xs : List Trd) (t u : Tru), u ∈ comp c xs t ↔ ∃ ss ds, datedL xs ss ds ∧ u = ⟨t.sold ++ ss, t.deliv ++ ds⟩
 | [], t, u => by
  simp only [comp, List.mem_singleton]
  constructor
  ·rintro rfl; exact ⟨[], [], trivial, by simp⟩
  ·rintro ⟨ss, ds, h, rfl⟩
   cases ss with
   | nil => cases ds with
    | nil => simp
    | cons => exact h.elim
   | cons => exact h.elim
 | x :: xs, t, u => by
  simp only [comp, List.mem_flatMap, upto_mem]
  constructor
  ·rintro ⟨s, hs, d, hd, h⟩
   obtain ⟨ss, ds, h2, rfl⟩ := (comp_mem xs _ u).1 h
   have hmx : s ≤ max2 s x.deliv.lo ∧ x.deliv.lo ≤ max2 s x.deliv.lo := by unfold max2; split <;> omega
   refine ⟨s :: ss, d :: ds, ⟨?_, ?_, by omega, h2⟩, by simp [Tru.snoc]⟩
   ·simp only [Rng.has, inR, decide_eq_true_eq]; omega
   ·simp only [Rng.has, inR, decide_eq_true_eq]; omega
  ·rintro ⟨ss, ds, h, rfl⟩
   cases ss with
   | nil => exact h.elim
   | cons s ss => cases ds with
    | nil => exact h.elim
    | cons d ds =>
     obtain ⟨h1, h2, h3, h4⟩ := h
     simp only [Rng.has, inR, decide_eq_true_eq] at h1 h2
     have hmx : max2 s x.deliv.lo ≤ d := by unfold max2; split <;> omega
     exact ⟨s, by omega, d, by omega, (comp_mem xs _ _).2 ⟨ss, ds, h4, by simp [Tru.snoc]⟩⟩
theorem datedL_len : ∀ (xs : List Trd) (ss ds : List Int), datedL xs ss ds → ss.length = xs.length ∧ ds.length = xs.length
 | [], [], [], _ => ⟨rfl, rfl⟩
 | x :: xs, s :: ss, d :: ds, h => by
  have := datedL_len xs ss ds h.2.2.2
  simp [this]
theorem datedL_iff : ∀ (xs : List Trd) (ss ds : List Int), ss.length = xs.length → ds.length = xs.length → (datedL xs ss ds ↔ ∀ k : Nat, k < xs.length → (lat xs (k : Nat)).sold.has (lat ss (k : Nat)) = true ∧ (lat xs (k : Nat)).deliv.has (lat ds (k : Nat)) = true ∧ lat ss (k : Nat) ≤ lat ds (k : Nat))
 | [], [], [], _, _ => ⟨fun _ k hk => by simp at hk, fun _ => trivial⟩
 | x :: xs, s :: ss, d :: ds, h1, h2 => by
  have ih := datedL_iff xs ss ds (by simpa using h1) (by simpa using h2)
  constructor
  ·rintro ⟨a, b, e, f⟩ k hk
   cases k with
   | zero => exact ⟨a, b, e⟩
   | succ k => exact ih.1 f k (by simpa using hk)
  ·intro h
   have h0 := h 0 (by simp)
   exact ⟨h0.1, h0.2.1, h0.2.2, ih.2 fun k hk => h (k + 1) (by simpa using hk)⟩
theorem comp_dated {c : Cmp} {u : Tru} : u ∈ comp c c.trades ⟨[], []⟩ ↔ datedB c u = true := by
 rw [comp_mem]
 simp only [List.nil_append, datedB, decide_eq_true_eq]
 constructor
 ·rintro ⟨ss, ds, h, rfl⟩
  obtain ⟨l1, l2⟩ := datedL_len _ _ _ h
  refine ⟨l1, l2, fun k hk => ?_⟩
  have := (datedL_iff _ _ _ l1 l2).1 h k hk
  simp [datK, this]
 ·rintro ⟨l1, l2, h⟩
  refine ⟨u.sold, u.deliv, (datedL_iff _ _ _ l1 l2).2 fun k hk => ?_, rfl⟩
  have := h k hk
  simp only [datK, Bool.and_eq_true, decide_eq_true_eq] at this
  exact ⟨this.1.1, this.1.2, this.2⟩
theorem truthsP_mem {c : Cmp} {u : Tru} : u ∈ truthsP c ↔ truthB c u = true := by
 simp only [truthsP, List.mem_filter, comp_dated, truthB, Bool.and_eq_true]
theorem nthN_step (c : Cmp) (n : Int) (k : Nat) : nthN c n (k + 1) = ((nthN c n k).tdiv (wS (lat c.trades (k : Nat)))).tdiv (wD (lat c.trades (k : Nat))) := rfl
theorem radix {p q a b m : Int} (hp : 1 ≤ p ∧ p ≤ 3) (hq : 1 ≤ q ∧ q ≤ 3) (ha : 0 ≤ a ∧ a < p) (hb : 0 ≤ b ∧ b < q) (hm : 0 ≤ m) :
  0 ≤ a + p * (b + q * m) ∧ (a + p * (b + q * m)).tmod p = a ∧ ((a + p * (b + q * m)).tdiv p).tmod q = b ∧ ((a + p * (b + q * m)).tdiv p).tdiv q = m ∧ a + p * (b + q * m) + 1 ≤ p * q * (m + 1) := by
 have hp3 : p = 1 ∨ p = 2 ∨ p = 3 := by omega
 have hq3 : q = 1 ∨ q = 2 ∨ q = 3 := by omega
 rcases hp3 with rfl | rfl | rfl <;> rcases hq3 with rfl | rfl | rfl <;>
  (refine ⟨by omega, ?_, ?_, ?_, by omega⟩ <;>
   (first
    | (rw [Int.tmod_eq_emod_of_nonneg (by omega)]; omega)
    | (rw [Int.tdiv_eq_ediv_of_nonneg (by omega), Int.tmod_eq_emod_of_nonneg (by omega)]; omega)
    | (rw [Int.tdiv_eq_ediv_of_nonneg (a := _ + _) (by omega), Int.tdiv_eq_ediv_of_nonneg (by omega)]; omega)))
theorem nth_onto {c : Cmp} {u : Tru} (hf : faultM c = 0) (hd : datedB c u = true) : ∀ j, j ≤ c.trades.length → ∀ m, 0 ≤ m → ∃ n, 0 ≤ n ∧ n < manyK c j * (m + 1) ∧ nthN c n j = m ∧ nthK c n j = ⟨u.sold.take j, u.deliv.take j⟩
 | 0, _, m, hm => ⟨m, hm, by rw [manyK]; omega, rfl, rfl⟩
 | j + 1, hj, m, hm => by
  have hlt : j < c.trades.length := by omega
  obtain ⟨l1, l2⟩ := dated_len hd
  have h := trade_wide hf hlt
  have hk := (of_decide_eq_true hd).2.2 j hlt
  simp only [datK, Rng.has, inR, Bool.and_eq_true, decide_eq_true_eq] at hk
  have hr := radix (p := wS (lat c.trades (j : Nat))) (q := wD (lat c.trades (j : Nat))) (a := lat u.sold (j : Nat) - (lat c.trades (j : Nat)).sold.lo) (b := lat u.deliv (j : Nat) - (lat c.trades (j : Nat)).deliv.lo) (m := m)
   ⟨h.2.2.2.2.1, h.2.2.2.2.2.1⟩ ⟨h.2.2.2.2.2.2.1, h.2.2.2.2.2.2.2⟩ ⟨by omega, by unfold wS; omega⟩ ⟨by omega, by unfold wD; omega⟩ hm
  obtain ⟨r1, r2, r3, r4, r5⟩ := hr
  obtain ⟨n, h0, h1, h2, h3⟩ := nth_onto hf hd j (by omega) _ r1
  have hm1 := manyK_in hf j (by omega)
  refine ⟨n, h0, ?_, ?_, ?_⟩
  ·rw [manyK, Int.mul_assoc]
   exact Int.lt_of_lt_of_le h1 (Int.mul_le_mul_of_nonneg_left r5 (by omega))
  ·rw [nthN_step, h2, r4]
  ·rw [nthK, h2, h3, r2, r3]
   have t1 : u.sold.take (j + 1) = u.sold.take j ++ [lat u.sold (j : Nat)] := take_lat (by omega)
   have t2 : u.deliv.take (j + 1) = u.deliv.take j ++ [lat u.deliv (j : Nat)] := take_lat (by omega)
   rw [t1, t2]
   simp only [Tru.snoc]
   congr 2
   ·congr 1; omega
   ·congr 1; omega
theorem trK_mem {c : Cmp} {u : Tru} : ∀ K, u ∈ trK c K ↔ ∃ k : Nat, k < K ∧ u = nth c (k : Nat) ∧ truthB c u = true
 | 0 => by simp [trK]
 | K + 1 => by
  have ih := trK_mem (c := c) (u := u) K
  rw [trK]
  split
  ·rename_i h
   rw [List.mem_append, ih, List.mem_singleton]
   constructor
   ·rintro (⟨k, hk, h1, h2⟩ | h1)
    ·exact ⟨k, by omega, h1, h2⟩
    ·exact ⟨K, by omega, h1, by rw [h1]; exact h⟩
   ·rintro ⟨k, hk, h1, h2⟩
    rcases Nat.lt_or_ge k K with g | g
    ·exact .inl ⟨k, g, h1, h2⟩
    ·have : k = K := by omega
     exact .inr (by rw [h1, this])
  ·rename_i h
   rw [ih]
   constructor
   ·rintro ⟨k, hk, h1, h2⟩; exact ⟨k, by omega, h1, h2⟩
   ·rintro ⟨k, hk, h1, h2⟩
    rcases Nat.lt_or_ge k K with g | g
    ·exact ⟨k, g, h1, h2⟩
    ·have e : k = K := by omega
     rw [h1, e] at h2
     exact (h h2).elim
theorem truthsR_mem {c : Cmp} (hf : faultM c = 0) {u : Tru} : u ∈ truthsR c ↔ truthB c u = true := by
 rw [truthsR, trK_mem]
 constructor
 ·rintro ⟨k, _, _, h⟩; exact h
 ·intro h
  have hd : datedB c u = true := by simp only [truthB, Bool.and_eq_true] at h; exact h.1
  obtain ⟨l1, l2⟩ := dated_len hd
  obtain ⟨n, h0, h1, h2, h3⟩ := nth_onto hf hd c.trades.length (Nat.le_refl _) 0 (Int.le_refl _)
  have hmn : n < many c := by unfold many; omega
  refine ⟨n.toNat, by omega, ?_, h⟩
  have e : ((n.toNat : Nat) : Int) = n := by omega
  rw [e, nth, h3, List.take_of_length_le (by omega), List.take_of_length_le (by omega)]
end
end Go.Proofs.Ytdnefcjbcieecaa
namespace Go.Proofs.Ytdnefcjbcieecaa
open Go Go.Proofs
noncomputable section
def Span (M : Tru → List Int) (l : List Tru) (k : Nat) (r : Rng) : Prop := (∃ t ∈ l, lat (M t) (k : Nat) = r.lo) ∧ (∃ t ∈ l, lat (M t) (k : Nat) = r.hi) ∧ ∀ t ∈ l, r.lo ≤ lat (M t) (k : Nat) ∧ lat (M t) (k : Nat) ≤ r.hi
theorem Span.uniq {M : Tru → List Int} {l l' : List Tru} (hm : ∀ t, t ∈ l ↔ t ∈ l') {k : Nat} {r r' : Rng} (h : Span M l k r) (h' : Span M l' k r') : r = r' := by
 obtain ⟨⟨t1, m1, e1⟩, ⟨t2, m2, e2⟩, h3⟩ := h
 obtain ⟨⟨s1, n1, f1⟩, ⟨s2, n2, f2⟩, g3⟩ := h'
 have a1 := g3 t1 ((hm _).1 m1)
 have a2 := g3 t2 ((hm _).1 m2)
 have b1 := h3 s1 ((hm _).2 n1)
 have b2 := h3 s2 ((hm _).2 n2)
 cases r; cases r'
 simp only at *
 congr 1 <;> omega
theorem Span.one (M : Tru → List Int) (t : Tru) (k : Nat) : Span M [t] k ⟨lat (M t) (k : Nat), lat (M t) (k : Nat)⟩ :=
 ⟨⟨t, by simp, rfl⟩, ⟨t, by simp, rfl⟩, fun u hu => by simp only [List.mem_singleton] at hu; subst hu; exact ⟨Int.le_refl _, Int.le_refl _⟩⟩
theorem Span.snoc {M : Tru → List Int} {l : List Tru} {k : Nat} {r : Rng} (h : Span M l k r) (t : Tru) : Span M (l ++ [t]) k ⟨min2 r.lo (lat (M t) (k : Nat)), max2 r.hi (lat (M t) (k : Nat))⟩ := by
 obtain ⟨⟨t1, m1, e1⟩, ⟨t2, m2, e2⟩, h3⟩ := h
 have hmin : ∀ a b : Int, (min2 a b = a ∨ min2 a b = b) ∧ min2 a b ≤ a ∧ min2 a b ≤ b := fun a b => by unfold min2; split <;> omega
 have hmax : ∀ a b : Int, (max2 a b = a ∨ max2 a b = b) ∧ a ≤ max2 a b ∧ b ≤ max2 a b := fun a b => by unfold max2; split <;> omega
 have p1 := hmin r.lo (lat (M t) (k : Nat))
 have p2 := hmax r.hi (lat (M t) (k : Nat))
 refine ⟨?_, ?_, fun u hu => ?_⟩
 ·rcases p1.1 with e | e
  ·exact ⟨t1, by simp [m1], by rw [e1]; exact e.symm⟩
  ·exact ⟨t, by simp, e.symm⟩
 ·rcases p2.1 with e | e
  ·exact ⟨t2, by simp [m2], by rw [e2]; exact e.symm⟩
  ·exact ⟨t, by simp, e.symm⟩
 ·simp only [List.mem_append, List.mem_singleton] at hu
  rcases hu with hu | rfl
  ·have := h3 u hu
   simp only; omega
  ·simp only; omega
theorem lat_set {l : List Rng} {k : Nat} {x : Rng} (h : k < l.length) (j : Nat) : lat (l.set k x) (j : Nat) = if j = k then x else lat l (j : Nat) := by
 unfold lat
 simp only [Int.toNat_natCast, List.getD_eq_getElem?_getD, List.getElem?_set]
 by_cases e : k = j
 ·subst e; simp [h]
 ·rw [if_neg e, if_neg (fun h => e h.symm)]
theorem lat_snocR {l : List Rng} {x : Rng} (j : Nat) (h : j < l.length) : lat (l ++ [x]) (j : Nat) = lat l (j : Nat) := by
 simp [lat, List.getD, h, List.getElem?_append_left]
theorem lat_lastR {l : List Rng} {x : Rng} {j : Nat} (h : j = l.length) : lat (l ++ [x]) (j : Nat) = x := by
 subst h; simp [lat, List.getD]
theorem rK_true {rl : List Rng} {l : List Int} (hl : rl.length = l.length) : ∀ j, j ≤ l.length → ∀ k : Nat, lat (rK true rl l j) (k : Nat) = if k < j then ⟨min2 (lat rl (k : Nat)).lo (lat l (k : Nat)), max2 (lat rl (k : Nat)).hi (lat l (k : Nat))⟩ else lat rl (k : Nat)
 | 0, _, k => by simp [rK]
 | j + 1, hj, k => by
  have ih := rK_true hl j (by omega)
  have hlen : (rK true rl l j).length = l.length := by rw [rK_len, if_pos rfl, hl]
  simp only [rK, if_true]
  rw [lat_set (by omega)]
  have ihj := ih j
  rw [if_neg (by omega)] at ihj
  rw [ihj]
  by_cases e : k = j
  ·subst e; rw [if_pos rfl, if_pos (by omega)]; rfl
  ·rw [if_neg e, ih k]
   by_cases g : k < j
   ·rw [if_pos g, if_pos (by omega)]
   ·rw [if_neg g, if_neg (by omega)]
theorem rK_false {l : List Int} : ∀ j, j ≤ l.length → ∀ k : Nat, k < j → lat (rK false [] l j) (k : Nat) = ⟨lat l (k : Nat), lat l (k : Nat)⟩
 | 0, _, k, hk => by omega
 | j + 1, hj, k, hk => by
  have ih := rK_false (l := l) j (by omega)
  have hlen : (rK false [] l j).length = j := by rw [rK_len]; rfl
  simp only [rK, Bool.false_eq_true, if_false]
  rw [lat_set (by simp; omega), lat_lastR hlen.symm]
  have hmm : ∀ a : Int, leastL [a, a] = a ∧ max2 a a = a := fun a => by
   refine ⟨?_, by unfold max2; split <;> rfl⟩
   show min2 a a = a
   unfold min2; split <;> rfl
  by_cases e : k = j
  ·subst e; rw [if_pos rfl]; simp only [hmm]
  ·rw [if_neg e, lat_snocR k (by omega), ih k (by omega)]
theorem bndL_span {M : Tru → List Int} {N : Nat} : ∀ (l pre : List Tru) (rl : List Rng), (∀ t ∈ l, (M t).length = N) → rl.length = N → (∀ k, k < N → Span M pre k (lat rl (k : Nat))) →
  (bndL M l (true, rl)).2.length = N ∧ ∀ k, k < N → Span M (pre ++ l) k (lat (bndL M l (true, rl)).2 (k : Nat))
 | [], pre, rl, _, h1, h2 => by simpa [bndL] using And.intro h1 h2
 | t :: l, pre, rl, hM, h1, h2 => by
  have ht := hM t (by simp)
  have hlen : (rK true rl (M t) (M t).length).length = N := by rw [rK_len, if_pos rfl, h1]
  have ih := bndL_span l (pre ++ [t]) (rK true rl (M t) (M t).length) (fun u hu => hM u (by simp [hu])) hlen (fun k hk => by
   rw [rK_true (by rw [h1, ht]) (M t).length (Nat.le_refl _) k, if_pos (by omega)]
   exact (h2 k hk).snoc t)
  rw [bndL]
  simpa using ih
theorem bndM_span {M : Cmp → Tru → Dvd → List Int} {c : Cmp} {d : Dvd} {N : Nat} (hM : ∀ t ∈ truthsP c, (M c t d).length = N) (hne : (truthsP c).isEmpty = false) :
  (bndM M c d).length = N ∧ ∀ k, k < N → Span (fun t => M c t d) (truthsP c) k (lat (bndM M c d) (k : Nat)) := by
 unfold bndM
 generalize truthsP c = l at *
 cases l with
 | nil => simp at hne
 | cons t l =>
  have ht := hM t (by simp)
  have hlen : (rK false [] (M c t d) (M c t d).length).length = N := by rw [rK_len]; exact ht
  have := bndL_span (M := fun t => M c t d) (N := N) l [t] (rK false [] (M c t d) (M c t d).length) (fun u hu => hM u (by simp [hu])) hlen (fun k hk => by
   rw [rK_false (M c t d).length (Nat.le_refl _) k (by omega)]
   exact Span.one (fun t => M c t d) t k)
  rw [bndL]
  exact this
end
end Go.Proofs.Ytdnefcjbcieecaa
namespace Go.Proofs.Ytdnefcjbcieecaa
open Go Go.Proofs
noncomputable section
theorem widK_lat {l : List Rng} {n : List Int} {f : Bool} : ∀ (j k : Nat), k < j → lat (widK l n f j) (k : Nat) = if f = true then ⟨lat n (k : Nat), lat n (k : Nat)⟩ else ⟨min2 (lat l (k : Nat)).lo (lat n (k : Nat)), max2 (lat l (k : Nat)).hi (lat n (k : Nat))⟩
 | 0, k, h => by omega
 | j + 1, k, h => by
  rw [widK]
  have hlen := widK_len l n f j
  by_cases e : k = j
  ·rw [lat_lastR (by omega), e]
  ·rw [lat_snocR k (by omega), widK_lat j k (by omega)]
def widF (M : Tru → List Int) : List Tru → Bool → List Rng → List Rng
 | [], _, x => x
 | t :: l, f, x => widF M l false (widM x (M t) f)
theorem widF_span {M : Tru → List Int} {N : Nat} : ∀ (l pre : List Tru) (rl : List Rng), (∀ t ∈ l, (M t).length = N) → rl.length = N → (∀ k, k < N → Span M pre k (lat rl (k : Nat))) →
  (widF M l false rl).length = N ∧ ∀ k, k < N → Span M (pre ++ l) k (lat (widF M l false rl) (k : Nat))
 | [], pre, rl, _, h1, h2 => by simpa [widF] using And.intro h1 h2
 | t :: l, pre, rl, hM, h1, h2 => by
  have ht := hM t (by simp)
  have ih := widF_span l (pre ++ [t]) (widM rl (M t) false) (fun u hu => hM u (by simp [hu])) (by unfold widM; rw [widK_len, ht]) (fun k hk => by
   unfold widM
   rw [widK_lat _ k (by omega), if_neg (by decide)]
   exact (h2 k hk).snoc t)
  rw [widF]
  simpa using ih
theorem widF_first {M : Tru → List Int} {N : Nat} {l : List Tru} (hM : ∀ t ∈ l, (M t).length = N) (hne : l.isEmpty = false) : (widF M l true []).length = N ∧ ∀ k, k < N → Span M l k (lat (widF M l true []) (k : Nat)) := by
 cases l with
 | nil => simp at hne
 | cons t l =>
  have ht := hM t (by simp)
  have := widF_span (M := M) (N := N) l [t] (widM [] (M t) true) (fun u hu => hM u (by simp [hu])) (by unfold widM; rw [widK_len, ht]) (fun k hk => by
   unfold widM
   rw [widK_lat _ k (by omega), if_pos rfl]
   exact Span.one M t k)
  rw [widF]
  exact this
theorem bnd_law {M : Cmp → Tru → Dvd → List Int} {c : Cmp} {d : Dvd} {N : Nat} (hf : faultM c = 0) (hM : ∀ t, (M c t d).length = N) (hne : (truthsP c).isEmpty = false) : bndM M c d = widF (fun t => M c t d) (truthsR c) true [] := by
 have hm : ∀ t, t ∈ truthsP c ↔ t ∈ truthsR c := fun t => by rw [truthsP_mem, truthsR_mem hf]
 have hne2 : (truthsR c).isEmpty = false := by
  cases hp : truthsP c with
  | nil => rw [hp] at hne; simp at hne
  | cons t l =>
   have := (hm t).1 (by rw [hp]; simp)
   cases hr : truthsR c with
   | nil => rw [hr] at this; simp at this
   | cons u l => rfl
 have h1 := bndM_span (M := M) (c := c) (d := d) (N := N) (fun t _ => hM t) hne
 have h2 := widF_first (M := fun t => M c t d) (N := N) (l := truthsR c) (fun t _ => hM t) hne2
 apply List.ext_getElem (by rw [h1.1, h2.1])
 intro k g1 g2
 have := (h1.2 k (by omega)).uniq hm (h2.2 k (by omega))
 simpa [lat, List.getD, g1, g2] using this
end
end Go.Proofs.Ytdnefcjbcieecaa
namespace Go.Proofs.Ytdnefcjbcieecaa
open Go Go.Proofs
noncomputable section
theorem q32 : FunIs Try.prog 32 G32 c32 r32 := ⟨Try.f32, Try.func32, k32, e32, by kernel_rfl, by kernel_rfl⟩
def tab32 : Spec := (spAdd 70 ent70 (spAdd 69 ent69 (spAdd 17 ent17 spNil)))
theorem tab32_ok : SpOk Try.prog tab32 := (spAdd_ok ent70_ok (spAdd_ok ent69_ok (spAdd_ok ent17_ok (spNil_ok _))))
def X32 : Sx := mkX tab32
theorem X32_ok : SpOk Try.prog X32.sp := tab32_ok
theorem w32 (c : Cmp) (n : Int) : sx X32 c32 [] (doneP r32) (envOf [Cv c, vi n]) [] [] =
  Tr.need (Cv (dCe c) = Cv c ∧ Uv (dU 0 [] 0 []) = V.agg [V.d (D.sl false 0 []), V.d (D.sl false 0 [])] ∧ True) (Tr.br (thin (dCe c) (dU 0 [] 0 [])) (Tr.need (Cv (dCe c) = Cv c ∧ True) (Tr.br (faultM (dCe c) != (0 : Int)) (Tr.done (V.d (D.bool true)) []) (Tr.need (Cv (dCe c) = Cv c ∧ faultM (dCe c) = (0 : Int)) (Tr.done (V.d (D.bool (decide (many (dCe c) ≤ n)))) [])))) (Tr.done (V.d (D.bool false)) [])) := by kernel_rfl
def fewB (c : Cmp) (n : Int) : Bool := thin c ⟨[], []⟩ && (decide (faultM c ≠ 0) || decide (many c ≤ n))
theorem y32 (c : Cmp) (n : Int) : Yields Try.prog 32 [Cv c, vi n] (vb (fewB c n)) := by
 refine q32.yieldsP X32_ok rfl rfl rfl (w32 c n) ?_
 have hU : dU 0 [] 0 [] = ⟨[], []⟩ := rfl
 simp only [holds, dCe, dC_enc, hU, true_and, and_true]
 refine ⟨rfl, fun h1 => ⟨fun h2 => ?_, fun h2 => ⟨by simpa using h2, ?_⟩⟩, fun h1 => ?_⟩
 ·have h2 : faultM c ≠ 0 := by simpa using h2
  exact .of_eq (congrArg vb (by simp [fewB, h1, h2]))
 ·have h2 : faultM c = 0 := by simpa using h2
  exact .of_eq (congrArg vb (by simp [fewB, h1, h2]))
 ·exact .of_eq (congrArg vb (by simp [fewB, h1]))
theorem truths_empty {c : Cmp} (hf : faultM c = 0) : (truthsR c).isEmpty = (truthsP c).isEmpty := by
 have hm : ∀ t, t ∈ truthsP c ↔ t ∈ truthsR c := fun t => by rw [truthsP_mem, truthsR_mem hf]
 cases hp : truthsP c with
 | nil => cases hr : truthsR c with
  | nil => rfl
  | cons u l =>
   have := (hm u).2 (by rw [hr]; simp)
   rw [hp] at this; simp at this
 | cons t l => cases hr : truthsR c with
  | nil =>
   have := (hm t).1 (by rw [hp]; simp)
   rw [hr] at this; simp at this
  | cons u l => rfl
end
end Go.Proofs.Ytdnefcjbcieecaa
namespace Go.Proofs.Ytdnefcjbcieecaa
open Go Go.Proofs
noncomputable section
theorem q5 : FunIs Try.prog 5 G5 c5 r5 := ⟨Try.f5, Try.func5, k5, e5, by kernel_rfl, by kernel_rfl⟩
def ent32 := entCI (fun _ _ => True) (fun c n => vb (fewB c n))
theorem ent32_ok : EntOk Try.prog 32 ent32 := entCI_ok fun c n _ => y32 c n
def ent33 := entCI (fun _ _ => True) (fun c n => .tup [vsl eR (bdL paidM c n), vsl eR (bdL claimsM c n), vsl eR (bdL rightsM c n), vi (bdE c n)])
theorem ent33_ok : EntOk Try.prog 33 ent33 := entCI_ok fun c n _ => y33 c n
def ent35 := entC (fun c => faultM c = 0) (fun c => vsl eU (truthsR c))
theorem ent35_ok : EntOk Try.prog 35 ent35 := entC_ok fun c h => y35 c h
theorem vslR {n : Nat} {cs : List D} (h : enc eR (dec 2 gR n cs) = cs) : V.d (.sl false n cs) = vsl eR (dec 2 gR n cs) := by unfold vsl dsl; rw [h, dec_len]
theorem vslI {n : Nat} {cs : List D} (h : enc eI (dec 1 gI n cs) = cs) : V.d (.sl false n cs) = vsl eI (dec 1 gI n cs) := by unfold vsl dsl; rw [h, dec_len]
def ent37 : Ent := fun args _ => match args with
 | [.d (.sl false n cs), .d (.sl false m ds)] => some (enc eR (dec 2 gR n cs) = cs ∧ enc eR (dec 2 gR m ds) = ds ∧ n ≤ 1000000, vb (decide (dec 2 gR n cs = dec 2 gR m ds)), none)
 | _ => none
theorem ent37_ok : EntOk Try.prog 37 ent37 := by
 intro args h p v h' he hp
 unfold ent37 at he
 split at he
 ·cases he
  rw [vslR hp.1, vslR hp.2.1]
  exact y37 _ _ (by rw [dec_len]; exact hp.2.2) h
 ·cases he
def ent36 : Ent := fun args _ => match args with
 | [.d (.sl false n cs), .d (.sl false m ds), .d (.bool f)] => some (enc eR (dec 2 gR n cs) = cs ∧ enc eI (dec 1 gI m ds) = ds ∧ m ≤ 1000000 ∧ (f = false → m ≤ n), vsl eR (widM (dec 2 gR n cs) (dec 1 gI m ds) f), none)
 | _ => none
theorem ent36_ok : EntOk Try.prog 36 ent36 := by
 intro args h p v h' he hp
 unfold ent36 at he
 split at he
 ·cases he
  rw [vslR hp.1, vslI hp.2.1]
  exact y36 _ _ _ (by rw [dec_len]; exact hp.2.2.1) (by rw [dec_len, dec_len]; exact hp.2.2.2) h
 ·cases he
end
end Go.Proofs.Ytdnefcjbcieecaa
namespace Go.Proofs.Ytdnefcjbcieecaa
open Go Go.Proofs
noncomputable section
def tab5b : Spec := (spAdd 37 ent37 (spAdd 36 ent36 (spAdd 35 ent35 (spAdd 34 ent34 (spAdd 33 ent33 (spAdd 32 ent32 (spAdd 31 ent31 (spAdd 30 ent30 (spAdd 29 ent29 (spAdd 23 ent23 (spAdd 20 ent20 (spAdd 18 ent18 spNil))))))))))))
theorem tab5b_ok : SpOk Try.prog tab5b := (spAdd_ok ent37_ok (spAdd_ok ent36_ok (spAdd_ok ent35_ok (spAdd_ok ent34_ok (spAdd_ok ent33_ok (spAdd_ok ent32_ok (spAdd_ok ent31_ok (spAdd_ok ent30_ok (spAdd_ok ent29_ok (spAdd_ok ent23_ok (spAdd_ok ent20_ok (spAdd_ok ent18_ok (spNil_ok _)))))))))))))
def X5c : Sx := mkX tab5b
theorem X5c_ok : SpOk Try.prog X5c.sp := tab5b_ok
theorem w5 (c : Cmp) (n : Int) : sx X5c c5 [] (doneP r5) (envOf [Cv c, vi n]) [] [] =
  let x1_ := (Cv (dCe c) = Cv c ∧ True)
  let x2_ := (faultM (dCe c) == (0 : Int))
  let x3_ := (List.length (Cmp.divs c))
  let x4_ := (Cv (dCe c) = Cv c ∧ faultM (dCe c) = (0 : Int))
  let x5_ := (List.length (truthsR (dCe c)))
  let x6_ := (Int.ofNat x5_ == (0 : Int))
  let x7_ := (bdL paidM (dCe (dCe c)) n)
  let x8_ := (bdL claimsM (dCe (dCe c)) n)
  let x9_ := (bdL rightsM (dCe (dCe c)) n)
  let y10_ := (enc eV (Cmp.divs c))
  let x10_ := ((0 : Int) ≤ n ∧ n < Int.ofNat x3_ ∧ okEl [0, 0, 0] y10_ 3 n)
  let x11_ := (CCode.at c5 [1, 1, 1, 1, 1, 1, 1, 1, 1, 1, 0, 1, 0, 0])
  let x12_ := [some (Blk.box [V.d (D.int .i64 (cI y10_ 3 n 0)), V.d (D.int .i64 (cI y10_ 3 n 1)), V.d (D.int .i64 (cI y10_ 3 n 2))])]
  let x13_ := ((2 : Int) != (0 : Int))
  let x14_ := (faultM (dCe c) != (0 : Int))
  let y4_ := (Tr.done (V.d (D.bool false)) [])
  let y6_ := (List.length x7_)
  let y7_ := (List.length x8_)
  let y9_ := (List.length x9_)
  let y13_ := (Tr.need True (Tr.done (V.d (D.bool true)) []))
  let y0_ := (Tr.need (-9223372036854775808 ≤ Int.ofNat y6_ + Int.ofNat y7_ ∧ Int.ofNat y6_ + Int.ofNat y7_ ≤ 9223372036854775807) (Tr.need (-9223372036854775808 ≤ Int.ofNat y6_ + Int.ofNat y7_ + Int.ofNat y9_ ∧ Int.ofNat y6_ + Int.ofNat y7_ + Int.ofNat y9_ ≤ 9223372036854775807) (Tr.br (Int.ofNat y6_ + Int.ofNat y7_ + Int.ofNat y9_ == (0 : Int)) y13_ y4_)))
  let y8_ := [Fr.blk 0, Fr.seq (CCode.at c5 [1, 1, 1, 1, 1, 1, 1, 1, 1, 1, 1])]
  let y14_ := (8, V.d (D.int .i64 (bdE (dCe (dCe c)) n)))
  let y15_ := (5, V.d (D.sl false y6_ (enc eR x7_)))
  let y16_ := (6, V.d (D.sl false y7_ (enc eR x8_)))
  let y17_ := (7, V.d (D.sl false y9_ (enc eR x9_)))
  let y1_ := (Tr.need x10_ (Tr.lp x11_ y8_ [(2, V.rptr (Cds c) 0), y15_, y16_, y17_, y14_, (10, V.d (D.sl false x5_ (enc eU (truthsR (dCe c))))), (11, V.ptr 0 0 0), (12, V.d D.nils), (13, V.d D.nils), (14, V.d D.nils), (15, V.d (D.int .i64 0))] x12_))
  let y2_ := (Tr.need x10_ (Tr.lp x11_ y8_ [(2, V.rptr (Cds c) 0), y15_, y16_, y17_, y14_, (10, V.d D.nils), (11, V.ptr 0 0 0), (12, V.d D.nils), (13, V.d D.nils), (14, V.d D.nils), (15, V.d (D.int .i64 0))] x12_))
  let y5_ := (Tr.br ((9 : Int) != (0 : Int)) (Tr.br (bdE (dCe (dCe c)) n == (9 : Int)) y0_ y4_) y1_)
  let y11_ := (Tr.br (bdE (dCe (dCe c)) n == faultM (dCe c)) y0_ y4_)
  let y3_ := (Tr.br x2_ (Tr.need x4_ (Tr.br x6_ y5_ (Tr.br x14_ y11_ y1_))) (Tr.br x14_ y11_ y2_))
  let y12_ := (Tr.br (bdE (dCe (dCe c)) n == (2 : Int)) y0_ y4_)
  Tr.need x1_ (Tr.br (!fewB (dCe c) (150 : Int)) y13_ (Tr.need (Cv (dCe c) = Cv c ∧ small (dCe c)) (Tr.need (Cv (dCe (dCe c)) = Cv (dCe c) ∧ True) (Tr.need x1_ (Tr.br x2_ (Tr.need (-9223372036854775808 ≤ Int.ofNat x3_ - (1 : Int) ∧ Int.ofNat x3_ - (1 : Int) ≤ 9223372036854775807) (Tr.need True (Tr.br (!inR n (0 : Int) (Int.ofNat x3_ - (1 : Int))) (Tr.br ((2 : Int) == (0 : Int)) (Tr.need x4_ (Tr.br x6_ y5_ (Tr.br x13_ y12_ y1_))) (Tr.br x13_ y12_ y2_)) y3_))) y3_))))) := by kernel_rfl
end
end Go.Proofs.Ytdnefcjbcieecaa
namespace Go.Proofs.Ytdnefcjbcieecaa
open Go Go.Proofs
noncomputable section
theorem StLe.env {n sz : Nat} {env env' : Env} {h : Heap} (hv : ∀ k, VLe (env.get k) (env'.get k)) : StLe n sz env h env' h := fun M w a hs hn hE => ⟨M, .refl hs hn, hE.1, hE.2.1, fun k => hv k _ _ (hE.2.2 k)⟩
instance : Inhabited Tru := ⟨⟨[], []⟩⟩
theorem enc_U (l : List Tru) (i : Int) (j : Nat) (hj : j < 2) : (enc eU l)[i.toNat * 2 + j]? = (l[i.toNat]?).bind fun x => (eU x)[j]? := enc_get (sz := 2) (f := eU) (fun _ => rfl) l _ j hj
theorem lat_none {α : Type} [Inhabited α] {l : List α} {i : Int} (h : l[i.toNat]? = none) : lat l i = default := by simp [lat, List.getD_eq_getElem?_getD, h]
theorem lat_some {α : Type} [Inhabited α] {l : List α} {i : Int} {x : α} (h : l[i.toNat]? = some x) : lat l i = x := by simp [lat, List.getD_eq_getElem?_getD, h]
@[simp] theorem cL_U0 (l : List Tru) (i : Int) : cL (enc eU l) 2 i 0 = (lat l i).sold.length := by
 unfold cL
 rw [enc_U l i 0 (by decide)]
 cases h : l[i.toNat]? with
 | none => rw [lat_none h]; rfl
 | some x => rw [lat_some h]; rfl
@[simp] theorem cL_U1 (l : List Tru) (i : Int) : cL (enc eU l) 2 i 1 = (lat l i).deliv.length := by
 unfold cL
 rw [enc_U l i 1 (by decide)]
 cases h : l[i.toNat]? with
 | none => rw [lat_none h]; rfl
 | some x => rw [lat_some h]; rfl
@[simp] theorem cC_U0 (l : List Tru) (i : Int) : cC (enc eU l) 2 i 0 = enc eI (lat l i).sold := by
 unfold cC
 rw [enc_U l i 0 (by decide)]
 cases h : l[i.toNat]? with
 | none => rw [lat_none h]; rfl
 | some x => rw [lat_some h]; rfl
@[simp] theorem cC_U1 (l : List Tru) (i : Int) : cC (enc eU l) 2 i 1 = enc eI (lat l i).deliv := by
 unfold cC
 rw [enc_U l i 1 (by decide)]
 cases h : l[i.toNat]? with
 | none => rw [lat_none h]; rfl
 | some x => rw [lat_some h]; rfl
theorem ok_U {l : List Tru} {i : Int} (h : i.toNat < l.length) : okEl [1, 1] (enc eU l) 2 i := okEl_enc (sz := 2) (f := eU) (fun _ => rfl) (by simp [elDs, elD, eU]) h
def tab5d : Spec := (spAdd 36 ent36 (spAdd 31 ent31 (spAdd 30 ent30 (spAdd 29 ent29 spNil))))
theorem tab5d_ok : SpOk Try.prog tab5d := (spAdd_ok ent36_ok (spAdd_ok ent31_ok (spAdd_ok ent30_ok (spAdd_ok ent29_ok (spNil_ok _)))))
def X5d : Sx := { sp := tab5d, md := fun _ => 0, sh := fun n => bif Nat.beq n 2 then [1, 1] else List.replicate n 0 }
theorem X5d_ok : SpOk Try.prog X5d.sp := tab5d_ok
def D5 (d : Dvd) : Heap := [some (.box [vi d.ex, vi d.record, vi d.pence])]
def E5 (c : Cmp) (l : List Tru) (p q r : V) (e : Int) (x y z : List Rng) (k : Nat) : Env := [(2, .rptr (Cds c) 0), (5, p), (6, q), (7, r), (8, vi e), (10, .d (.sl false l.length (enc eU l))), (11, .ptr 0 0 0),
 (12, .d (.sl false x.length (enc eR x))), (13, .d (.sl false y.length (enc eR y))), (14, .d (.sl false z.length (enc eR z))), (15, vi k)]
theorem b5 (c : Cmp) (l : List Tru) (d : Dvd) (p q r : V) (e : Int) (x y z : List Rng) (k : Nat) : sx X5d (CCode.at c5 [1,1,1,1,1,1,1,1,1,1,0,1,0,0]) [] leafK (E5 c l p q r e x y z k) [] (D5 d) =
  let x1_ := (decide (Int.ofNat k < Int.ofNat (List.length l)))
  let x2_ := ((0 : Int) ≤ Int.ofNat k ∧ Int.ofNat k < Int.ofNat (List.length l) ∧ okEl [1, 1] (enc eU l) 2 (Int.ofNat k))
  let x3_ := (cL (enc eU l) 2 (Int.ofNat k) 0)
  let x4_ := (cC (enc eU l) 2 (Int.ofNat k) 0)
  let x5_ := (cL (enc eU l) 2 (Int.ofNat k) 1)
  let x6_ := (cC (enc eU l) 2 (Int.ofNat k) 1)
  let x7_ := [V.d (D.int .i64 (Dvd.ex d)), V.d (D.int .i64 (Dvd.record d)), V.d (D.int .i64 (Dvd.pence d))]
  let y0_ := ({ ex := Dvd.ex d, record := Dvd.record d, pence := Dvd.pence d } : Dvd)
  let y1_ := (dU x3_ x4_ x5_ x6_)
  let x8_ := (Cv (dCe c) = Cv c ∧ Uv y1_ = V.agg [V.d (D.sl false x3_ x4_), V.d (D.sl false x5_ x6_)] ∧ Dv y0_ = V.agg x7_ ∧ okCUV (dCe c) y1_ y0_)
  let x9_ := (dec 2 gR (List.length x) (enc eR x))
  let x10_ := (paidM (dCe c) y1_ y0_)
  let x11_ := (dec 1 gI (List.length x10_) (enc eI x10_))
  let x12_ := (Int.ofNat k == (0 : Int))
  let x13_ := (dec 2 gR (List.length y) (enc eR y))
  let x14_ := (claimsM (dCe c) y1_ y0_)
  let x15_ := (dec 1 gI (List.length x14_) (enc eI x14_))
  let x16_ := (dec 2 gR (List.length z) (enc eR z))
  let x17_ := (rightsM (dCe c) y1_ y0_)
  let x18_ := (dec 1 gI (List.length x17_) (enc eI x17_))
  let y2_ := (10, V.d (D.sl false (List.length l) (enc eU l)))
  Tr.br x1_ (Tr.need x2_ (Tr.need x2_ (Tr.need x2_ (Tr.need x8_ (Tr.need (enc eR x9_ = enc eR x ∧ enc eI x11_ = enc eI x10_ ∧ List.length x10_ ≤ 1000000 ∧ (x12_ = false → List.length x10_ ≤ List.length x)) (Tr.need x8_ (Tr.need (enc eR x13_ = enc eR y ∧ enc eI x15_ = enc eI x14_ ∧ List.length x14_ ≤ 1000000 ∧ (x12_ = false → List.length x14_ ≤ List.length y)) (Tr.need x8_ (Tr.need (enc eR x16_ = enc eR z ∧ enc eI x18_ = enc eI x17_ ∧ List.length x17_ ≤ 1000000 ∧ (x12_ = false → List.length x17_ ≤ List.length z)) (Tr.need (-9223372036854775808 ≤ Int.ofNat k + (1 : Int) ∧ Int.ofNat k + (1 : Int) ≤ 9223372036854775807) (Tr.leaf CExit.normal [(2, V.rptr (Cds c) 0), (5, p), (6, q), (7, r), (8, V.d (D.int .i64 e)), y2_, (11, V.ptr 0 0 0), (12, V.d (D.sl false (List.length (widM x9_ x11_ x12_)) (enc eR (widM x9_ x11_ x12_)))), (13, V.d (D.sl false (List.length (widM x13_ x15_ x12_)) (enc eR (widM x13_ x15_ x12_)))), (14, V.d (D.sl false (List.length (widM x16_ x18_ x12_)) (enc eR (widM x16_ x18_ x12_)))), (15, V.d (D.int .i64 (Int.ofNat k + (1 : Int))))] [some (Blk.box x7_)]))))))))))) (Tr.leaf (CExit.exit 0) [(2, V.rptr (Cds c) 0), (5, p), (6, q), (7, r), (8, V.d (D.int .i64 e)), y2_, (11, V.ptr 0 0 0), (12, V.d (D.sl false (List.length x) (enc eR x))), (13, V.d (D.sl false (List.length y) (enc eR y))), (14, V.d (D.sl false (List.length z) (enc eR z))), (15, V.d (D.int .i64 (Int.ofNat k))), (76, V.d (D.bool x1_))] [some (Blk.box x7_)]) := by kernel_rfl
def tab5e : Spec := (spAdd 18 ent18 (spAdd 37 ent37 spNil))
theorem tab5e_ok : SpOk Try.prog tab5e := (spAdd_ok ent18_ok (spAdd_ok ent37_ok (spNil_ok _)))
def X5e : Sx := mkX tab5e
theorem X5e_ok : SpOk Try.prog X5e.sp := tab5e_ok
theorem x5 (u0 u1 u2 u3 : V) (p q r : List Rng) (e : Int) (x y z : List Rng) (b : Bool) (h : Heap) : sS X5e (doneP r5) [Fr.blk 0, Fr.seq (CCode.at c5 [1,1,1,1,1,1,1,1,1,1,1])] (.exit 0) [(2, u0), (5, vsl eR p), (6, vsl eR q), (7, vsl eR r), (8, vi e), (10, u1), (11, u2), (12, vsl eR x), (13, vsl eR y), (14, vsl eR z), (15, u3), (76, vb b)] [] h =
  let y0_ := (Tr.done (V.d (D.bool false)) [])
  Tr.br (e == (0 : Int)) (Tr.need (enc eR (dec 2 gR (List.length p) (enc eR p)) = enc eR p ∧ enc eR (dec 2 gR (List.length x) (enc eR x)) = enc eR x ∧ List.length p ≤ 1000000) (Tr.br (decide (dec 2 gR (List.length p) (enc eR p) = dec 2 gR (List.length x) (enc eR x))) (Tr.need (enc eR (dec 2 gR (List.length q) (enc eR q)) = enc eR q ∧ enc eR (dec 2 gR (List.length y) (enc eR y)) = enc eR y ∧ List.length q ≤ 1000000) (Tr.br (decide (dec 2 gR (List.length q) (enc eR q) = dec 2 gR (List.length y) (enc eR y))) (Tr.need (enc eR (dec 2 gR (List.length r) (enc eR r)) = enc eR r ∧ enc eR (dec 2 gR (List.length z) (enc eR z)) = enc eR z ∧ List.length r ≤ 1000000) (Tr.br (decide (dec 2 gR (List.length r) (enc eR r) = dec 2 gR (List.length z) (enc eR z))) (Tr.need True (Tr.done (V.d (D.bool true)) [])) y0_)) y0_)) y0_)) y0_ := by kernel_rfl
end
end Go.Proofs.Ytdnefcjbcieecaa
namespace Go.Proofs.Ytdnefcjbcieecaa
open Go Go.Proofs
noncomputable section
theorem widF_snoc (M : Tru → List Int) : ∀ (l : List Tru) (t : Tru) (f : Bool) (x : List Rng), widF M (l ++ [t]) f x = widM (widF M l f x) (M t) (f && l.isEmpty)
 | [], t, f, x => by simp [widF]
 | u :: l, t, f, x => by
  show widF M (l ++ [t]) false (widM x (M u) f) = _
  rw [widF_snoc M l t]
  simp [widF]
def wiK (M : Tru → List Int) (l : List Tru) (k : Nat) : List Rng := widF M (l.take k) true []
theorem wiK_succ (M : Tru → List Int) {l : List Tru} {k : Nat} (hk : k < l.length) : wiK M l (k + 1) = widM (wiK M l k) (M (lat l (k : Nat))) ((k : Int) == 0) := by
 have e : lat l (k : Nat) = l[k] := by simp [lat, hk]
 unfold wiK
 rw [List.take_succ_eq_append_getElem hk, widF_snoc, e]
 congr 1
 cases k with
 | zero => simp
 | succ k =>
  cases l with
  | nil => simp at hk
  | cons a l =>
   simp
   omega
theorem wiK_len {M : Tru → List Int} {N : Nat} (hM : ∀ t, (M t).length = N) {l : List Tru} : ∀ k, 0 < k → k ≤ l.length → (wiK M l k).length = N
 | 0, h, _ => by omega
 | k + 1, _, hk => by
  rw [wiK_succ M (by omega)]
  unfold widM
  rw [widK_len, hM]
theorem envLe {j : Nat} {v v' : V} {e e' : Env} (hv : VLe v v') (he : ∀ k, VLe (Env.get e k) (Env.get e' k)) : ∀ k, VLe (Env.get ((j, v) :: e) k) (Env.get ((j, v') :: e') k) := fun k => by
 show VLe (if k = j then v else Env.get e k) (if k = j then v' else Env.get e' k)
 by_cases h : k = j
 ·rw [if_pos h, if_pos h]; exact hv
 ·rw [if_neg h, if_neg h]; exact he k
theorem l5 {c : Cmp} {d : Dvd} (hf : faultM c = 0) (hd : okDv d = true) (hne : (truthsP c).isEmpty = false) :
  lpS Try.prog G5 0 (CCode.at c5 [1,1,1,1,1,1,1,1,1,1,0,1,0,0]) [Fr.blk 0, Fr.seq (CCode.at c5 [1,1,1,1,1,1,1,1,1,1,1])] (retQ r5 fun v _ => VLe v (vb true))
   [(2, .rptr (Cds c) 0), (5, vsl eR (bndM paidM c d)), (6, vsl eR (bndM claimsM c d)), (7, vsl eR (bndM rightsM c d)), (8, vi 0), (10, .d (.sl false (truthsR c).length (enc eU (truthsR c)))), (11, .ptr 0 0 0),
    (12, .d .nils), (13, .d .nils), (14, .d .nils), (15, .d (.int .i64 0))] (D5 d) := by
 have hb := (fault_ok hf).1
 have hb2 := many_in hf
 have hb3 := trK_len c (many c).toNat
 have hR := fun u => truthsR_mem hf (u := u)
 have hlen : (truthsR c).length ≤ 6561 := by unfold truthsR; omega
 have p1 := bnd_law (M := paidM) (d := d) hf (fun t => paidM_len c t d) hne
 have p2 := bnd_law (M := claimsM) (d := d) hf (fun t => claimsM_len c t d) hne
 have p3 := bnd_law (M := rightsM) (d := d) hf (fun t => rightsM_len c t d) hne
 have hnr : 0 < (truthsR c).length := by
  have := truths_empty hf
  rw [hne] at this
  cases h : truthsR c with
  | nil => rw [h] at this; simp at this
  | cons => simp
 generalize truthsR c = l at *
 have f1 : wiK (fun t => paidM c t d) l l.length = bndM paidM c d := by rw [p1, wiK, List.take_length]
 have f2 : wiK (fun t => claimsM c t d) l l.length = bndM claimsM c d := by rw [p2, wiK, List.take_length]
 have f3 : wiK (fun t => rightsM c t d) l l.length = bndM rightsM c d := by rw [p3, wiK, List.take_length]
 have g1 := fun k => wiK_len (M := fun t => paidM c t d) (fun t => paidM_len c t d) (l := l) k
 have g2 := fun k => wiK_len (M := fun t => claimsM c t d) (fun t => claimsM_len c t d) (l := l) k
 have g3 := fun k => wiK_len (M := fun t => rightsM c t d) (fun t => rightsM_len c t d) (l := l) k
 have s1 := fun k => wiK_succ (fun t => paidM c t d) (l := l) (k := k)
 have s2 := fun k => wiK_succ (fun t => claimsM c t d) (l := l) (k := k)
 have s3 := fun k => wiK_succ (fun t => rightsM c t d) (l := l) (k := k)
 refine LoopP.state (env' := E5 c l (vsl eR (bndM paidM c d)) (vsl eR (bndM claimsM c d)) (vsl eR (bndM rightsM c d)) 0 [] [] [] 0) (h' := D5 d) (StLe.env ?_) ?_
 ·exact envLe (.refl _) (envLe (.refl _) (envLe (.refl _) (envLe (.refl _) (envLe (.refl _) (envLe (.refl _) (envLe (.refl _) (envLe .nilsF (envLe .nilsF (envLe .nilsF (envLe (.refl _) fun k => .refl _))))))))))
 refine lp_count X5d_ok l.length (fun _ => True) (fun k => E5 c l (vsl eR (bndM paidM c d)) (vsl eR (bndM claimsM c d)) (vsl eR (bndM rightsM c d)) 0 (wiK (fun t => paidM c t d) l k) (wiK (fun t => claimsM c t d) l k) (wiK (fun t => rightsM c t d) l k) k) (fun _ => D5 d) rfl rfl trivial (fun k _ => ⟨rfl, rfl, rfl⟩) ?_
 intro k hk _ Q' hn he hr
 rw [b5]
 have hU : Uv (lat l (k : Nat)) = V.agg [V.d (D.sl false (lat l (k : Nat)).sold.length (enc eI (lat l (k : Nat)).sold)), V.d (D.sl false (lat l (k : Nat)).deliv.length (enc eI (lat l (k : Nat)).deliv))] := rfl
 have hV : Dv d = V.agg [V.d (D.int .i64 d.ex), V.d (D.int .i64 d.record), V.d (D.int .i64 d.pence)] := rfl
 have he' : (⟨d.ex, d.record, d.pence⟩ : Dvd) = d := rfl
 simp only [holds, Int.ofNat_eq_natCast, dCe, dC_enc, cL_U0, cL_U1, cC_U0, cC_U1, dU_enc, he', ← hU, hV, true_and, and_true, dec_R, dec_I]
 simp only [paidM_len, claimsM_len, rightsM_len]
 refine ⟨fun e1 => ?_, fun e1 => ?_⟩
 ·have hlt : k < l.length := by have := of_decide_eq_true e1; omega
  have hn := fun J => hn J hlt trivial
  have ht : truthB c (lat l (k : Nat)) = true := by
   have e : lat l (k : Nat) = l[k] := by simp [lat, hlt]
   rw [e]
   exact (hR _).1 (List.getElem_mem hlt)
  have hok : okCUV c (lat l (k : Nat)) d := ⟨hf, by unfold truthB at ht; simp at ht; exact ht.1, hd⟩
  have k0 : ((k : Int) == 0) = false → 0 < k := fun h => by simp at h; omega
  rw [E5, s1 k hlt, s2 k hlt, s3 k hlt] at hn
  exact ⟨⟨by omega, by omega, ok_U (by omega)⟩, ⟨by omega, by omega, ok_U (by omega)⟩, ⟨by omega, by omega, ok_U (by omega)⟩, hok, ⟨by omega, fun h => by rw [g1 k (k0 h) hk]; exact Nat.le_refl _⟩,
   hok, ⟨by omega, fun h => by rw [g2 k (k0 h) hk]; exact Nat.le_refl _⟩, hok, ⟨by omega, fun h => by rw [g3 k (k0 h) hk]; exact Nat.le_refl _⟩, ⟨by omega, by omega⟩, hn []⟩
 ·have hge : k = l.length := by have := of_decide_eq_false e1; omega
  subst hge
  refine he _ _ _ (ret_tree (R := fun v1 h1 => VLe v1 (vb true)) X5e_ok (doneP_ok rfl) (x5 _ _ _ _ (bndM paidM c d) (bndM claimsM c d) (bndM rightsM c d) 0 (wiK (fun t => paidM c t d) l l.length) (wiK (fun t => claimsM c t d) l l.length) (wiK (fun t => rightsM c t d) l l.length) _ _) ?_)
  have h1 := g1 l.length hnr hk
  have h2 := g2 l.length hnr hk
  have h3 := g3 l.length hnr hk
  rw [f1] at h1 ⊢
  rw [f2] at h2 ⊢
  rw [f3] at h3 ⊢
  simp only [holds, dec_R, true_and, and_true]
  simp only [h1, h2, h3]
  refine ⟨fun _ => ⟨by omega, fun _ => ⟨by omega, fun _ => ⟨by omega, fun _ => .refl _, fun h => by simp at h⟩, fun h => by simp at h⟩, fun h => by simp at h⟩, fun h => by simp at h⟩
theorem y5 (c : Cmp) (n : Int) : Yields Try.prog 5 [Cv c, vi n] (vb true) := by
 refine q5.yieldsP X5c_ok rfl rfl rfl (w5 c n) ?_
 simp only [holds, Int.ofNat_eq_natCast, cI_V0, cI_V1, cI_V2, dCe, dC_enc, true_and, and_true]
 refine ⟨fun _ => .refl _, fun g => ?_⟩
 have g : thin c ⟨[], []⟩ = true := by
  have : fewB c 150 = true := by simpa using g
  unfold fewB at this
  simp only [Bool.and_eq_true] at this
  exact this.1
 have hl := thin_len g
 have hs := thin_small g
 have hdl : -9223372036854775808 ≤ (c.divs.length : Int) - 1 ∧ (c.divs.length : Int) - 1 ≤ 9223372036854775807 := by omega
 have hT : VLe (V.d (D.bool true)) (vb true) := .refl _
 simp only [hs, hdl, and_self, true_and]
 have n20 : ((2 : Int) == 0) = false := rfl
 have n21 : ((2 : Int) != 0) = true := rfl
 have n90 : ((9 : Int) != 0) = true := rfl
 have fin : ∀ e : Int, bdE c n = e → e ≠ 0 → (bdL paidM c n).length = 0 ∧ (bdL claimsM c n).length = 0 ∧ (bdL rightsM c n).length = 0 := fun e h h0 => by
  simp [bdL, h, h0]
 by_cases h1 : faultM c = 0
 ·have hbs := (fault_ok h1).1
  by_cases h2 : inR n 0 (c.divs.length - 1) = true
  ·have h3 : 0 ≤ n ∧ n < (c.divs.length : Int) := by simp only [inR, decide_eq_true_eq] at h2; omega
   have hdv := divs_ok h1 h3.1 h3.2
   cases h4 : (truthsP c).isEmpty with
   | true =>
    have e : bdE c n = 9 := by simp [bdE, h1, h2, h4]
    have e0 := fin 9 e (by decide)
    have e1 : (truthsR c).length = 0 := by
     have := truths_empty h1
     rw [h4] at this
     simpa using this
    simp only [h1, h2, e, e0.1, e0.2.1, e0.2.2, e1, n20, n21, n90, beq_self_eq_true, bne_self_eq_false, Bool.not_true, Bool.false_eq_true, false_imp_iff, true_imp_iff, true_and, Bool.true_eq_false, and_true, Int.ofNat_zero]
    exact ⟨⟨by decide, by decide⟩, ⟨by decide, by decide⟩, fun _ => hT, fun h => by simp at h⟩
   | false =>
    have e : bdE c n = 0 := by simp [bdE, h1, h2, h4]
    have e1 : (((truthsR c).length : Int) == 0) = false := by
     have := truths_empty h1
     rw [h4] at this
     cases h : truthsR c with
     | nil => rw [h] at this; simp at this
     | cons a l => simp; omega
    have e2 : ∀ M, bdL M c n = bndM M c (lat c.divs n) := fun M => by simp [bdL, e]
    simp only [h1, h2, e, e1, e2, n20, n21, n90, beq_self_eq_true, bne_self_eq_false, Bool.not_true, Bool.false_eq_true, false_imp_iff, true_imp_iff, true_and, Bool.true_eq_false, and_true]
    exact ⟨⟨h3.1, h3.2, ok_V (by omega)⟩, l5 h1 hdv h4⟩
  ·have h2 : inR n 0 (c.divs.length - 1) = false := by simpa using h2
   have e : bdE c n = 2 := by simp [bdE, h1, h2]
   have e0 := fin 2 e (by decide)
   simp only [h1, h2, e, e0.1, e0.2.1, e0.2.2, n20, n21, n90, beq_self_eq_true, bne_self_eq_false, Bool.not_true, Bool.not_false, Bool.false_eq_true, false_imp_iff, true_imp_iff, true_and, Bool.true_eq_false, and_true]
   exact ⟨⟨by decide, by decide⟩, ⟨by decide, by decide⟩, fun _ => hT, fun h => by simp at h⟩
 ·have e : bdE c n = faultM c := by simp [bdE, h1]
  have e0 := fin (faultM c) e h1
  have b1 : (faultM c == 0) = false := by simpa using h1
  have b2 : (faultM c != 0) = true := by simpa using h1
  simp only [b1, b2, e, e0.1, e0.2.1, e0.2.2, beq_self_eq_true, bne_self_eq_false, Bool.not_true, Bool.not_false, Bool.false_eq_true, false_imp_iff, true_imp_iff, true_and, Bool.true_eq_false, and_true]
  exact ⟨⟨by decide, by decide⟩, ⟨by decide, by decide⟩, fun _ => hT, fun h => by simp at h⟩
end
end Go.Proofs.Ytdnefcjbcieecaa
