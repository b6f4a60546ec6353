/- A part of the proof. -/
import Derived.Test.YtdnefcjbcieecaaPart9
import Derived.Test.YtdnefcjbcieecaaProg
import Derived.ProofKit
import Derived.OpenShut
import Derived.ReadAgain
import Derived.ChangeBook
import Derived.ChangeOld
import Derived.ChangeArms
import Derived.Deep.Slices
import Derived.KernelRfl
set_option linter.unusedVariables false
set_option linter.unusedSimpArgs false
namespace Go.Proofs.Ytdnefcjbcieecaa
open Go Go.Proofs
noncomputable section
def tab7c : Spec := (spAdd 27 ent27 (spAdd 26 ent26 (spAdd 21 ent21 (spAdd 20 ent20 spNil))))
theorem tab7c_ok : SpOk Try.prog tab7c := (spAdd_ok ent27_ok (spAdd_ok ent26_ok (spAdd_ok ent21_ok (spAdd_ok ent20_ok (spNil_ok _)))))
def X7c : Sx := { sp := tab7c, md := fun n => bif Nat.beq n 109 then 5 else bif Nat.beq n 121 then 5 else 0, sh := shI }
theorem X7c_ok : SpOk Try.prog X7c.sp := tab7c_ok
theorem b7 (c : Cmp) (u : Tru) (y z : List Rng) (l : List Tru) (a h i : Int) (b1 b2 b3 b4 : Bool) (k : Nat) : sx X7c (CCode.at c7 [1,1,1,1,1,1,1,1,1,0,1,0,0]) [] leafK (E7 y z l a h i b1 b2 b3 b4 k) [] (C7b c u) =
  let x1_ := (decide (Int.ofNat k < Int.ofNat (List.length l)))
  let x2_ := ((0 : Int) ≤ Int.ofNat k ∧ Int.ofNat k < Int.ofNat (List.length l) ∧ okEl [1, 1] (enc eU l) 2 (Int.ofNat k))
  let x3_ := (Cv (dCe c) = Cv c ∧ small (dCe c))
  let x4_ := (cL (enc eU l) 2 (Int.ofNat k) 0)
  let x5_ := (cC (enc eU l) 2 (Int.ofNat k) 0)
  let x6_ := (cL (enc eU l) 2 (Int.ofNat k) 1)
  let x7_ := (cC (enc eU l) 2 (Int.ofNat k) 1)
  let y17_ := (dU x4_ x5_ x6_ x7_)
  let x8_ := (Uv y17_ = V.agg [V.d (D.sl false x4_ x5_), V.d (D.sl false x6_ x7_)] ∧ List.length (Tru.sold y17_) ≤ 1000000 ∧ List.length (Tru.deliv y17_) ≤ 1000000)
  let x9_ := (dUe y17_)
  let x10_ := (Cv (dCe (dCe c)) = Cv (dCe c) ∧ Uv x9_ = Uv y17_ ∧ True)
  let x11_ := (sumE (dCe (dCe c)) x9_ a != (0 : Int))
  let x12_ := [some (Blk.box [V.d (D.int .i64 (Cmp.houses c)), V.d (D.sl false (List.length (Cmp.held c)) (enc eI (Cmp.held c))), V.d (D.sl false (List.length (Cmp.trades c)) (enc eT (Cmp.trades c))), V.d (D.sl false (List.length (Cmp.divs c)) (enc eV (Cmp.divs c))), V.d (D.sl false (List.length (Cmp.splits c)) (enc eS (Cmp.splits c))), V.d (D.sl false (List.length (Cmp.closed c)) (enc eR (Cmp.closed c)))]), some (Blk.box [V.d (D.sl false (List.length (Tru.sold u)) (enc eI (Tru.sold u))), V.d (D.sl false (List.length (Tru.deliv u)) (enc eI (Tru.deliv u)))])]
  let x13_ := (sumL claimsM (dCe (dCe c)) x9_ a)
  let x14_ := (sumL rightsM (dCe (dCe c)) x9_ a)
  let x15_ := ((0 : Int) ≤ i ∧ i < Int.ofNat (List.length x13_) ∧ okEl [0] (enc eI x13_) 1 i)
  let x16_ := ((0 : Int) ≤ i ∧ i < Int.ofNat (List.length y) ∧ okEl [0, 0] (enc eR y) 2 i)
  let x17_ := ((0 : Int) ≤ h ∧ h < Int.ofNat (List.length x14_) ∧ okEl [0] (enc eI x14_) 1 h)
  let x18_ := ((0 : Int) ≤ h ∧ h < Int.ofNat (List.length z) ∧ okEl [0, 0] (enc eR z) 2 h)
  let x19_ := (-9223372036854775808 ≤ Int.ofNat k + (1 : Int) ∧ Int.ofNat k + (1 : Int) ≤ 9223372036854775807)
  let y0_ := (19, V.d (D.sl false (List.length y) (enc eR y)))
  let y1_ := (20, V.d (D.sl false (List.length z) (enc eR z)))
  let y2_ := (26, V.d (D.sl false (List.length l) (enc eU l)))
  let y3_ := (27, V.d (D.int .i64 (Int.ofNat k + (1 : Int))))
  let y4_ := (25, V.d (D.bool (cI (enc eI x14_) 1 h 0 == cI (enc eR z) 2 h 1)))
  let y5_ := (24, V.d (D.bool (cI (enc eI x14_) 1 h 0 == cI (enc eR z) 2 h 0)))
  let y6_ := (23, V.d (D.bool (cI (enc eI x13_) 1 i 0 == cI (enc eR y) 2 i 1)))
  let y7_ := (22, V.d (D.bool (cI (enc eI x13_) 1 i 0 == cI (enc eR y) 2 i 0)))
  let y8_ := (Tr.leaf CExit.ret [(12, V.d (D.bool false))] x12_)
  let y9_ := (15, V.d (D.int .i64 a))
  let y10_ := (16, V.d (D.int .i64 h))
  let y11_ := (17, V.d (D.int .i64 i))
  let y12_ := (13, V.ptr 0 0 0)
  let y13_ := (22, V.d (D.bool true))
  let y14_ := (23, V.d (D.bool true))
  let y15_ := (24, V.d (D.bool true))
  let y16_ := (25, V.d (D.bool true))
  Tr.br x1_ (Tr.need x2_ (Tr.need x3_ (Tr.need x8_ (Tr.need x10_ (Tr.need x2_ (Tr.need x3_ (Tr.need x8_ (Tr.need x10_ (Tr.br x11_ y8_ (Tr.br x11_ y8_ (Tr.br (Int.ofNat (List.length x13_) != Int.ofNat (List.length y)) y8_ (Tr.br (Int.ofNat (List.length x14_) != Int.ofNat (List.length z)) y8_ (Tr.need x15_ (Tr.need x16_ (Tr.br (decide (cI (enc eI x13_) 1 i 0 < cI (enc eR y) 2 i 0)) y8_ (Tr.need x15_ (Tr.need x16_ (Tr.br (decide (cI (enc eR y) 2 i 1 < cI (enc eI x13_) 1 i 0)) y8_ (Tr.need x17_ (Tr.need x18_ (Tr.br (decide (cI (enc eI x14_) 1 h 0 < cI (enc eR z) 2 h 0)) y8_ (Tr.need x17_ (Tr.need x18_ (Tr.br (decide (cI (enc eR z) 2 h 1 < cI (enc eI x14_) 1 h 0)) y8_ (Tr.br b1 (Tr.br b2 (Tr.br b3 (Tr.br b4 (Tr.need x19_ (Tr.leaf CExit.normal [y12_, y9_, y10_, y11_, y0_, y1_, y13_, y14_, y15_, y16_, y2_, y3_] x12_)) (Tr.need x17_ (Tr.need x18_ (Tr.need x19_ (Tr.leaf CExit.normal [y12_, y9_, y10_, y11_, y0_, y1_, y13_, y14_, y15_, y4_, y2_, y3_] x12_))))) (Tr.need x17_ (Tr.need x18_ (Tr.br b4 (Tr.need x19_ (Tr.leaf CExit.normal [y12_, y9_, y10_, y11_, y0_, y1_, y13_, y14_, y5_, y16_, y2_, y3_] x12_)) (Tr.need x17_ (Tr.need x18_ (Tr.need x19_ (Tr.leaf CExit.normal [y12_, y9_, y10_, y11_, y0_, y1_, y13_, y14_, y5_, y4_, y2_, y3_] x12_)))))))) (Tr.need x15_ (Tr.need x16_ (Tr.br b3 (Tr.br b4 (Tr.need x19_ (Tr.leaf CExit.normal [y12_, y9_, y10_, y11_, y0_, y1_, y13_, y6_, y15_, y16_, y2_, y3_] x12_)) (Tr.need x17_ (Tr.need x18_ (Tr.need x19_ (Tr.leaf CExit.normal [y12_, y9_, y10_, y11_, y0_, y1_, y13_, y6_, y15_, y4_, y2_, y3_] x12_))))) (Tr.need x17_ (Tr.need x18_ (Tr.br b4 (Tr.need x19_ (Tr.leaf CExit.normal [y12_, y9_, y10_, y11_, y0_, y1_, y13_, y6_, y5_, y16_, y2_, y3_] x12_)) (Tr.need x17_ (Tr.need x18_ (Tr.need x19_ (Tr.leaf CExit.normal [y12_, y9_, y10_, y11_, y0_, y1_, y13_, y6_, y5_, y4_, y2_, y3_] x12_))))))))))) (Tr.need x15_ (Tr.need x16_ (Tr.br b2 (Tr.br b3 (Tr.br b4 (Tr.need x19_ (Tr.leaf CExit.normal [y12_, y9_, y10_, y11_, y0_, y1_, y7_, y14_, y15_, y16_, y2_, y3_] x12_)) (Tr.need x17_ (Tr.need x18_ (Tr.need x19_ (Tr.leaf CExit.normal [y12_, y9_, y10_, y11_, y0_, y1_, y7_, y14_, y15_, y4_, y2_, y3_] x12_))))) (Tr.need x17_ (Tr.need x18_ (Tr.br b4 (Tr.need x19_ (Tr.leaf CExit.normal [y12_, y9_, y10_, y11_, y0_, y1_, y7_, y14_, y5_, y16_, y2_, y3_] x12_)) (Tr.need x17_ (Tr.need x18_ (Tr.need x19_ (Tr.leaf CExit.normal [y12_, y9_, y10_, y11_, y0_, y1_, y7_, y14_, y5_, y4_, y2_, y3_] x12_)))))))) (Tr.need x15_ (Tr.need x16_ (Tr.br b3 (Tr.br b4 (Tr.need x19_ (Tr.leaf CExit.normal [y12_, y9_, y10_, y11_, y0_, y1_, y7_, y6_, y15_, y16_, y2_, y3_] x12_)) (Tr.need x17_ (Tr.need x18_ (Tr.need x19_ (Tr.leaf CExit.normal [y12_, y9_, y10_, y11_, y0_, y1_, y7_, y6_, y15_, y4_, y2_, y3_] x12_))))) (Tr.need x17_ (Tr.need x18_ (Tr.br b4 (Tr.need x19_ (Tr.leaf CExit.normal [y12_, y9_, y10_, y11_, y0_, y1_, y7_, y6_, y5_, y16_, y2_, y3_] x12_)) (Tr.need x17_ (Tr.need x18_ (Tr.need x19_ (Tr.leaf CExit.normal [y12_, y9_, y10_, y11_, y0_, y1_, y7_, y6_, y5_, y4_, y2_, y3_] x12_)))))))))))))))))))))))))))))))))))))) (Tr.leaf (CExit.exit 0) [y12_, y9_, y10_, y11_, y0_, y1_, (22, V.d (D.bool b1)), (23, V.d (D.bool b2)), (24, V.d (D.bool b3)), (25, V.d (D.bool b4)), y2_, (27, V.d (D.int .i64 (Int.ofNat k))), (101, V.d (D.bool x1_))] x12_) := by kernel_rfl
def tab7d : Spec := (spAdd 18 ent18 spNil)
theorem tab7d_ok : SpOk Try.prog tab7d := (spAdd_ok ent18_ok (spNil_ok _))
def X7d : Sx := mkX tab7d
theorem X7d_ok : SpOk Try.prog X7d.sp := tab7d_ok
theorem x7 (u0 u1 u2 u3 u4 u5 u6 u7 : V) (b : Bool) (h : Heap) : sS X7d (doneP r7) [Fr.blk 0, Fr.seq (CCode.at c7 [1,1,1,1,1,1,1,1,1,1])] (.exit 0) [(13, u0), (15, u1), (16, u2), (17, u3), (19, u4), (20, u5), (22, vb true), (23, vb true), (24, vb true), (25, vb true), (26, u6), (27, u7), (101, vb b)] [] h =
  let y0_ := (Tr.done (V.d (D.bool false)) [])
  Tr.br true (Tr.br true (Tr.br true (Tr.br true (Tr.need True (Tr.done (V.d (D.bool true)) [])) y0_) y0_) y0_) y0_ := by kernel_rfl
theorem any_succ (g : Tru → Bool) {l : List Tru} {k : Nat} (hk : k < l.length) : (l.take (k + 1)).any g = ((l.take k).any g || g (lat l (k : Nat))) := by
 have e : lat l (k : Nat) = l[k] := by simp [lat, hk]
 rw [List.take_succ_eq_append_getElem hk, List.any_append, e]
 simp
theorem l7 {c : Cmp} {u : Tru} {d : Dvd} {y z : List Rng} {l : List Tru} {a : Int} {h i : Nat} (hf : faultM c = 0) (hs : small c) (hl : l.length ≤ 1000000) (ht : ∀ t ∈ l, truthB c t = true) (ha : inR a 0 (c.divs.length - 1) = true) (hd : lat c.divs a = d)
  (hy : y.length = c.trades.length) (hz : z.length = c.held.length) (hi : i < c.trades.length) (hh : h < c.held.length) (sy : Span (fun t => claimsM c t d) l i (lat y (i : Nat))) (sz : Span (fun t => rightsM c t d) l h (lat z (h : Nat))) :
  lpS Try.prog G7 0 (CCode.at c7 [1,1,1,1,1,1,1,1,1,0,1,0,0]) [Fr.blk 0, Fr.seq (CCode.at c7 [1,1,1,1,1,1,1,1,1,1])] (retQ r7 fun v _ => VLe v (vb true)) (E7 y z l a h i false false false false 0) (C7b c u) := by
 have hb := (fault_ok hf).1
 refine lp_count X7c_ok l.length (fun _ => True) (fun k => E7 y z l a h i ((l.take k).any fun t => lat (claimsM c t d) (i : Nat) == (lat y (i : Nat)).lo) ((l.take k).any fun t => lat (claimsM c t d) (i : Nat) == (lat y (i : Nat)).hi)
  ((l.take k).any fun t => lat (rightsM c t d) (h : Nat) == (lat z (h : Nat)).lo) ((l.take k).any fun t => lat (rightsM c t d) (h : Nat) == (lat z (h : Nat)).hi) k) (fun _ => C7b c u) ?_ rfl trivial (fun k _ => ⟨rfl, rfl, rfl⟩) ?_
 ·simp
 intro k hk _ Q' hn he hr
 rw [b7]
 have hU : Uv (lat l (k : Nat)) = V.agg [V.d (D.sl false (lat l (k : Nat)).sold.length (enc eI (lat l (k : Nat)).sold)), V.d (D.sl false (lat l (k : Nat)).deliv.length (enc eI (lat l (k : Nat)).deliv))] := rfl
 simp only [holds, Int.ofNat_eq_natCast, dCe, dC_enc, cL_U0, cL_U1, cC_U0, cC_U1, dU_enc, dUe, ← hU, hs, true_and, and_true, cI_I, cI_R0, cI_R1]
 refine ⟨fun e1 => ?_, fun e1 => ?_⟩
 ·have hlt : k < l.length := by have := of_decide_eq_true e1; omega
  have hn := fun J => hn J hlt trivial
  have hmem : lat l (k : Nat) ∈ l := by
   have e : lat l (k : Nat) = l[k] := by simp [lat, hlt]
   rw [e]
   exact List.getElem_mem hlt
  have htk := ht _ hmem
  have hyk := sy.2.2 _ hmem
  have hzk := sz.2.2 _ hmem
  simp only at hyk hzk
  have hao := truth_ask hf htk
  obtain ⟨_, hdt, _⟩ := askE_ok hao
  obtain ⟨l1, l2⟩ := dated_len hdt
  have e0 : sumE c (lat l (k : Nat)) a = 0 := by simp [sumE, hao, ha]
  have el : ∀ M, sumL M c (lat l (k : Nat)) a = M c (lat l (k : Nat)) d := fun M => by simp [sumL, e0, hd]
  have z1 : 0 ≤ (k : Int) ∧ (k : Int) < l.length ∧ okEl [1, 1] (enc eU l) 2 k := ⟨by omega, by omega, ok_U (by omega)⟩
  have z2 : 0 ≤ (i : Int) ∧ (i : Int) < c.trades.length ∧ okEl [0] (enc eI (claimsM c (lat l (k : Nat)) d)) 1 i := ⟨by omega, by omega, ok_I (by rw [claimsM_len]; omega)⟩
  have z3 : 0 ≤ (i : Int) ∧ (i : Int) < c.trades.length ∧ okEl [0, 0] (enc eR y) 2 i := ⟨by omega, by omega, ok_R (by omega)⟩
  have z4 : 0 ≤ (h : Int) ∧ (h : Int) < c.held.length ∧ okEl [0] (enc eI (rightsM c (lat l (k : Nat)) d)) 1 h := ⟨by omega, by omega, ok_I (by rw [rightsM_len]; omega)⟩
  have z5 : 0 ≤ (h : Int) ∧ (h : Int) < c.held.length ∧ okEl [0, 0] (enc eR z) 2 h := ⟨by omega, by omega, ok_R (by omega)⟩
  have z6 : (lat l (k : Nat)).sold.length ≤ 1000000 ∧ (lat l (k : Nat)).deliv.length ≤ 1000000 := by omega
  have z7 : (-9223372036854775808 : Int) ≤ (k : Int) + 1 ∧ (k : Int) + 1 ≤ 9223372036854775807 := by omega
  have g1 : decide (lat (claimsM c (lat l (k : Nat)) d) (i : Nat) < (lat y (i : Nat)).lo) = false := decide_eq_false (by omega)
  have g2 : decide ((lat y (i : Nat)).hi < lat (claimsM c (lat l (k : Nat)) d) (i : Nat)) = false := decide_eq_false (by omega)
  have g3 : decide (lat (rightsM c (lat l (k : Nat)) d) (h : Nat) < (lat z (h : Nat)).lo) = false := decide_eq_false (by omega)
  have g4 : decide ((lat z (h : Nat)).hi < lat (rightsM c (lat l (k : Nat)) d) (h : Nat)) = false := decide_eq_false (by omega)
  simp only [any_succ _ hlt] at hn
  simp only [z1, z6, e0, el, claimsM_len, rightsM_len, hy, hz, z2, z3, z4, z5, z7, g1, g2, g3, g4, bne_self_eq_false, Bool.false_eq_true, false_imp_iff, true_imp_iff, true_and, and_true]
  generalize ((l.take k).any fun t => lat (claimsM c t d) (i : Nat) == (lat y (i : Nat)).lo) = b1 at *
  generalize ((l.take k).any fun t => lat (claimsM c t d) (i : Nat) == (lat y (i : Nat)).hi) = b2 at *
  generalize ((l.take k).any fun t => lat (rightsM c t d) (h : Nat) == (lat z (h : Nat)).lo) = b3 at *
  generalize ((l.take k).any fun t => lat (rightsM c t d) (h : Nat) == (lat z (h : Nat)).hi) = b4 at *
  have hn := hn []
  simp only [hy, hz, E7, vi, vb] at hn
  cases b1 <;> cases b2 <;> cases b3 <;> cases b4 <;> simp only [Bool.true_or, Bool.false_or, true_imp_iff, false_imp_iff, Bool.false_eq_true, Bool.true_eq_false, and_true, true_and] at hn ⊢ <;> exact hn
 ·have hge : k = l.length := by have := of_decide_eq_false e1; omega
  subst hge
  have any_of : ∀ (g : Tru → Int) (x : Int), (∃ t ∈ l, g t = x) → ((l.take l.length).any fun t => g t == x) = true := fun g x ⟨t, hm, e⟩ => by
   rw [List.take_length, List.any_eq_true]
   exact ⟨t, hm, by simp [e]⟩
  rw [any_of _ _ sy.1, any_of _ _ sy.2.1, any_of _ _ sz.1, any_of _ _ sz.2.1]
  refine he _ _ _ (ret_tree (R := fun v1 h1 => VLe v1 (vb true)) X7d_ok (doneP_ok rfl) (x7 _ _ _ _ _ _ _ _ _ _) ?_)
  simp only [holds, true_and, true_imp_iff, Bool.true_eq_false, false_imp_iff, and_true]
  exact .refl _
end
end Go.Proofs.Ytdnefcjbcieecaa
namespace Go.Proofs.Ytdnefcjbcieecaa
open Go Go.Proofs
noncomputable section
theorem Span.perm {M : Tru → List Int} {l l' : List Tru} (hm : ∀ t, t ∈ l ↔ t ∈ l') {k : Nat} {r : Rng} (h : Span M l k r) : Span M l' k r := by
 obtain ⟨⟨t1, m1, e1⟩, ⟨t2, m2, e2⟩, h3⟩ := h
 exact ⟨⟨t1, (hm _).1 m1, e1⟩, ⟨t2, (hm _).1 m2, e2⟩, fun t ht => h3 t ((hm _).2 ht)⟩
theorem y7 (hl ws : List Int) (m j o r : Int) (hw : isWords ws) (h0 : 0 ≤ m) (h1 : m ≤ 255) (h2 : 0 ≤ j) (h3 : j ≤ 255) (h4 : 0 ≤ o) (h5 : o ≤ 255) (h6 : 0 ≤ r) (h7 : r ≤ 255) :
  Yields Try.prog 7 [vsl eI hl, vsl eW ws, .d (.int .u8 m), .d (.int .u8 j), .d (.int .u8 o), .d (.int .u8 r)] (vb true) := by
 refine q7.yieldsP X7b_ok rfl rfl rfl (w7 hl ws m j o r) ?_
 simp only [holds, Int.ofNat_eq_natCast, dec_I, dec_W, okL_I, true_and, and_true]
 refine ⟨fun _ => .refl _, fun hb => ?_⟩
 have hb : begunB hl = true := by simpa using hb
 have hL : hl.length ≤ 140737488355328 := by have := begun_ok hb; omega
 have hL1 := (begun_ok hb)
 have ho := dealt_ok hb hw h0 h1
 have hwr : IntKind.wrap .i64 j = j := wrap_i64 (by omega) (by omega)
 have hwo : IntKind.wrap .i64 o = o := wrap_i64 (by omega) (by omega)
 have hwq : IntKind.wrap .i64 r = r := wrap_i64 (by omega) (by omega)
 generalize hc : (dealt hl ws m).1 = c at *
 generalize ht : (dealt hl ws m).2 = t at *
 rw [hwr, hwo, hwq]
 have hz := word_in hw 0 (by omega)
 have z1 := wd hz.1 hz.2 (n := 16) (by omega)
 have z2 := wd z1.2.2.2.1 z1.2.2.2.2 (n := 3) (by omega)
 have hdl : 0 < c.divs.length := by rw [ho.divs, divK_len, divN]; omega
 have hq := wd h2 (show j ≤ 65535 by omega) (n := c.divs.length) (by omega)
 have hf := ho.fault
 have hbs := (fault_ok hf).1
 have hsm : small c := by unfold small; omega
 have hh : hl.length = c.held.length := by rw [← ho.held]
 have hh2 : 0 < c.held.length := by omega
 have hqh := wd h4 (show o ≤ 65535 by omega) (n := c.held.length) (by omega)
 generalize hkk : j.tmod c.divs.length = kk at *
 have hn : inR kk 0 (c.divs.length - 1) = true := by simp only [inR, decide_eq_true_eq]; omega
 have hdo : okDv (lat c.divs kk) = true := divs_ok hf hq.1 (by omega)
 simp only [dCe, dC_enc, true_and, and_true, hb, h0, h1, hL, hsm, hf, hh]
 refine ⟨⟨by omega, hw⟩, fun _ => .refl _, fun hr => ⟨fun _ => .refl _, fun hr2 => ?_⟩⟩
 have htr : 0 < c.trades.length := by
  have : ¬ ((c.trades.length : Int) = 0) := by simpa using hr2
  omega
 have hqt := wd h6 (show r ≤ 65535 by omega) (n := c.trades.length) (by omega)
 have hmem : ∀ u, u ∈ truthsP c ↔ u ∈ truthsR c := fun u => by rw [truthsP_mem, truthsR_mem hf]
 have hne : (truthsP c).isEmpty = false := by
  have : t ∈ truthsP c := truthsP_mem.2 ho.truth
  cases hp : truthsP c with
  | nil => rw [hp] at this; simp at this
  | cons => rfl
 have e : bdE c kk = 0 := by simp [bdE, hf, hn, hne]
 have e2 : ∀ M, bdL M c kk = bndM M c (lat c.divs kk) := fun M => by simp [bdL, e]
 have s1 := bndM_span (M := claimsM) (c := c) (d := lat c.divs kk) (N := c.trades.length) (fun t _ => claimsM_len _ _ _) hne
 have s2 := bndM_span (M := rightsM) (c := c) (d := lat c.divs kk) (N := c.held.length) (fun t _ => rightsM_len _ _ _) hne
 have hlen : (truthsR c).length ≤ 6561 := by
  have := trK_len c (many c).toNat
  have := many_in hf
  unfold truthsR; omega
 generalize hoo : o.tmod c.held.length = oo at *
 generalize hrr : r.tmod c.trades.length = rr at *
 obtain ⟨hN, ehN⟩ := Int.eq_ofNat_of_zero_le hqh.1
 obtain ⟨iN, eiN⟩ := Int.eq_ofNat_of_zero_le hqt.1
 subst ehN
 subst eiN
 have fin := l7 (u := t) (a := kk) hf hsm (by omega) (fun u hu => (truthsR_mem hf).1 hu) hn rfl s1.1 s2.1 (by omega) (by omega) ((s1.2 iN (by omega)).perm hmem) ((s2.2 hN (by omega)).perm hmem)
 simp only [e, e2, s1.1, s2.1, bne_self_eq_false, Bool.false_eq_true, false_imp_iff, true_imp_iff, true_and]
 simp only [E7, C7b, vi, vb, s1.1, s2.1] at fin
 exact ⟨by omega, by omega, by omega, fin⟩
end
end Go.Proofs.Ytdnefcjbcieecaa
namespace Go.Proofs.Ytdnefcjbcieecaa
open Go Go.ChangeShapes Go.WideShapes Go.ChangeAt Go.RowKit
def flatFs (g : TypeId → Option (List IntKind)) (cell : TypeId → Nat) : List Field → Nat → Option (List IntKind)
 | [], _ => some []
 | f :: fs, off => if f.offset = off then match g f.type, flatFs g cell fs (off + cell f.type) with
   | some a, some b => if a.length = cell f.type then some (a ++ b) else none
   | _, _ => none
  else none
def flatOf (P : Program) : Nat → TypeId → Option (List IntKind)
 | 0, _ => none
 | m + 1, T => match P.underlying T with
  | some (.int k) => some [k]
  | some (.struct fs) => match flatFs (flatOf P m) P.cellsOf fs.toList 0 with
   | some ks => if ks.length = P.cellsOf T then some ks else none
   | none => none
  | _ => none
section
variable {H : Type} {enc : TypeId × Value → H} {P : Program} {w : World} {base : Nat} {spare : Nat → Bool} {held : Bool}
def IntsIn (ks : List IntKind) (cs : List Value) (ns : List Int) : Prop :=
 ns.length = ks.length ∧ cs = List.zipWith Value.int ks ns ∧ ∀ (j : Nat) k n, ks[j]? = some k → ns[j]? = some n → (Lit.int k n).wf = true
theorem IntsIn.append {k1 k2 : List IntKind} {c1 c2 : List Value} {n1 n2 : List Int} (h1 : IntsIn k1 c1 n1) (h2 : IntsIn k2 c2 n2) : IntsIn (k1 ++ k2) (c1 ++ c2) (n1 ++ n2) := by
 obtain ⟨a1, b1, d1⟩ := h1
 obtain ⟨a2, b2, d2⟩ := h2
 refine ⟨by simp [a1, a2], by rw [b1, b2, List.zipWith_append a1.symm], fun j k n hk hn => ?_⟩
 by_cases hj : j < k1.length
 ·rw [List.getElem?_append_left hj] at hk
  rw [List.getElem?_append_left (by omega)] at hn
  exact d1 j k n hk hn
 ·rw [List.getElem?_append_right (by omega)] at hk
  rw [List.getElem?_append_right (by omega)] at hn
  rw [a1] at hn
  exact d2 _ k n hk hn
theorem flat_sound : ∀ (m : Nat) (T : TypeId) (ks : List IntKind), flatOf P m T = some ks → ∀ (fuel : Nat) (cs : List Value) (x : DataW H × List MemPlace), DataW.trod enc P w base spare held fuel T cs = some x → ∃ ns, IntsIn ks cs ns
 | 0, _, _, h => by cases h
 | m + 1, T, ks, h => by
  intro fuel cs x hx
  unfold flatOf at h
  split at h
  ·rename_i k hu
   cases h
   obtain ⟨n, rfl, _, hw⟩ := DataW.trod_int hu hx
   exact ⟨[n], rfl, rfl, fun j k' n' hk hn => by
    cases j with
    | zero => cases hk; cases hn; exact hw
    | succ j => simp at hk⟩
  ·rename_i fs hu
   split at h
   ·rename_i ks' hks
    split at h
    ·rename_i hlen
     cases h
     obtain ⟨xs, n, _, _, hcl, hxl, hf⟩ := DataW.trod_struct hu hx
     have key : ∀ (fl : List Field) (off i0 : Nat) (ks : List IntKind), (∀ (j : Nat) f, fl[j]? = some f → fs[i0 + j]? = some f) → fl.length + i0 = fs.size → flatFs (flatOf P m) P.cellsOf fl off = some ks → off + ks.length = cs.length → ∃ ns, IntsIn ks (cs.drop off) ns := by
      intro fl
      induction fl with
      | nil =>
       intro off i0 ks hg hl hk ho
       cases hk
       exact ⟨[], rfl, List.drop_eq_nil_of_le (by simp at ho; omega), fun j k n h => by simp at h⟩
      | cons f fl ih =>
       intro off i0 ks hg hl hk ho
       unfold flatFs at hk
       split at hk
       ·rename_i hoff
        split at hk
        ·rename_i a b ha hb
         split at hk
         ·rename_i hal
          cases hk
          have hfi := hg 0 f rfl
          have h1 := hf i0 f (by simpa using hfi)
          have hlt : i0 < xs.length := by rw [hxl]; simp at hl; omega
          rw [List.getElem?_eq_getElem hlt, hoff] at h1
          obtain ⟨n1, hn1⟩ := flat_sound m f.type a ha n _ _ h1
          obtain ⟨n2, hn2⟩ := ih (off + P.cellsOf f.type) (i0 + 1) b (fun j g hj => by have := hg (j + 1) g hj; rwa [show i0 + (j + 1) = i0 + 1 + j by omega] at this) (by simp at hl ⊢; omega) hb (by simp at ho; omega)
          refine ⟨n1 ++ n2, ?_⟩
          have e : cs.drop off = (cs.drop off).take (P.cellsOf f.type) ++ cs.drop (off + P.cellsOf f.type) := by rw [← List.drop_drop, List.take_append_drop]
          rw [e]
          exact hn1.append hn2
         ·cases hk
        ·cases hk
       ·cases hk
     obtain ⟨ns, hns⟩ := key fs.toList 0 0 ks (fun j f hj => by simpa using hj) (by simp) hks (by rw [hcl, hlen]; simp)
     exact ⟨ns, by simpa using hns⟩
    ·cases h
   ·cases h
  ·cases h
def memOf (P : Program) (w : World) : Mem := { ro := fun b o => w.cell? ⟨b, o, none⟩, mu := fun _ => none, df := fun _ => False, cc := ccP P }
theorem sim_memOf (P : Program) (w : World) : Sim (memOf P w) [] w :=
 ⟨fun i blk h => by simp at h, fun i j bi bj ri rj b h => by simp at h, fun b o v h => ⟨h, fun ⟨i, _, _, h, _⟩ => by simp at h⟩, fun _ _ => rfl, fun _ h => h.elim⟩
def rowD (ks : List IntKind) (ns : List Int) : List D := List.zipWith D.int ks ns
theorem rowD_len {ks : List IntKind} {cs : List Value} {ns : List Int} (h : IntsIn ks cs ns) : (rowD ks ns).length = ks.length := by simp [rowD, h.1]
theorem slice_sound {T e : TypeId} {ks : List IntKind} {m : Nat} (hT : P.underlying T = some (.slice e)) (he : flatOf P m e = some ks) (hsz : P.cellsOf e = ks.length) (hpos : 0 < ks.length) {fuel : Nat} {cs : List Value} {x : DataW H × List MemPlace}
  (hx : DataW.trod enc P w base spare held fuel T cs = some x) :
  ∃ (rows : List (List Int)) (v : Value), cs = [v] ∧ RepD (memOf P w).ro (.sl false rows.length (rows.flatMap (rowD ks))) v ∧ rows.length ≤ maxLen ∧ ∀ r ∈ rows, r.length = ks.length ∧ ∀ (j : Nat) k n, ks[j]? = some k → r[j]? = some n → (Lit.int k n).wf = true := by
 rcases Go.Deep.open_slice hT hx with ⟨rfl, _⟩ | ⟨a, len, cap, q, n, Df, Pl, rfl, _, hle, hm, hq, _, hel⟩
 ·refine ⟨[], _, rfl, ?_, Nat.zero_le _, fun r hr => by simp at hr⟩
  have := VLe.sl (n := 0) (cs := []) (memOf P w) _ (.d _ _ (rep_nil _))
  cases this with
  | d x v h => exact h
 ·have hlq : len ≤ q := by rw [hq]; split <;> omega
  have hrow : ∀ i, i < len → ∃ ns, (∀ (j : Nat), j < ks.length → w.cell? ((a.add (i * ks.length)).add j) = (List.zipWith Value.int ks ns)[j]?) ∧ IntsIn ks (List.zipWith Value.int ks ns) ns := fun i hi => by
   obtain ⟨cs', h1, h2⟩ := hel i (by omega)
   obtain ⟨ns, hns⟩ := flat_sound m e ks he n cs' _ h2
   rw [hsz] at h1
   obtain ⟨_, hl, hc⟩ := World.cells?_some h1
   obtain ⟨h3, h4, h5⟩ := hns
   exact ⟨ns, fun j hj => by rw [← h4]; exact hc j hj, h3, rfl, h5⟩
  obtain ⟨f, hf⟩ : ∃ f : Nat → List Int, ∀ i, i < len → (∀ (j : Nat), j < ks.length → w.cell? ((a.add (i * ks.length)).add j) = (List.zipWith Value.int ks (f i))[j]?) ∧ IntsIn ks (List.zipWith Value.int ks (f i)) (f i) :=
   ⟨fun i => if h : i < len then Classical.choose (hrow i h) else [], fun i hi => by simp only [dif_pos hi]; exact Classical.choose_spec (hrow i hi)⟩
  have hrl : ∀ r ∈ (List.range len).map f, (rowD ks r).length = ks.length := fun r hr => by
   obtain ⟨i, hi, rfl⟩ := List.mem_map.1 hr
   exact rowD_len (hf i (List.mem_range.1 hi)).2
  have hget : ∀ (i j : Nat), i < len → j < ks.length → (((List.range len).map f).flatMap (rowD ks))[i * ks.length + j]? = (rowD ks (f i))[j]? := by
   have gen : ∀ (l : List (List Int)), (∀ r ∈ l, (rowD ks r).length = ks.length) → ∀ (i j : Nat), j < ks.length → (l.flatMap (rowD ks))[i * ks.length + j]? = (l[i]?).bind fun r => (rowD ks r)[j]? := by
    intro l
    induction l with
    | nil => intro _ i j _; simp
    | cons r l ih =>
     intro hl i j hj
     have h0 := hl r (by simp)
     cases i with
     | zero => rw [List.flatMap_cons, List.getElem?_append_left (by omega)]; simp
     | succ i =>
      rw [List.flatMap_cons, List.getElem?_append_right (by rw [h0, Nat.add_mul]; omega), h0]
      have : (i + 1) * ks.length + j - ks.length = i * ks.length + j := by rw [Nat.add_mul]; omega
      rw [this, ih (fun r hr => hl r (by simp [hr])) i j hj]
      rfl
   intro i j hi hj
   rw [gen _ hrl i j hj]
   simp [hi]
  have hlen : (((List.range len).map f).flatMap (rowD ks)).length = len * ks.length := by
   have gen : ∀ (l : List (List Int)), (∀ r ∈ l, (rowD ks r).length = ks.length) → (l.flatMap (rowD ks)).length = l.length * ks.length := by
    intro l
    induction l with
    | nil => intro _; simp
    | cons r l ih =>
     intro hl
     rw [List.flatMap_cons, List.length_append, hl r (by simp), ih (fun r hr => hl r (by simp [hr])), List.length_cons, Nat.add_mul]
     omega
   rw [gen _ hrl]; simp
  have hwf : ∀ r ∈ (List.range len).map f, r.length = ks.length ∧ ∀ (j : Nat) k n, ks[j]? = some k → r[j]? = some n → (Lit.int k n).wf = true := fun r hr => by
   obtain ⟨i, hi, rfl⟩ := List.mem_map.1 hr
   exact ⟨(hf i (List.mem_range.1 hi)).2.1, (hf i (List.mem_range.1 hi)).2.2.2⟩
  refine ⟨(List.range len).map f, _, rfl, ?_, by simp; omega, hwf⟩
  have hl2 : ((List.range len).map f).length = len := by simp
  rw [hl2]
  rcases Nat.eq_zero_or_pos len with h0 | h0
  ·subst h0
   exact .sl false 0 cap _ (some a) 0 0 (fun _ => undef) hle hm (fun e => by cases e) (.inl (by simp)) (fun k hk => by simp at hk) (fun k c hc => by simp at hc)
  · -- the address is plain
   have hspot : a = ⟨a.block, a.off, none⟩ := by
    have h1 := (hf 0 h0).1 0 hpos
    have h2 := (hf 0 h0).2.1
    have h3 : (a.add (0 * ks.length)).add 0 = a := by simp [Addr.add]
    rw [h3] at h1
    have h4 : (List.zipWith Value.int ks (f 0))[0]? ≠ none := by
     intro e
     rw [List.getElem?_eq_none_iff, List.length_zipWith, h2, Nat.min_self] at e
     omega
    cases hs : a.spot with
    | none => cases a; simp_all
    | some s =>
     exfalso
     apply h4
     rw [← h1]
     unfold World.cell?
     split
     ·simp [hs]
     ·rfl
   have hadd : ∀ i j : Nat, (a.add (i * ks.length)).add j = ⟨a.block, a.off + (i * ks.length + j), none⟩ := fun i j => by
    rw [hspot]
    by_cases hi : i * ks.length = 0
    ·by_cases hj : j = 0
     ·simp [Addr.add, hi, hj]
     ·simp [Addr.add, hi, hj]
    ·by_cases hj : j = 0
     ·simp [Addr.add, hi, hj]
     ·simp [Addr.add, hi, hj]; omega
   have hsplit : ∀ k, k < len * ks.length → ∃ i j, i < len ∧ j < ks.length ∧ k = i * ks.length + j := fun k hk =>
    ⟨k / ks.length, k % ks.length, (Nat.div_lt_iff_lt_mul hpos).2 hk, Nat.mod_lt _ hpos, by rw [Nat.mul_comm]; exact (Nat.div_add_mod k ks.length).symm⟩
   refine .sl false len cap _ (some a) a.block a.off (fun k => (w.cell? ⟨a.block, a.off + k, none⟩).getD undef) hle hm (fun e => by cases e) (.inr (congrArg some hspot)) (fun k hk => ?_) (fun k c hc => ?_)
   ·rw [hlen] at hk
    obtain ⟨i, j, hi, hj, rfl⟩ := hsplit k hk
    have h1 := (hf i hi).1 j hj
    rw [hadd] at h1
    show w.cell? _ = _
    rw [h1]
    have h2 := (hf i hi).2.1
    rw [List.getElem?_eq_getElem (by simp [h2]; omega)]
    rfl
   ·have hk : k < len * ks.length := by rw [← hlen]; exact (List.getElem?_eq_some_iff.1 hc).1
    obtain ⟨i, j, hi, hj, rfl⟩ := hsplit k hk
    rw [hget i j hi hj] at hc
    have h1 := (hf i hi).1 j hj
    rw [hadd] at h1
    rw [h1]
    have h2 := (hf i hi).2.1
    have hk' : ks[j]? = some ks[j] := List.getElem?_eq_getElem hj
    have hn' : (f i)[j]? = some ((f i)[j]'(by omega)) := List.getElem?_eq_getElem (by omega)
    simp only [rowD, List.getElem?_zipWith, hk', hn', Option.map_some, Option.bind_some, Option.some.injEq] at hc ⊢
    subst hc
    exact .int _ _
end
theorem rows1 {rows : List (List Int)} (h : ∀ r ∈ rows, r.length = 1) : ∃ l : List Int, l.length = rows.length ∧ rows.flatMap (rowD [.i64]) = Go.Proofs.Ytdnefcjbcieecaa.enc eI l := by
 induction rows with
 | nil => exact ⟨[], rfl, rfl⟩
 | cons r rows ih =>
  obtain ⟨l, h1, h2⟩ := ih fun r hr => h r (by simp [hr])
  match r, h r (by simp) with
  | [a], _ => exact ⟨a :: l, by simp [h1], by rw [List.flatMap_cons, h2]; rfl⟩
theorem trodAll_old {H : Type} {enc : TypeId × Value → H} {P : Program} {W W' : World} {T : TypeId → Prop} (K : Kids P T) (hz : ∀ t e, T t → P.underlying t = some (.slice e) → 0 < P.cellsOf e) {ts : List TypeId} (hT : ∀ t ∈ ts, T t)
  {vs : List Value} {ds : List (DataW H)} {ps : List MemPlace} (h : DataW.TrodAll enc P W 0 (fun _ => true) true ts vs ds ps) (hold : ∀ b, b < W.heap.size → W'.heap[b]? = W.heap[b]?) :
  DataW.TrodAll enc P W' 0 (fun b => decide (b < W.heap.size)) true ts vs ds ps := by
 have hlt := h.lt
 have h2 := h.respare (spare' := fun b => decide (b < W.heap.size)) K hz hT (fun p hp => decide_eq_true (hlt p hp))
 have hsame : ∀ p ∈ ps, W.sameAt W' p := fun p hp => by
  have := hold _ (hlt p hp)
  cases p with
  | cell b off =>
   have this : W'.heap[b]? = W.heap[b]? := this
   show W'.cell? _ = W.cell? _
   unfold World.cell?
   rw [this]
  | map b => exact this
 clear h hlt
 revert vs ds ps
 induction ts with
 | nil => intro vs ds ps h _; cases vs <;> cases ds <;> first | exact h | exact h.elim
 | cons t ts ih =>
  intro vs ds ps h hs
  cases vs with
  | nil => exact h.elim
  | cons v vs => cases ds with
   | nil => exact h.elim
   | cons d ds =>
    obtain ⟨p, q, ⟨n, h1⟩, h2, rfl⟩ := h
    exact ⟨p, q, ⟨n, DataW.trod_carry n _ _ _ h1 fun x hx => hs x (List.mem_append_left _ hx)⟩, ih (fun t ht => hT t (by simp [ht])) h2 (fun x hx => hs x (List.mem_append_right _ hx)), rfl⟩
theorem calls_true {P : Program} {g : Nat} {vs : List V} {b : Bool} (hy : Yields P g vs (vb b)) (w : World) {args : List Value} (hr : RepL (memOf P w) vs args) :
  Calls P g args.toArray w fun e w' => e = .returned (.bool b) ∧ w'.os = w.os ∧ w'.tape = w.tape ∧ w'.output = w.output ∧ w.heap.size ≤ w'.heap.size ∧ ∀ b, b < w.heap.size → w'.heap[b]? = w.heap[b]? := by
 refine ((hy []).2 (memOf P w) w args rfl (sim_memOf P w) hr).mono ?_
 rintro e w' ⟨cv, v, h2, M', rfl, hp, hv, rfl, rfl⟩
 have hv : RepV M' (.d (.bool b)) cv := hv
 exact ⟨by rw [hv.boolI], hp.os, hp.tape, hp.output, hp.size, fun b hb => hp.keep b hb (fun ⟨i, blk, r, hi, _⟩ => by simp at hi)⟩
end Go.Proofs.Ytdnefcjbcieecaa
namespace Go.Proofs.Ytdnefcjbcieecaa
open Go Go.ChangeShapes Go.WideShapes Go.ChangeAt Go.RowKit
def fieldAt (P : Program) (T : TypeId) (i : Nat) : Option (TypeId × Nat × Nat) := match P.underlying T with
 | some (.struct fs) => (fs[i]?).map fun f => (f.type, f.offset, P.cellsOf f.type)
 | _ => none
def isSlice (P : Program) (T e : TypeId) : Bool := match P.underlying T with
 | some (.slice t) => t == e
 | _ => false
noncomputable def isIntT (P : Program) (T : TypeId) : Nat := match P.underlying T with
 | some (.int k) => kn k + 1
 | _ => 0
theorem isSlice_eq {P : Program} {T e : TypeId} (h : isSlice P T e = true) : P.underlying T = some (.slice e) := by
 unfold isSlice at h
 split at h
 ·rename_i hu; rw [hu, eq_of_beq h]
 ·cases h
theorem isIntT_eq {P : Program} {T : TypeId} {k : IntKind} (h : isIntT P T = kn k + 1) : P.underlying T = some (.int k) := by
 unfold isIntT at h
 split at h
 ·rename_i k' hu
  rw [hu]
  have h2 : kn k' = kn k := by omega
  have h3 : k' = k := kn_inj (by rw [h2]; exact Nat.beq_refl _)
  rw [h3]
 ·omega
section
variable {H : Type} {enc : TypeId × Value → H} {w : World} {spare : Nat → Bool} {held : Bool}
theorem int_sound {P : Program} {T : TypeId} {k : IntKind} {fuel : Nat} {cs : List Value} {x : DataW H × List MemPlace} (hT : isIntT P T = kn k + 1) (hx : DataW.trod enc P w 0 spare held fuel T cs = some x) :
  ∃ n, cs = [.int k n] ∧ (Lit.int k n).wf = true := by
 obtain ⟨n, h1, _, h2⟩ := DataW.trod_int (isIntT_eq hT) hx
 exact ⟨n, h1, h2⟩
theorem listI_sound {fuel : Nat} {cs : List Value} {x : DataW H × List MemPlace} (hx : DataW.trod enc Try.prog w 0 spare held fuel 22 cs = some x) :
  ∃ (l : List Int) (v : Value), cs = [v] ∧ RepD (memOf Try.prog w).ro (dsl eI l) v ∧ l.length ≤ maxLen := by
 obtain ⟨rows, v, h1, h2, h3, h4⟩ := slice_sound (ks := [.i64]) (m := 3) (isSlice_eq (e := 3) (by kernel_rfl)) (by kernel_rfl) (by kernel_rfl) (by decide) hx
 obtain ⟨l, hl, he⟩ := rows1 fun r hr => (h4 r hr).1
 exact ⟨l, v, h1, by unfold dsl; rw [hl, ← he]; exact h2, by omega⟩
end
theorem keptBut_of_old {w w' : World} {may : MemPlace → Prop} (h1 : w'.os = w.os) (h2 : w'.output = w.output) (h3 : ∀ b, b < w.heap.size → w'.heap[b]? = w.heap[b]?) : w.keptBut w' may := by
 refine ⟨h1, h2, fun i hi => ?_⟩
 rw [h3 i hi]
 split
 ·rename_i c t fr c' t' fr' e1 e2
  rw [e1] at e2; cases e2
  exact ⟨rfl, rfl, rfl, fun _ _ => rfl⟩
 ·rename_i es k es' k' e1 e2
  rw [e1] at e2; cases e2
  exact .inr ⟨rfl, rfl⟩
 ·rfl
theorem ownsNothing : ownKnob Try.prog.godebug = none := by kernel_rfl
theorem try_laid : laidOutB Try.prog = true := by kernel_rfl
theorem repL_nil (M : Mem) : RepL M [] [] := ⟨rfl, fun k v c h => by simp at h⟩
theorem repL_cons {M : Mem} {v : V} {c : Value} {vs : List V} {cs : List Value} (h : RepV M v c) (hs : RepL M vs cs) : RepL M (v :: vs) (c :: cs) := by
 refine ⟨by simp [hs.1], fun k a b ha hb => ?_⟩
 cases k with
 | zero => cases ha; cases hb; exact h
 | succ k => exact hs.2 k a b (by simpa using ha) (by simpa using hb)
theorem try_kids : Kids Try.prog (· < Try.prog.types.size) := kids_rows try_laid (by kernel_rfl)
theorem try_full : ∀ t e, t < Try.prog.types.size → Try.prog.underlying t = some (.slice e) → 0 < Try.prog.cellsOf e := slices_full_of Try.prog (by kernel_rfl)
theorem it5 : isIntT Try.prog 5 = kn .u8 + 1 := by kernel_rfl
theorem is22 : isSlice Try.prog 22 3 = true := by kernel_rfl
section
variable {H : Type} {enc : TypeId × Value → H} {W : World} {base : Nat}
set_option maxRecDepth 100000 in
theorem arg_u8 {v : Value} {d : DataW H} {p : List MemPlace} (hok : Value.okWide Try.prog W .any base 5 v) (ht : DataW.Trod enc Try.prog W 0 (fun _ => true) true 5 v d p) : ∃ n : Int, RepV (memOf Try.prog W) (.d (.int .u8 n)) v ∧ 0 ≤ n ∧ n ≤ 255 := by
 obtain ⟨n, rfl⟩ := okWide_int (isIntT_eq it5) hok
 obtain ⟨fuel, hx⟩ := ht
 obtain ⟨m, h1, h2⟩ := int_sound it5 hx
 cases h1
 exact ⟨n, .d _ _ (.int _ _), bounds_u8 h2⟩
set_option maxRecDepth 100000 in
theorem arg_ints {v : Value} {d : DataW H} {p : List MemPlace} (hok : Value.okWide Try.prog W .any base 22 v) (ht : DataW.Trod enc Try.prog W 0 (fun _ => true) true 22 v d p) : ∃ l : List Int, RepV (memOf Try.prog W) (vsl eI l) v ∧ l.length ≤ maxLen := by
 obtain ⟨a, len, cap, rfl⟩ := okWide_slice (isSlice_eq is22) hok
 obtain ⟨fuel, hx⟩ := ht
 obtain ⟨l, v, h1, h2, h3⟩ := listI_sound hx
 cases h1
 exact ⟨l, .d _ _ h2, h3⟩
end
end Go.Proofs.Ytdnefcjbcieecaa
namespace Go.Proofs.Ytdnefcjbcieecaa
open Go Go.ChangeShapes Go.WideShapes Go.ChangeAt Go.RowKit
theorem bounds_u16 {n : Int} (h : (Lit.int .u16 n).wf = true) : 0 ≤ n ∧ n ≤ 65535 := by
 simp [Lit.wf, IntKind.min, IntKind.max, IntKind.signed, IntKind.bits] at h
 omega
theorem rows1W {rows : List (List Int)} (h : ∀ r ∈ rows, r.length = 1 ∧ ∀ (j : Nat) k n, ([IntKind.u16] : List IntKind)[j]? = some k → r[j]? = some n → (Lit.int k n).wf = true) : ∃ l : List Int, l.length = rows.length ∧ rows.flatMap (rowD [.u16]) = Go.Proofs.Ytdnefcjbcieecaa.enc eW l ∧ ∀ w ∈ l, 0 ≤ w ∧ w ≤ 65535 := by
 induction rows with
 | nil => exact ⟨[], rfl, rfl, fun w hw => by simp at hw⟩
 | cons r rows ih =>
  obtain ⟨l, h1, h2, h3⟩ := ih fun r hr => h r (by simp [hr])
  have hr := h r (by simp)
  match r, hr.1, hr.2 with
  | [a], _, hw =>
   refine ⟨a :: l, by simp [h1], by rw [List.flatMap_cons, h2]; rfl, fun w hm => ?_⟩
   rcases List.mem_cons.1 hm with rfl | hm
   ·exact bounds_u16 (hw 0 .u16 _ rfl rfl)
   ·exact h3 w hm
section
variable {H : Type} {enc : TypeId × Value → H} {w : World} {spare : Nat → Bool} {held : Bool}
theorem listW_sound {fuel : Nat} {cs : List Value} {x : DataW H × List MemPlace} (hx : DataW.trod enc Try.prog w 0 spare held fuel 66 cs = some x) :
  ∃ (l : List Int) (v : Value), cs = [v] ∧ RepD (memOf Try.prog w).ro (dsl eW l) v ∧ isWords l := by
 obtain ⟨rows, v, h1, h2, h3, h4⟩ := slice_sound (ks := [.u16]) (m := 3) (isSlice_eq (e := 144) (by kernel_rfl)) (by kernel_rfl) (by kernel_rfl) (by decide) hx
 obtain ⟨l, hl, he, hb⟩ := rows1W h4
 exact ⟨l, v, h1, by unfold dsl; rw [hl, ← he]; exact h2, Nat.zero_le _, hb⟩
end
theorem is66 : isSlice Try.prog 66 144 = true := by kernel_rfl
section
variable {H : Type} {enc : TypeId × Value → H} {W : World} {base : Nat}
set_option maxRecDepth 100000 in
theorem arg_words {v : Value} {d : DataW H} {p : List MemPlace} (hok : Value.okWide Try.prog W .any base 66 v) (ht : DataW.Trod enc Try.prog W 0 (fun _ => true) true 66 v d p) : ∃ l : List Int, RepV (memOf Try.prog W) (vsl eW l) v ∧ isWords l := by
 obtain ⟨a, len, cap, rfl⟩ := okWide_slice (isSlice_eq is66) hok
 obtain ⟨fuel, hx⟩ := ht
 obtain ⟨l, v, h1, h2, h3⟩ := listW_sound hx
 cases h1
 exact ⟨l, .d _ _ h2, h3⟩
end
end Go.Proofs.Ytdnefcjbcieecaa
