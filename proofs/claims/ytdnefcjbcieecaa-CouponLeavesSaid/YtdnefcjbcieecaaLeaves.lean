/- CouponLeaves returns true at every input, from every world in which a call may start; the input reads as it did. Conditions: those of the given row (none). -/
import Derived.Test.YtdnefcjbcieecaaPart9
import Derived.Test.YtdnefcjbcieecaaRows
set_option linter.unusedVariables false
set_option linter.unusedSimpArgs false
namespace Go.Proofs.Ytdnefcjbcieecaa
open Go.ChangeShapes Go.WideShapes Go.ChangeAt Go.RowKit
set_option maxRecDepth 100000 in
theorem couponLeaves_lifted (os : Os) (started : os.Started) (H : Type) (enc : TypeId × Value → H) :
  ReturnsInHanded {} Try.checked os 6 .any (Rows.couponLeavesSpec.pre6 enc Try.prog Try.f6 Rows.couponLeavesRow.domain false) (Rows.couponLeavesSpec.post enc Try.prog Try.f6 false true false false) := by
 refine returnsInHanded_of_change (C := Try.checked) (s := Rows.couponLeavesSpec) ownsNothing started (by kernel_rfl) Try.func6
  (ChangeSpec.witness6 (enc := enc) (C := Try.checked) (s := Rows.couponLeavesSpec) false ⟨#[], #[.agg #[.int .i64 0, .slice none 0 0, .slice none 0 0, .slice none 0 0, .slice none 0 0, .slice none 0 0]], []⟩ 8 (by kernel_rfl) (by kernel_rfl) (by kernel_rfl) (by kernel_rfl)) ?_
 intro W base args ds gs before hval hW _ _
 have hW' := hW
 obtain ⟨p, q, hA0, hV, rfl, hfz, hnd⟩ := hW
 have hA : DataW.TrodAll enc Try.prog W 0 (fun _ => true) true Try.f6.params.toList args.toList ds p := hA0
 obtain ⟨rfl, rfl⟩ := trodVars_none hV
 have hpar : Try.f6.params = #[28] := by kernel_rfl
 have hpl : Try.f6.params.toList = [28] := by rw [hpar]
 have hA2 := hA
 rw [hpl] at hA2
 obtain ⟨v0, vs0, d0, ds0, p0, q0, ha0, rfl, hp0, ht0, hr0⟩ := trodAll_cons hA2
 obtain ⟨e1, rfl, _⟩ := trodAll_nil hr0
 have hargs : args.toList = [v0] := by rw [ha0, e1]
 have hget : ∀ (j : Nat), args[j]? = [v0][j]? := fun j => by rw [← hargs, Array.getElem?_toList]
 obtain ⟨a0, r0, h0⟩ := arg_company (hval 0 28 v0 (by rw [hpar]; rfl) (by rw [hget]; rfl)) ht0
 have hrep : RepL (memOf Try.prog W) [Cv a0] args.toList := by
  rw [hargs]
  exact repL_cons r0 (repL_nil _)
 have hcall := calls_true (y6 a0) W hrep
 refine hcall.mono fun e W' ⟨he, ho, _, hout, hsz, hold⟩ => ?_
 subst he
 refine ⟨_, rfl, _, [], _, [], p, [], hW', trodAll_mk1 (shut_bool (by kernel_rfl) true), ?_, rfl, keptBut_of_old ho hout hold, fun h => by cases h⟩
 have := trodAll_old try_kids try_full (ts := Try.f6.params.toList) (by rw [hpl]; intro t ht; have hs : Try.prog.types.size = 170 := (by kernel_rfl); rw [hs]; exact of_decide_eq_true (List.all_eq_true.1 (show ([28] : List TypeId).all (fun t => decide (t < 170)) = true from rfl) t ht)) hA hold
 exact this
theorem couponLeaves_row : Rows.CouponLeavesSaid :=
 OpenClaim.holds_of_wide 6 Try.f6 rfl rfl rfl rfl rfl rfl rfl ⟨rfl, rfl, rfl, rfl, rfl⟩ rfl rfl rfl rfl rfl (by kernel_rfl) Try.func6 (by kernel_rfl)
  (of_decide_eq_true (by kernel_rfl)) (by unfold Func.isWrapper; first | (rw [if_pos (by decide +kernel)]; kernel_rfl) | (rw [if_neg (by decide +kernel)]; exact ⟨rfl, rfl⟩))
  (fun os started H enc _ => couponLeaves_lifted os started H enc)
end Go.Proofs.Ytdnefcjbcieecaa
