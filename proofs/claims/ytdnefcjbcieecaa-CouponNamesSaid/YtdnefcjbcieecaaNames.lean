/- CouponNames returns true, from every world in which a call may start; nothing that was there is changed. Conditions: those of the given row (closed statement without parameters). -/
import Derived.Test.YtdnefcjbcieecaaRows
import Derived.Test.YtdnefcjbcieecaaNm3
import Derived.ProofKit
import Derived.OpenShut
namespace Go.Proofs.Ytdnefcjbcieecaa
open Go.ChangeShapes Go.WideShapes Go.ChangeAt Go.RowKit

theorem ownsNothing : ownKnob Try.prog.godebug = none := by kernel_rfl

theorem keptBut_of_old {w w' : World} {may : MemPlace → Prop} (h1 : w'.os = w.os) (h2 : w'.output = w.output) (h3 : ∀ b, b < w.heap.size → w'.heap[b]? = w.heap[b]?) : w.keptBut w' may := by
  refine ⟨h1, h2, fun i hi => ?_⟩
  rw [h3 i hi]
  split
  · rename_i c t fr c' t' fr' e1 e2
    rw [e1] at e2; cases e2
    exact ⟨rfl, rfl, rfl, fun _ _ => rfl⟩
  · rename_i es k es' k' e1 e2
    rw [e1] at e2; cases e2
    exact .inr ⟨rfl, rfl⟩
  · rfl

set_option maxRecDepth 100000 in
theorem names_lifted (os : Os) (started : os.Started) (H : Type) (enc : TypeId × Value → H) :
    ReturnsInHanded {} Try.checked os 14 .any (Rows.couponNamesSpec.pre6 enc Try.prog Try.f14 Rows.couponNamesRow.domain false) (Rows.couponNamesSpec.post enc Try.prog Try.f14 false true false false) := by
  refine returnsInHanded_of_change (C := Try.checked) (s := Rows.couponNamesSpec) ownsNothing started (by kernel_rfl) Try.func14
    (ChangeSpec.witness6 (enc := enc) (C := Try.checked) (s := Rows.couponNamesSpec) false ⟨#[], #[], []⟩ 8 (by kernel_rfl) (by kernel_rfl) (by kernel_rfl) (by kernel_rfl)) ?_
  intro W base args ds gs before hval hW _ _
  have hW' := hW
  obtain ⟨p, q, hA0, hV, rfl, hfz, hnd⟩ := hW
  have hA : DataW.TrodAll enc Try.prog W 0 (fun _ => true) true Try.f14.params.toList args.toList ds p := hA0
  rw [Try.params14] at hA
  obtain ⟨rfl, rfl, rfl⟩ := trodAll_none hA
  obtain ⟨rfl, rfl⟩ := trodVars_none hV
  refine (calls_truth allNm W).mono fun e W' ⟨he, ho, _, hout, hsz, hold⟩ => ?_
  subst he
  refine ⟨_, rfl, [], [], [], [], [], [], hW', trodAll_mk1 (shut_bool (by kernel_rfl) true), trodAll_mk0, rfl, keptBut_of_old ho hout hold, fun h => by cases h⟩

theorem names : Rows.CouponNamesSaid :=
  OpenClaim.holds_of_wide 14 Try.f14 rfl rfl rfl rfl rfl rfl rfl ⟨rfl, rfl, rfl, rfl, rfl⟩ rfl rfl rfl rfl rfl (by kernel_rfl) Try.func14 (by kernel_rfl)
    (of_decide_eq_true (by kernel_rfl)) (by unfold Func.isWrapper; first | (rw [if_pos (by decide +kernel)]; kernel_rfl) | (rw [if_neg (by decide +kernel)]; exact ⟨rfl, rfl⟩))
    (fun os started H enc _ => names_lifted os started H enc)
end Go.Proofs.Ytdnefcjbcieecaa
