/- CouponTruth returns true at every input, from every world in which a call may start; the input reads as it did. Conditions: those of the given row (none). -/
import Derived.Test.YtdnefcjbcieecaaPart11
import Derived.Test.YtdnefcjbcieecaaRows
set_option linter.unusedVariables false
set_option linter.unusedSimpArgs false
namespace Go.Proofs.Ytdnefcjbcieecaa
open Go.ChangeShapes Go.WideShapes Go.ChangeAt Go.RowKit
set_option maxRecDepth 100000 in
theorem couponTruth_lifted (os:Os) (started:os.Started) (H:Type) (enc:TypeId × Value → H) :
  ReturnsInHanded {} Try.checked os 15 .any (Rows.couponTruthSpec.pre6 enc Try.prog Try.f15 Rows.couponTruthRow.domain false) (Rows.couponTruthSpec.post enc Try.prog Try.f15 false true false false) := by
 refine returnsInHanded_of_change (C := Try.checked) (s := Rows.couponTruthSpec) ownsNothing started (by kernel_rfl) Try.func15
  (ChangeSpec.witness6 (enc := enc) (C := Try.checked) (s := Rows.couponTruthSpec) false ⟨#[], #[.slice none 0 0,.slice none 0 0,.int .u8 0,.int .u8 0],[]⟩ 8 (by kernel_rfl) (by kernel_rfl) (by kernel_rfl) (by kernel_rfl)) ?_
 intro W base args ds gs before hval hW _ _
 have hW' := hW
 obtain ⟨p,q,hA0,hV,rfl,hfz,hnd⟩ := hW
 have hA:DataW.TrodAll enc Try.prog W 0 (fun _ => true) true Try.f15.params.toList args.toList ds p := hA0
 obtain ⟨rfl,rfl⟩ := trodVars_none hV
 have hpar:Try.f15.params = #[22,66,5,5] := by kernel_rfl
 have hpl:Try.f15.params.toList = [22,66,5,5] := by rw [hpar]
 have hA2 := hA
 rw [hpl] at hA2
 obtain ⟨v0,vs0,d0,ds0,p0,q0,ha0,rfl,hp0,ht0,hr0⟩ := trodAll_cons hA2
 obtain ⟨v1,vs1,d1,ds1,p1,q1,ha1,rfl,hp1,ht1,hr1⟩ := trodAll_cons hr0
 obtain ⟨v2,vs2,d2,ds2,p2,q2,ha2,rfl,hp2,ht2,hr2⟩ := trodAll_cons hr1
 obtain ⟨v3,vs3,d3,ds3,p3,q3,ha3,rfl,hp3,ht3,hr3⟩ := trodAll_cons hr2
 obtain ⟨e1,rfl,_⟩ := trodAll_nil hr3
 have hargs:args.toList = [v0,v1,v2,v3] := by rw [ha0,ha1,ha2,ha3,e1]
 have hget:∀ (j:Nat),args[j]? = [v0,v1,v2,v3][j]? := fun j => by rw [← hargs,Array.getElem?_toList]
 obtain ⟨a0,r0,h0⟩ := arg_ints (hval 0 22 v0 (by rw [hpar]; rfl) (by rw [hget]; rfl)) ht0
 obtain ⟨a1,r1,h1⟩ := arg_words (hval 1 66 v1 (by rw [hpar]; rfl) (by rw [hget]; rfl)) ht1
 obtain ⟨a2,r2,h2⟩ := arg_u8 (hval 2 5 v2 (by rw [hpar]; rfl) (by rw [hget]; rfl)) ht2
 obtain ⟨a3,r3,h3⟩ := arg_u8 (hval 3 5 v3 (by rw [hpar]; rfl) (by rw [hget]; rfl)) ht3
 have hrep:RepL (memOf Try.prog W) [vsl eI a0,vsl eW a1,.d (.int .u8 a2),.d (.int .u8 a3)] args.toList := by
  rw [hargs]
  exact repL_cons r0 (repL_cons r1 (repL_cons r2 (repL_cons r3 (repL_nil _))))
 have hcall := calls_true (y15 a0 a1 a2 a3 h1 h2.1 h2.2 h3.1 h3.2) W hrep
 refine hcall.mono fun e W' ⟨he,ho,_,hout,hsz,hold⟩ => ?_
 subst he
 refine ⟨_,rfl,_,[],_,[],p,[],hW',trodAll_mk1 (shut_bool (by kernel_rfl) true), ?_,rfl,keptBut_of_old ho hout hold,fun h => by cases h⟩
 have := trodAll_old try_kids try_full (ts := Try.f15.params.toList) (by rw [hpl]; intro t ht; have hs:Try.prog.types.size = 170 := (by kernel_rfl); rw [hs]; exact of_decide_eq_true (List.all_eq_true.1 (show ([22,66,5,5]:List TypeId).all (fun t => decide (t < 170)) = true from rfl) t ht)) hA hold
 exact this
theorem couponTruth_row:Rows.CouponTruthSaid :=
 OpenClaim.holds_of_wide 15 Try.f15 rfl rfl rfl rfl rfl rfl rfl ⟨rfl,rfl,rfl,rfl,rfl⟩ rfl rfl rfl rfl rfl (by kernel_rfl) Try.func15 (by kernel_rfl)
  (of_decide_eq_true (by kernel_rfl)) (by unfold Func.isWrapper; first | (rw [if_pos (by decide +kernel)]; kernel_rfl) | (rw [if_neg (by decide +kernel)]; exact ⟨rfl,rfl⟩))
  (fun os started H enc _ => couponTruth_lifted os started H enc)
end Go.Proofs.Ytdnefcjbcieecaa
