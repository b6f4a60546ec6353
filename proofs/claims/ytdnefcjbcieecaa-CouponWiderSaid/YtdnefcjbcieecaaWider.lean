/- CouponWider returns true at every input, from every world in which a call may start; the input reads as it did. Conditions: those of the given row (none). -/
import Derived.Test.YtdnefcjbcieecaaPart11
import Derived.Test.YtdnefcjbcieecaaRows
set_option linter.unusedVariables false
set_option linter.unusedSimpArgs false
namespace Go.Proofs.Ytdnefcjbcieecaa
open Go.ChangeShapes Go.WideShapes Go.ChangeAt Go.RowKit
set_option maxRecDepth 100000 in
theorem couponWider_lifted (os:Os) (started:os.Started) (H:Type) (enc:TypeId × Value → H) :
  ReturnsInHanded {} Try.checked os 16 .any (Rows.couponWiderSpec.pre6 enc Try.prog Try.f16 Rows.couponWiderRow.domain false) (Rows.couponWiderSpec.post enc Try.prog Try.f16 false true false false) := by
 refine returnsInHanded_of_change (C := Try.checked) (s := Rows.couponWiderSpec) ownsNothing started (by kernel_rfl) Try.func16
  (ChangeSpec.witness6 (enc := enc) (C := Try.checked) (s := Rows.couponWiderSpec) false ⟨#[], #[.slice none 0 0,.slice none 0 0,.int .u8 0,.int .u8 0,.int .u8 0,.int .u8 0,.int .u8 0,.int .u8 0],[]⟩ 8 (by kernel_rfl) (by kernel_rfl) (by kernel_rfl) (by kernel_rfl)) ?_
 intro W base args ds gs before hval hW _ _
 have hW' := hW
 obtain ⟨p,q,hA0,hV,rfl,hfz,hnd⟩ := hW
 have hA:DataW.TrodAll enc Try.prog W 0 (fun _ => true) true Try.f16.params.toList args.toList ds p := hA0
 obtain ⟨rfl,rfl⟩ := trodVars_none hV
 have hpar:Try.f16.params = #[22,66,5,5,5,5,5,5] := by kernel_rfl
 have hpl:Try.f16.params.toList = [22,66,5,5,5,5,5,5] := by rw [hpar]
 have hA2 := hA
 rw [hpl] at hA2
 obtain ⟨v0,vs0,d0,ds0,p0,q0,ha0,rfl,hp0,ht0,hr0⟩ := trodAll_cons hA2
 obtain ⟨v1,vs1,d1,ds1,p1,q1,ha1,rfl,hp1,ht1,hr1⟩ := trodAll_cons hr0
 obtain ⟨v2,vs2,d2,ds2,p2,q2,ha2,rfl,hp2,ht2,hr2⟩ := trodAll_cons hr1
 obtain ⟨v3,vs3,d3,ds3,p3,q3,ha3,rfl,hp3,ht3,hr3⟩ := trodAll_cons hr2
 obtain ⟨v4,vs4,d4,ds4,p4,q4,ha4,rfl,hp4,ht4,hr4⟩ := trodAll_cons hr3
 obtain ⟨v5,vs5,d5,ds5,p5,q5,ha5,rfl,hp5,ht5,hr5⟩ := trodAll_cons hr4
 obtain ⟨v6,vs6,d6,ds6,p6,q6,ha6,rfl,hp6,ht6,hr6⟩ := trodAll_cons hr5
 obtain ⟨v7,vs7,d7,ds7,p7,q7,ha7,rfl,hp7,ht7,hr7⟩ := trodAll_cons hr6
 obtain ⟨e1,rfl,_⟩ := trodAll_nil hr7
 have hargs:args.toList = [v0,v1,v2,v3,v4,v5,v6,v7] := by rw [ha0,ha1,ha2,ha3,ha4,ha5,ha6,ha7,e1]
 have hget:∀ (j:Nat),args[j]? = [v0,v1,v2,v3,v4,v5,v6,v7][j]? := fun j => by rw [← hargs,Array.getElem?_toList]
 obtain ⟨a0,r0,h0⟩ := arg_ints (hval 0 22 v0 (by rw [hpar]; rfl) (by rw [hget]; rfl)) ht0
 obtain ⟨a1,r1,h1⟩ := arg_words (hval 1 66 v1 (by rw [hpar]; rfl) (by rw [hget]; rfl)) ht1
 obtain ⟨a2,r2,h2⟩ := arg_u8 (hval 2 5 v2 (by rw [hpar]; rfl) (by rw [hget]; rfl)) ht2
 obtain ⟨a3,r3,h3⟩ := arg_u8 (hval 3 5 v3 (by rw [hpar]; rfl) (by rw [hget]; rfl)) ht3
 obtain ⟨a4,r4,h4⟩ := arg_u8 (hval 4 5 v4 (by rw [hpar]; rfl) (by rw [hget]; rfl)) ht4
 obtain ⟨a5,r5,h5⟩ := arg_u8 (hval 5 5 v5 (by rw [hpar]; rfl) (by rw [hget]; rfl)) ht5
 obtain ⟨a6,r6,h6⟩ := arg_u8 (hval 6 5 v6 (by rw [hpar]; rfl) (by rw [hget]; rfl)) ht6
 obtain ⟨a7,r7,h7⟩ := arg_u8 (hval 7 5 v7 (by rw [hpar]; rfl) (by rw [hget]; rfl)) ht7
 have hrep:RepL (memOf Try.prog W) [vsl eI a0,vsl eW a1,.d (.int .u8 a2),.d (.int .u8 a3),.d (.int .u8 a4),.d (.int .u8 a5),.d (.int .u8 a6),.d (.int .u8 a7)] args.toList := by
  rw [hargs]
  exact repL_cons r0 (repL_cons r1 (repL_cons r2 (repL_cons r3 (repL_cons r4 (repL_cons r5 (repL_cons r6 (repL_cons r7 (repL_nil _))))))))
 have hcall := calls_true (y16 a0 a1 a2 a3 a4 a5 a6 a7 h1 h2.1 h2.2 h3.1 h3.2 h4.1 h4.2 h5.1 h5.2 h6.1 h6.2 h7.1 h7.2) W hrep
 refine hcall.mono fun e W' ⟨he,ho,_,hout,hsz,hold⟩ => ?_
 subst he
 refine ⟨_,rfl,_,[],_,[],p,[],hW',trodAll_mk1 (shut_bool (by kernel_rfl) true), ?_,rfl,keptBut_of_old ho hout hold,fun h => by cases h⟩
 have := trodAll_old try_kids try_full (ts := Try.f16.params.toList) (by rw [hpl]; intro t ht; have hs:Try.prog.types.size = 170 := (by kernel_rfl); rw [hs]; exact of_decide_eq_true (List.all_eq_true.1 (show ([22,66,5,5,5,5,5,5]:List TypeId).all (fun t => decide (t < 170)) = true from rfl) t ht)) hA hold
 exact this
theorem couponWider_row:Rows.CouponWiderSaid :=
 OpenClaim.holds_of_wide 16 Try.f16 rfl rfl rfl rfl rfl rfl rfl ⟨rfl,rfl,rfl,rfl,rfl⟩ rfl rfl rfl rfl rfl (by kernel_rfl) Try.func16 (by kernel_rfl)
  (of_decide_eq_true (by kernel_rfl)) (by unfold Func.isWrapper; first | (rw [if_pos (by decide +kernel)]; kernel_rfl) | (rw [if_neg (by decide +kernel)]; exact ⟨rfl,rfl⟩))
  (fun os started H enc _ => couponWider_lifted os started H enc)
end Go.Proofs.Ytdnefcjbcieecaa
