/- A part of the proof. -/
import Derived.Test.YtdnefcjbcieecaaPart9
set_option linter.unusedVariables false
set_option linter.unusedSimpArgs false
namespace Go.Proofs.Ytdnefcjbcieecaa
open Go Go.ChangeShapes Go.WideShapes Go.ChangeAt Go.RowKit
theorem bounds_u16 {n : Int} (h : (Lit.int .u16 n).wf = true) : 0 ≤ n ∧ n ≤ 65535 := by
  simp [Lit.wf, IntKind.min, IntKind.max, IntKind.signed, IntKind.bits] at h
  omega
theorem rows1W {rows : List (List Int)} (h : ∀ r ∈ rows, r.length = 1 ∧ ∀ (j : Nat) k n, ([IntKind.u16] : List IntKind)[j]? = some k → r[j]? = some n → (Lit.int k n).wf = true) : ∃ l : List Int, l.length = rows.length ∧ rows.flatMap (rowD [.u16]) = Go.Proofs.Ytdnefcjbcieecaa.enc eW l ∧ ∀ w ∈ l, 0 ≤ w ∧ w ≤ 65535 := by
  induction rows with
  | nil => exact ⟨[], rfl, rfl, fun w hw => by simp at hw⟩
  | cons r rows ih =>
    obtain ⟨l, h1, h2, h3⟩ := ih fun r hr => h r (by simp [hr])
    have hr := h r (by simp)
    match r, hr.1, hr.2 with
    | [a], _, hw =>
      refine ⟨a :: l, by simp [h1], by rw [List.flatMap_cons, h2]; rfl, fun w hm => ?_⟩
      rcases List.mem_cons.1 hm with rfl | hm
      · exact bounds_u16 (hw 0 .u16 _ rfl rfl)
      · exact h3 w hm
section
variable {H : Type} {enc : TypeId × Value → H} {w : World} {spare : Nat → Bool} {held : Bool}
theorem listW_sound {fuel : Nat} {cs : List Value} {x : DataW H × List MemPlace} (hx : DataW.trod enc Try.prog w 0 spare held fuel 66 cs = some x) :
    ∃ (l : List Int) (v : Value), cs = [v] ∧ RepD (memOf Try.prog w).ro (dsl eW l) v ∧ isWords l := by
  obtain ⟨rows, v, h1, h2, h3, h4⟩ := slice_sound (ks := [.u16]) (m := 3) (isSlice_eq (e := 144) (by kernel_rfl)) (by kernel_rfl) (by kernel_rfl) (by decide) hx
  obtain ⟨l, hl, he, hb⟩ := rows1W h4
  exact ⟨l, v, h1, by unfold dsl; rw [hl, ← he]; exact h2, Nat.zero_le _, hb⟩
end
theorem is66 : isSlice Try.prog 66 144 = true := by kernel_rfl
section
variable {H : Type} {enc : TypeId × Value → H} {W : World} {base : Nat}
set_option maxRecDepth 100000 in
theorem arg_words {v : Value} {d : DataW H} {p : List MemPlace} (hok : Value.okWide Try.prog W .any base 66 v) (ht : DataW.Trod enc Try.prog W 0 (fun _ => true) true 66 v d p) : ∃ l : List Int, RepV (memOf Try.prog W) (vsl eW l) v ∧ isWords l := by
  obtain ⟨a, len, cap, rfl⟩ := okWide_slice (isSlice_eq is66) hok
  obtain ⟨fuel, hx⟩ := ht
  obtain ⟨l, v, h1, h2, h3⟩ := listW_sound hx
  cases h1
  exact ⟨l, .d _ _ h2, h3⟩
end
end Go.Proofs.Ytdnefcjbcieecaa
