/- Draw regions: from one order to all orders. -/
import Derived.Test.YtdnefcjbcieecaaCoreN
import Derived.Orders
set_option linter.unusedVariables false
set_option linter.unusedSimpArgs false
namespace Go.Proofs.Ytdnefcjbcieecaa
open Go

theorem partsV_congr {ρ ρ' : Operand → V} : ∀ (ps : List (Nat × Nat × Operand)), (∀ x ∈ ps.map (·.2.2), ρ x = ρ' x) → partsV ρ ps = partsV ρ' ps
  | [], _ => rfl
  | (a, b, x) :: ps, h => by
    have h1 : ρ x = ρ' x := h x (by simp)
    have h2 := partsV_congr ps (fun y hy => h y (by simp at hy ⊢; exact .inr hy))
    simp only [partsV, h1, h2]
theorem partsD_congr {ρ ρ' : Operand → V} (sz : Nat) : ∀ (ps : List (Nat × Operand)), (∀ x ∈ ps.map (·.2), ρ x = ρ' x) → partsD ρ sz ps = partsD ρ' sz ps
  | [], _ => rfl
  | (a, x) :: ps, h => by
    have h1 : ρ x = ρ' x := h x (by simp)
    have h2 := partsD_congr sz ps (fun y hy => h y (by simp at hy ⊢; exact .inr hy))
    simp only [partsD, h1, h2]

theorem evOp_congr {c : COp} {ρ ρ' : Operand → V} (h : Heap) (hx : ∀ x ∈ opsC c, ρ x = ρ' x) : evOp c ρ h = evOp c ρ' h := by
  cases c with
  | build z ps => simp only [evOp, partsV_congr ps hx]
  | bslice own e sz len z ps => cases own <;> simp only [evOp, partsD_congr sz ps hx]
  | box own x => cases own <;> simp only [evOp, hx x (by simp [opsC])]
  | mkfn f a c =>
    have h1 : a.map ρ = a.map ρ' := List.map_congr_left fun x hm => hx x (by simp [opsC, hm])
    have h2 : c.map ρ = c.map ρ' := List.map_congr_left fun x hm => hx x (by simp [opsC, hm])
    simp only [evOp, h1, h2]
  | min xs =>
    have h1 : xs.map ρ = xs.map ρ' := List.map_congr_left fun x hm => hx x hm
    simp only [evOp, h1]
  | max xs =>
    have h1 : xs.map ρ = xs.map ρ' := List.map_congr_left fun x hm => hx x hm
    simp only [evOp, h1]
  | sliceS sz x lo hi mx =>
    have h0 : ρ x = ρ' x := hx x (by simp [opsC])
    have h1 : lo.map ρ = lo.map ρ' := by cases lo with | none => rfl | some y => simp [hx y (by simp [opsC, listO])]
    have h2 : hi.map ρ = hi.map ρ' := by cases hi with | none => rfl | some y => simp [hx y (by simp [opsC, listO])]
    have h3 : mx.map ρ = mx.map ρ' := by cases mx with | none => rfl | some y => simp [hx y (by simp [opsC, listO])]
    simp only [evOp, h0, h1, h2, h3]
  | store k x v => simp only [evOp, hx x (by simp [opsC]), hx v (by simp [opsC])]
  | bin op x y => simp only [evOp, hx x (by simp [opsC]), hx y (by simp [opsC])]
  | indexS sz x y => simp only [evOp, hx x (by simp [opsC]), hx y (by simp [opsC])]
  | indexA l sz x y => simp only [evOp, hx x (by simp [opsC]), hx y (by simp [opsC])]
  | append o e sz b x y => simp only [evOp, hx x (by simp [opsC]), hx y (by simp [opsC])]
  | pick c a b => rfl
  | alloc z => rfl
  | lenArr m => rfl
  | sliceA l sz x lo hi =>
    have h0 : ρ x = ρ' x := hx x (by simp [opsC])
    have h1 : lo.map ρ = lo.map ρ' := by cases lo with | none => rfl | some y => simp [hx y (by simp [opsC, listO])]
    have h2 : hi.map ρ = hi.map ρ' := by cases hi with | none => rfl | some y => simp [hx y (by simp [opsC, listO])]
    simp only [evOp, h0, h1, h2]
  | bad => rfl
  | mkmap => rfl
  | isNil k neg x => simp only [evOp, hx x (by simp [opsC])]
  | binB neg x y => simp only [evOp, hx x (by simp [opsC]), hx y (by simp [opsC])]
  | binS op x y => simp only [evOp, hx x (by simp [opsC]), hx y (by simp [opsC])]
  | eqA neg sh x y => simp only [evOp, hx x (by simp [opsC]), hx y (by simp [opsC])]
  | lookup a s z ok x k => simp only [evOp, hx x (by simp [opsC]), hx k (by simp [opsC])]
  | mupd a s x k v => simp only [evOp, hx x (by simp [opsC]), hx k (by simp [opsC]), hx v (by simp [opsC])]
  | mkslice e sz b z l c => simp only [evOp, hx l (by simp [opsC]), hx c (by simp [opsC])]
  | panic x => rfl
  | move x => simp only [evOp, hx x (by simp [opsC])]
  | load g x => simp only [evOp, hx x (by simp [opsC])]
  | un op x => simp only [evOp, hx x (by simp [opsC])]
  | conv k x => simp only [evOp, hx x (by simp [opsC])]
  | fieldAddr o x => simp only [evOp, hx x (by simp [opsC])]
  | field g o x => simp only [evOp, hx x (by simp [opsC])]
  | extract x k => simp only [evOp, hx x (by simp [opsC])]
  | nilCheck x => simp only [evOp, hx x (by simp [opsC])]
  | len x => simp only [evOp, hx x (by simp [opsC])]
  | lenStr x => simp only [evOp, hx x (by simp [opsC])]

/-- What the heap is behind an operation. -/
theorem evOp_kind {c : COp} {ρ : Operand → V} {h h' : Heap} {p : DP} {v : V} (he : evOp c ρ h = some (p, v, h')) :
    (kindC c ≤ 1 → h' = h) ∧ (kindC c ≤ 2 → HLe h h') := by
  have same : h' = h → (kindC c ≤ 1 → h' = h) ∧ (kindC c ≤ 2 → HLe h h') := fun e => ⟨fun _ => e, fun _ => e ▸ HLe.refl h⟩
  have ext : ∀ t, h' = h ++ t → 2 ≤ kindC c → (kindC c ≤ 1 → h' = h) ∧ (kindC c ≤ 2 → HLe h h') := fun t e hk => ⟨fun hl => by omega, fun _ => e ▸ HLe.append h t⟩
  cases c with
  | move x => cases he; exact same rfl
  | pick c a b => cases he
  | alloc z => cases he; exact ext _ rfl (by simp [kindC])
  | box own x =>
    cases own with
    | true => obtain ⟨cs, hc, he⟩ := map_some' he; cases he; exact ext _ rfl (by simp [kindC])
    | false =>
      simp only [evOp] at he
      split at he
      · cases he; exact ⟨fun _ => rfl, fun _ => HLe.refl h⟩
      · obtain ⟨cs, hc, he⟩ := map_some' he; cases he; exact ext _ rfl (by simp [kindC])
  | build z ps => obtain ⟨qs, hc, he⟩ := map_some' he; cases he; exact same rfl
  | bslice own e sz len z ps =>
    cases own with
    | true => obtain ⟨qs, hc, he⟩ := map_some' he; cases he; exact ext _ rfl (by simp [kindC])
    | false => obtain ⟨qs, hc, he⟩ := map_some' he; cases he; exact same rfl
  | store k x v => exact ⟨fun h => by simp [kindC] at h, fun h => by simp [kindC] at h⟩
  | mkfn f a c => cases he; exact same rfl
  | lenArr m => cases he; exact same rfl
  | append own e sz bytes x y =>
    simp only [evOp, evApp] at he
    split at he
    · cases he
    · split at he
      · cases he; exact same rfl
      · cases he; exact same rfl
      · cases he; exact ext _ rfl (by simp [kindC])
      · split at he
        · cases he; exact ⟨fun h => by simp [kindC] at h, fun _ => HLe.refl h⟩
        · cases he; exact ext _ rfl (by simp [kindC])
      · cases he
  | min xs => obtain ⟨qs, hc, he⟩ := map_some' he; cases he; exact same rfl
  | max xs => obtain ⟨qs, hc, he⟩ := map_some' he; cases he; exact same rfl
  | sliceA l sz x lo hi => obtain ⟨v, hv, he⟩ := map_some' he; cases he; exact same rfl
  | bad => cases he
  | mkmap => cases he; exact ext _ rfl (by simp [kindC])
  | isNil k neg x => obtain ⟨v, hv, he⟩ := map_some' he; cases he; exact same rfl
  | binB neg x y => obtain ⟨v, hv, he⟩ := map_some' he; cases he; exact same rfl
  | binS op x y => obtain ⟨v, hv, he⟩ := map_some' he; cases he; exact same rfl
  | eqA neg sh x y => obtain ⟨v, hv, he⟩ := map_some' he; cases he; exact same rfl
  | lookup a s z ok x k => exact ⟨fun h => by simp [kindC] at h, fun h => by simp [kindC] at h⟩
  | mupd a s x k v => exact ⟨fun h => by simp [kindC] at h, fun h => by simp [kindC] at h⟩
  | mkslice e sz b z l c =>
    obtain ⟨q, hv, he⟩ := map_some' he
    cases he
    unfold evMk at hv
    split at hv
    · split at hv
      · cases hv; exact ext _ rfl (by simp [kindC])
      · cases hv
    · cases hv
  | panic x => cases he
  | load g x => exact same (inH_some he).2
  | bin op x y => exact same (inH_some he).2
  | un op x => exact same (inH_some he).2
  | conv k x => exact same (inH_some he).2
  | fieldAddr o x => exact same (inH_some he).2
  | field g o x => exact same (inH_some he).2
  | indexS sz x i => exact same (inH_some he).2
  | indexA l sz x i => exact same (inH_some he).2
  | extract x k => exact same (inH_some he).2
  | nilCheck x => exact same (inH_some he).2
  | len x => exact same (inH_some he).2
  | lenStr x => exact same (inH_some he).2
  | sliceS sz x lo hi mx => exact same (inH_some he).2

theorem getElem?_ext {h t : Heap} {id : Nat} {b : Option Blk} (hb : h[id]? = some b) : (h ++ t)[id]? = some b := by
  rw [List.getElem?_append_left]
  · exact hb
  · exact (List.getElem?_eq_some_iff.1 hb).1
theorem cell_ext {h h' : Heap} (hl : HLe h h') {id g off : Nat} {v : V} (hc : h.cell id g off = some v) : Heap.cell h' id g off = some v := by
  unfold Heap.cell at *
  split at hc
  · rename_i cs hb; rw [hl _ _ hb rfl]; exact hc
  · rename_i e sz g' ds hb; rw [hl _ _ hb rfl]; exact hc
  · cases hc
theorem cells_ext {h h' : Heap} (hl : HLe h h') {id g off k : Nat} {v : List V} (hc : h.cells id g off k = some v) : Heap.cells h' id g off k = some v := by
  unfold Heap.cells at *
  split at hc
  · rename_i cs hb; rw [hl _ _ hb rfl]; exact hc
  · rename_i e sz g' ds hb; rw [hl _ _ hb rfl]; exact hc
  · cases hc
theorem conts_ext {h h' : Heap} (hl : HLe h h') {x : V} {q : Nat × List D} (hc : conts h x = some q) : conts h' x = some q := by
  unfold conts at *
  split at hc
  · exact hc
  · exact hc
  · split at hc
    · rename_i e sz g' ds hb; simp only [hl _ _ hb rfl]; exact hc
    · cases hc
  · cases hc

theorem inH_inv {h h2 : Heap} {o : Option (DP × V)} {p : DP} {v : V} (hh : inH h o = some (p, v, h2)) (h' : Heap) : inH h' o = some (p, v, h') := by
  obtain ⟨rfl, _⟩ := inH_some hh
  rfl

/-- A reading operation reads the same in a longer heap; one that does not read, in any. -/
theorem evOp_heap {c : COp} {ρ : Operand → V} {h h2 h' : Heap} {p : DP} {v : V} (he : evOp c ρ h = some (p, v, h2)) (hp : p.P) (hk : kindC c = 0 ∨ (kindC c ≤ 1 ∧ HLe h h')) :
    ∃ p', evOp c ρ h' = some (p', v, h') ∧ p'.P := by
  have bad : ¬ kindC c ≤ 1 → ∃ p', evOp c ρ h' = some (p', v, h') ∧ p'.P := fun hn => by rcases hk with hk | hk <;> omega
  cases c with
  | move x => cases he; exact ⟨_, rfl, hp⟩
  | pick c a b => cases he
  | alloc z => exact bad (by simp [kindC])
  | box own x => exact bad (by simp [kindC])
  | build z ps => obtain ⟨qs, hc, he⟩ := map_some' he; cases he; exact ⟨_, by simp only [evOp, hc]; rfl, hp⟩
  | bslice own e sz len z ps =>
    cases own with
    | true => exact bad (by simp [kindC])
    | false => obtain ⟨qs, hc, he⟩ := map_some' he; cases he; exact ⟨_, by simp only [evOp, hc]; rfl, hp⟩
  | store k x v => exact bad (by simp [kindC])
  | mkfn f a c => cases he; exact ⟨_, rfl, hp⟩
  | lenArr m => cases he; exact ⟨_, rfl, hp⟩
  | append own e sz bytes x y =>
    cases own with
    | true => exact bad (by simp [kindC])
    | false =>
      rcases hk with hk | ⟨_, hle⟩
      · simp [kindC] at hk
      simp only [evOp, evApp] at he
      split at he
      · cases he
      · rename_i q hq
        simp only [evOp, evApp, conts_ext hle hq]
        split at he
        · cases he; exact ⟨_, rfl, hp⟩
        · cases he; exact ⟨_, rfl, hp⟩
        · rename_i e1 _; cases e1
        · rename_i e1 _; cases e1
        · cases he
  | min xs => obtain ⟨qs, hc, he⟩ := map_some' he; cases he; exact ⟨_, by simp only [evOp, hc]; rfl, hp⟩
  | max xs => obtain ⟨qs, hc, he⟩ := map_some' he; cases he; exact ⟨_, by simp only [evOp, hc]; rfl, hp⟩
  | sliceA l sz x lo hi => obtain ⟨v, hv, he⟩ := map_some' he; cases he; exact ⟨_, by simp only [evOp, hv]; rfl, hp⟩
  | bad => cases he
  | mkmap => exact bad (by simp [kindC])
  | isNil k neg x =>
    rcases hk with hk | ⟨_, hle⟩
    · simp [kindC] at hk
    obtain ⟨v, hv, he⟩ := map_some' he
    cases he
    have : evIsNil k (ρ x) h' = some v := by
      unfold evIsNil at hv ⊢
      split at hv
      · unfold evNilS at hv ⊢
        split at hv
        · exact hv
        · exact hv
        · split at hv
          · rename_i hb; simp only [hle _ _ hb rfl]; exact hv
          · cases hv
        · cases hv
      · exact hv
      · exact hv
      · exact hv
    exact ⟨_, by simp only [evOp, this]; rfl, hp⟩
  | binB neg x y => obtain ⟨v, hv, he⟩ := map_some' he; cases he; exact ⟨_, by simp only [evOp, hv]; rfl, hp⟩
  | binS op x y => obtain ⟨v, hv, he⟩ := map_some' he; cases he; exact ⟨_, by simp only [evOp, hv]; rfl, hp⟩
  | eqA neg sh x y => obtain ⟨v, hv, he⟩ := map_some' he; cases he; exact ⟨_, by simp only [evOp, hv]; rfl, hp⟩
  | lookup a s z ok x k => exact bad (by simp [kindC])
  | mupd a s x k v => exact bad (by simp [kindC])
  | mkslice e sz b z l c => exact bad (by simp [kindC])
  | panic x => cases he
  | load g x =>
    rcases hk with hk | ⟨_, hle⟩
    · simp [kindC] at hk
    obtain ⟨he2, hh⟩ := inH_some he
    simp only [evOp]
    unfold evLoad at he2 ⊢
    split at he2
    · rename_i id ge off e; obtain ⟨u, hu, he⟩ := map_some' he2; cases he; exact ⟨_, by rw [cell_ext hle hu]; rfl, hp⟩
    · rename_i ds off e; obtain ⟨u, hu, he⟩ := map_some' he2; cases he; exact ⟨_, by rw [hu]; rfl, hp⟩
    · rename_i n id ge off e; obtain ⟨u, hu, he⟩ := map_some' he2; cases he; exact ⟨_, by rw [cells_ext hle hu]; rfl, hp⟩
    · cases he2; exact ⟨_, rfl, hp⟩
    · cases he2
  | indexS sz x i =>
    rcases hk with hk | ⟨_, hle⟩
    · simp [kindC] at hk
    obtain ⟨he2, hh⟩ := inH_some he
    simp only [evOp]
    unfold evIdx at he2 ⊢
    split at he2
    · rename_i e1 e2; obtain ⟨u, hu, he⟩ := map_some' he2; cases he; exact ⟨_, by rw [hu]; rfl, hp⟩
    · rename_i e1 e2; cases he2
      obtain ⟨w, hw⟩ := Option.isSome_iff_exists.1 hp.2
      exact ⟨_, rfl, hp.1, by rw [cells_ext hle hw]; rfl⟩
    · cases he2
  | bin op x y => exact ⟨_, inH_inv he h', hp⟩
  | un op x => exact ⟨_, inH_inv he h', hp⟩
  | conv k x => exact ⟨_, inH_inv he h', hp⟩
  | fieldAddr o x => exact ⟨_, inH_inv he h', hp⟩
  | field g o x => exact ⟨_, inH_inv he h', hp⟩
  | indexA l sz x i => exact ⟨_, inH_inv he h', hp⟩
  | extract x k => exact ⟨_, inH_inv he h', hp⟩
  | nilCheck x => exact ⟨_, inH_inv he h', hp⟩
  | len x => exact ⟨_, inH_inv he h', hp⟩
  | lenStr x => exact ⟨_, inH_inv he h', hp⟩
  | sliceS sz x lo hi mx => exact ⟨_, inH_inv he h', hp⟩

end Go.Proofs.Ytdnefcjbcieecaa
