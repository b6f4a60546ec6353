/- Records of loops over functions: how the abstract heap goes along. -/
import Derived.Test.YtdnefcjbcieecaaCoreU
import Derived.RangeFuncRecord
set_option linter.unusedVariables false
set_option linter.unusedSimpArgs false
namespace Go.Proofs.Ytdnefcjbcieecaa
open Go

section
variable {n : Nat} {M : Mem} {h : Heap} {w : World}

def Mem.addDf (M : Mem) (D : Nat) : Mem := { M with df := fun b => M.df b ∨ b = D }
theorem addDf_post (hs : Sim M h w) (hn : n ≤ h.length) : Post n M h w (M.addDf w.heap.size) h (w.alloc (.deferred (some []))) := by
  have hold : ∀ k, k < w.heap.size → (w.alloc (.deferred (some []))).heap[k]? = w.heap[k]? := fun k hk => by
    show (w.heap.push _)[k]? = _
    rw [Array.getElem?_push]; simp [Nat.ne_of_lt hk]
  have hmono : ∀ x v, RepV M x v → RepV (M.addDf w.heap.size) x v := fun x v hx => RepV.mono (M := M) (M' := M.addDf w.heap.size) (fun _ _ _ h => h) (fun i r h => ⟨r, h, Nat.le_refl _, fun _ => rfl⟩) hx
  refine ⟨fun _ _ _ h => h, ⟨⟨fun b hb => .inl hb, fun b hb h => h.resolve_right (by omega), fun _ _ _ _ h => .inl h⟩, rfl⟩, MuLe.refl M, hn, ⟨?_, hs.inj, ?_, hs.dom, ?_⟩, rfl, rfl, rfl, by simp, fun k hk _ => hold k hk, fun _ _ hl => hl⟩
  · intro i blk hi
    obtain ⟨r, hr, hat⟩ := hs.blks i blk hi
    exact ⟨r, hr, BlkAt.of_same (M := M) (w := w) rfl (fun _ _ _ h => h) hmono (fun k hk => hold k (hs.live_lt ⟨i, blk, r, hi, hr, hk⟩)) hat⟩
  · intro b o v hv
    obtain ⟨hc, hnl⟩ := hs.ro b o v hv
    exact ⟨by rw [World.cell?_of_block (w := w) (hold b (ro_lt hs hv))]; exact hc, hnl⟩
  · intro b hb
    rcases hb with hb | rfl
    · obtain ⟨hc, hnl⟩ := hs.df b hb
      exact ⟨by rw [hold b (Array.getElem?_eq_some_iff.1 hc).1]; exact hc, hnl⟩
    · exact ⟨World.alloc_heap_new w _, fun hl => absurd (hs.live_lt hl) (Nat.lt_irrefl _)⟩

/-- A loop's block, found. -/
theorem Sim.loopAt (hs : Sim M h w) {id l : Nat} {L : LoopB} (hi : h[id]? = some (some (.loop L))) (hv : RepV M (.yl id) (.func (.yield l) #[] #[])) :
    ∃ rec r, M.mu id = some r ∧ r.blk = some l ∧ w.heap[l]? = some (.loop rec) ∧ LoopAt M L rec ∧ r.gen = 0 := by
  obtain ⟨r, hr, h0, b, rec, hb, hw, hl⟩ := hs.blks id _ hi
  cases hv with
  | yl _ r' _ h1 h2 =>
    rw [hr] at h1; cases h1
    rw [h2 h0] at hb; cases hb
    exact ⟨rec, r, hr, h2 h0, hw, hl, h0⟩

theorem put_loop (hs : Sim M h w) (hn : n ≤ h.length) {id l : Nat} {L L' : LoopB} {rec rec' : Loop} {r : Ref} (hi : h[id]? = some (some (.loop L))) (hr : M.mu id = some r) (hb : r.blk = some l) (h0 : r.gen = 0)
    (hw : w.heap[l]? = some (.loop rec)) (hat : LoopAt M L' rec') : Post n M h w M (h.set id (some (.loop L'))) (w.putObj l (.loop rec')) := by
  have hlt := (Array.getElem?_eq_some_iff.1 hw).1
  refine upd_block hs hn hi hr hb (by simp) (fun k hk => World.putObj_heap_other hk) rfl rfl rfl ⟨h0, l, rec', hb, World.putObj_heap_same hlt, hat⟩

/-- A block is given up, and written over. -/
theorem drop_block (hs : Sim M h w) (hn : n ≤ h.length) {id l : Nat} {blk : Blk} {o : Obj} {r : Ref} (hi : h[id]? = some (some blk)) (hr : M.mu id = some r) (hb : r.blk = some l) :
    Post n M h w M (h.set id none) (w.putObj l o) := by
  have hlt : id < h.length := (List.getElem?_eq_some_iff.1 hi).1
  have hpre : ∀ (j : Nat) x, (h.set id none)[j]? = some (some x) → j ≠ id ∧ h[j]? = some (some x) := fun j x hx => by
    by_cases hj : j = id
    · subst hj; rw [List.getElem?_set_self hlt] at hx; cases hx
    · exact ⟨hj, by rwa [List.getElem?_set_ne (Ne.symm hj)] at hx⟩
  have hlive : ∀ k, liveBlk M (h.set id none) k → liveBlk M h k ∧ k ≠ l := by
    rintro k ⟨i, blk2, r2, hi2, hr2, hb2⟩
    obtain ⟨hne, hi3⟩ := hpre i _ hi2
    exact ⟨⟨i, blk2, r2, hi3, hr2, hb2⟩, by rintro rfl; exact hne (hs.inj i id _ _ _ _ _ hi3 hi hr2 hr hb2 hb)⟩
  have hbl : liveBlk M h l := ⟨id, blk, r, hi, hr, hb⟩
  have hoth : ∀ k, k ≠ l → (w.putObj l o).heap[k]? = w.heap[k]? := fun k hk => World.putObj_heap_other hk
  refine ⟨fun _ _ _ h => h, ⟨⟨fun _ h => h, fun _ _ h => h, fun _ _ _ _ h => .inl h⟩, rfl⟩, MuLe.refl M, by simpa using hn, ⟨?_, ?_, ?_, ?_, ?_⟩, rfl, rfl, rfl, by simp, fun k hk hnl => hoth k (by rintro rfl; exact hnl hbl), fun k _ hk => (hlive k hk).1⟩
  · intro i blk2 hi2
    obtain ⟨hne, hi3⟩ := hpre i _ hi2
    obtain ⟨r2, hr2, hat2⟩ := hs.blks i blk2 hi3
    refine ⟨r2, hr2, BlkAt.of_same rfl (fun _ _ _ h => h) (fun _ _ h => h) (fun k hk => hoth k ?_) hat2⟩
    rintro rfl
    exact hne (hs.inj i id _ _ _ _ _ hi3 hi hr2 hr hk hb)
  · intro i j bi bj ri rj k hi2 hj2
    exact hs.inj i j bi bj ri rj k (hpre i _ hi2).2 (hpre j _ hj2).2
  · intro k p v hv
    obtain ⟨hc, hnl⟩ := hs.ro k p v hv
    exact ⟨by rw [World.cell?_of_block (w := w) (hoth k (by rintro rfl; exact hnl hbl))]; exact hc, fun hl => hnl (hlive k hl).1⟩
  · intro i hi2
    exact hs.dom i (by simpa using hi2)
  · intro k hk
    obtain ⟨hc, hnl⟩ := hs.df k hk
    exact ⟨by rw [hoth k (by rintro rfl; exact hnl hbl)]; exact hc, fun hl => hnl (hlive k hl).1⟩

/-- A mark is taken. -/
def Mem.remDf (M : Mem) (D : Nat) : Mem := { M with df := fun b => M.df b ∧ b ≠ D }
theorem take_sim (hs : Sim M h w) {D : Nat} (hD : M.df D) : Sim (M.remDf D) h (w.putObj D (.deferred none)) := by
  obtain ⟨hc, hnl⟩ := hs.df D hD
  have hlt := (Array.getElem?_eq_some_iff.1 hc).1
  have hoth : ∀ k, k ≠ D → (w.putObj D (.deferred none)).heap[k]? = w.heap[k]? := fun k hk => World.putObj_heap_other hk
  refine ⟨?_, hs.inj, ?_, hs.dom, ?_⟩
  · intro i blk hi
    obtain ⟨r, hr, hat⟩ := hs.blks i blk hi
    exact ⟨r, hr, BlkAt.of_same (M := M) (w := w) rfl (fun _ _ _ h => h) (fun x v hx => RepV.mono (M := M) (M' := M.remDf D) (fun _ _ _ h => h) (fun i r h => ⟨r, h, Nat.le_refl _, fun _ => rfl⟩) hx) (fun k hk => hoth k (by rintro rfl; exact hnl ⟨i, blk, r, hi, hr, hk⟩)) hat⟩
  · intro b o v hv
    obtain ⟨hc2, hnl2⟩ := hs.ro b o v hv
    have hne : b ≠ D := by
      rintro rfl
      simp [World.cell?, hc] at hc2
    exact ⟨by rw [World.cell?_of_block (w := w) (hoth b hne)]; exact hc2, hnl2⟩
  · intro b hb
    obtain ⟨hc2, hnl2⟩ := hs.df b hb.1
    exact ⟨by rw [hoth b hb.2]; exact hc2, hnl2⟩
end
end Go.Proofs.Ytdnefcjbcieecaa
