/- How the abstract heap goes along with the world: a new block, a written block, an append, a freeze. -/
import Derived.Test.YtdnefcjbcieecaaCoreA
set_option linter.unusedVariables false
set_option linter.unusedSimpArgs false
namespace Go.Proofs.Ytdnefcjbcieecaa
open Go

def Mem.setMu (M : Mem) (id : Nat) (r : Ref) : Mem := { M with mu := fun i => if i = id then some r else M.mu i }
theorem Mem.setMu_same (M : Mem) (id : Nat) (r : Ref) : (M.setMu id r).mu id = some r := by simp [Mem.setMu]
theorem Mem.setMu_other (M : Mem) {id i : Nat} (r : Ref) (h : i ≠ id) : (M.setMu id r).mu i = M.mu i := by simp [Mem.setMu, h]

theorem MuLe.setMu {M : Mem} {id : Nat} {r : Ref} (hn : ∀ r0, M.mu id = some r0 → r0.gen < r.gen) : MuLe M (M.setMu id r) := by
  intro i r0 hi
  by_cases h : i = id
  · subst h
    have := hn r0 hi
    exact ⟨r, Mem.setMu_same _ _ _, by omega, fun e => by omega⟩
  · exact ⟨r0, by rw [Mem.setMu_other _ _ h]; exact hi, Nat.le_refl _, fun _ => rfl⟩

theorem RepV.setMu {M : Mem} {id : Nat} {r : Ref} (hn : ∀ r0, M.mu id = some r0 → r0.gen < r.gen) {x : V} {v : Value} (h : RepV M x v) : RepV (M.setMu id r) x v :=
  RepV.mono (M := M) (M' := M.setMu id r) (fun _ _ _ h => h) (MuLe.setMu hn) h

/-- A block of the heap is written: all else stays. -/
theorem upd_block {n : Nat} {M : Mem} {h : Heap} {w w' : World} {id b : Nat} {blk blk' : Blk} {r : Ref} (hs : Sim M h w) (hn : n ≤ h.length)
    (hi : h[id]? = some (some blk)) (hr : M.mu id = some r) (hb : r.blk = some b)
    (hsz : w'.heap.size = w.heap.size) (hoth : ∀ k, k ≠ b → w'.heap[k]? = w.heap[k]?) (h1 : w'.os = w.os) (h2 : w'.tape = w.tape) (h3 : w'.output = w.output)
    (hat : BlkAt M w' r blk') : Post n M h w M (h.set id (some blk')) w' := by
  have hlt : id < h.length := (List.getElem?_eq_some_iff.1 hi).1
  have hlive : ∀ k, liveBlk M (h.set id (some blk')) k → liveBlk M h k := by
    rintro k ⟨i, blk2, r2, hi2, hr2, hb2⟩
    by_cases hii : i = id
    · subst hii; exact ⟨i, blk, r2, hi, hr2, hb2⟩
    · exact ⟨i, blk2, r2, by rwa [List.getElem?_set_ne (Ne.symm hii)] at hi2, hr2, hb2⟩
  have hbl : liveBlk M h b := ⟨id, blk, r, hi, hr, hb⟩
  refine ⟨fun _ _ _ h => h, ⟨⟨fun _ h => h, fun _ _ h => h, fun _ _ _ _ h => .inl h⟩, rfl⟩, MuLe.refl M, by simpa using hn, ⟨?_, ?_, ?_, ?_, ?_⟩, h1, h2, h3, by omega, ?_, fun k _ hk => hlive k hk⟩
  · intro i blk2 hi2
    by_cases hii : i = id
    · subst hii
      rw [List.getElem?_set_self hlt] at hi2
      cases hi2
      exact ⟨r, hr, hat⟩
    · rw [List.getElem?_set_ne (Ne.symm hii)] at hi2
      obtain ⟨r2, hr2, hat2⟩ := hs.blks i blk2 hi2
      refine ⟨r2, hr2, BlkAt.of_same rfl (fun _ _ _ h => h) (fun _ _ h => h) (fun k hk => hoth k ?_) hat2⟩
      rintro rfl
      exact hii (hs.inj i id _ _ _ _ _ hi2 hi hr2 hr hk hb)
  · intro i j bi bj ri rj k hi2 hj2 hri hrj hbi hbj
    have e1 : ∃ b', h[i]? = some (some b') := by
      by_cases hii : i = id
      · subst hii; exact ⟨_, hi⟩
      · exact ⟨_, by rwa [List.getElem?_set_ne (Ne.symm hii)] at hi2⟩
    have e2 : ∃ b', h[j]? = some (some b') := by
      by_cases hii : j = id
      · subst hii; exact ⟨_, hi⟩
      · exact ⟨_, by rwa [List.getElem?_set_ne (Ne.symm hii)] at hj2⟩
    obtain ⟨b1, e1⟩ := e1
    obtain ⟨b2, e2⟩ := e2
    exact hs.inj i j b1 b2 ri rj k e1 e2 hri hrj hbi hbj
  · intro k o v hv
    obtain ⟨hc, hnl⟩ := hs.ro k o v hv
    refine ⟨?_, fun hl => hnl (hlive k hl)⟩
    rw [World.cell?_of_block (w := w) (hoth k (by rintro rfl; exact hnl hbl))]
    exact hc
  · intro i hi2
    exact hs.dom i (by simpa using hi2)
  · intro k hk
    obtain ⟨hc, hnl⟩ := hs.df k hk
    exact ⟨by rw [hoth k (by rintro rfl; exact hnl hbl)]; exact hc, fun hl => hnl (hlive k hl)⟩
  · intro k hk hnl
    exact hoth k (by rintro rfl; exact hnl hbl)

/-- The world's heap has one block more, which belongs to the entry 'id' that had none. -/
theorem new_block {n : Nat} {M : Mem} {h h' : Heap} {w w' : World} {id cap : Nat} {blk : Blk} {o : Obj} (hs : Sim M h w) (hn : n ≤ h'.length) (hmu : M.mu id = none)
    (hid : h'[id]? = some (some blk)) (hoth : ∀ (j : Nat) x, j ≠ id → h'[j]? = some (some x) → h[j]? = some (some x)) (hlen : h.length ≤ h'.length)
    (hw : w'.heap = w.heap.push o) (h1 : w'.os = w.os) (h2 : w'.tape = w.tape) (h3 : w'.output = w.output)
    (hat : BlkAt (M.setMu id ⟨some w.heap.size, cap, 0⟩) w' ⟨some w.heap.size, cap, 0⟩ blk) : Post n M h w (M.setMu id ⟨some w.heap.size, cap, 0⟩) h' w' := by
  have hmu' : ∀ r0, M.mu id = some r0 → r0.gen < (⟨some w.heap.size, cap, 0⟩ : Ref).gen := fun r0 h => by rw [hmu] at h; cases h
  have hold : ∀ k, k < w.heap.size → w'.heap[k]? = w.heap[k]? := fun k hk => by rw [hw, Array.getElem?_push]; simp [Nat.ne_of_lt hk]
  have hlive : ∀ k, k < w.heap.size → liveBlk (M.setMu id ⟨some w.heap.size, cap, 0⟩) h' k → liveBlk M h k := by
    rintro k hk ⟨i, blk2, r2, hi2, hr2, hb2⟩
    by_cases hii : i = id
    · subst hii; rw [Mem.setMu_same] at hr2; cases hr2; cases hb2; omega
    · rw [Mem.setMu_other _ _ hii] at hr2
      exact ⟨i, blk2, r2, hoth i _ hii hi2, hr2, hb2⟩
  have hidl : id < h'.length := (List.getElem?_eq_some_iff.1 hid).1
  refine ⟨fun _ _ _ h => h, ⟨⟨fun _ h => h, fun _ _ h => h, fun _ _ _ _ h => .inl h⟩, rfl⟩, MuLe.setMu hmu', hn, ⟨?_, ?_, ?_, ?_, ?_⟩, h1, h2, h3, by rw [hw]; simp, fun k hk _ => hold k hk, hlive⟩
  · intro i blk2 hi2
    by_cases hii : i = id
    · subst hii
      rw [hid] at hi2
      cases hi2
      exact ⟨_, Mem.setMu_same _ _ _, hat⟩
    · obtain ⟨r2, hr2, hat2⟩ := hs.blks i blk2 (hoth i _ hii hi2)
      refine ⟨r2, by rw [Mem.setMu_other _ _ hii]; exact hr2, BlkAt.of_same rfl (M := M) (w := w) (fun _ _ _ h => h) (fun _ _ h => h.setMu hmu') (fun k hk => hold k ?_) hat2⟩
      exact hs.live_lt ⟨i, blk2, r2, hoth i _ hii hi2, hr2, hk⟩
  · intro i j bi bj ri rj k hi2 hj2 hri hrj hbi hbj
    by_cases hii : i = id
    · subst hii
      rw [Mem.setMu_same] at hri; cases hri; cases hbi
      by_cases hjj : j = i
      · exact hjj.symm
      · rw [Mem.setMu_other _ _ hjj] at hrj
        have := hs.live_lt ⟨j, bj, rj, hoth j _ hjj hj2, hrj, hbj⟩
        omega
    · rw [Mem.setMu_other _ _ hii] at hri
      by_cases hjj : j = id
      · subst hjj
        rw [Mem.setMu_same] at hrj; cases hrj; cases hbj
        have := hs.live_lt ⟨i, bi, ri, hoth i _ hii hi2, hri, hbi⟩
        omega
      · rw [Mem.setMu_other _ _ hjj] at hrj
        exact hs.inj i j bi bj ri rj k (hoth i _ hii hi2) (hoth j _ hjj hj2) hri hrj hbi hbj
  · intro k p v hv
    obtain ⟨hc, hnl⟩ := hs.ro k p v hv
    have hk : k < w.heap.size := World.block_lt_of_cell? w ⟨k, p, none⟩ hc
    refine ⟨?_, fun hl => hnl (hlive k hk hl)⟩
    rw [World.cell?_of_block (w := w) (hold k hk)]
    exact hc
  · intro i hi
    rw [Mem.setMu_other _ _ (by omega)]
    exact hs.dom i (by omega)
  · intro k hk0
    obtain ⟨hc, hnl⟩ := hs.df k hk0
    have hk : k < w.heap.size := (Array.getElem?_eq_some_iff.1 hc).1
    exact ⟨by rw [hold k hk]; exact hc, fun hl => hnl (hlive k hk hl)⟩

/-- An entry gets a new generation (an append), in the same block or in a new one. -/
theorem bump_block {n : Nat} {M : Mem} {h : Heap} {w w' : World} {id : Nat} {blk0 blk : Blk} {r r' : Ref} (hs : Sim M h w) (hn : n ≤ h.length)
    (hi : h[id]? = some (some blk0)) (hr : M.mu id = some r) (hg : r.gen < r'.gen)
    (hb : ∀ b, r'.blk = some b → r.blk = some b ∨ w.heap.size ≤ b)
    (hsz : w.heap.size ≤ w'.heap.size) (hoth : ∀ k, k < w.heap.size → r.blk ≠ some k → w'.heap[k]? = w.heap[k]?) (h1 : w'.os = w.os) (h2 : w'.tape = w.tape) (h3 : w'.output = w.output)
    (hat : BlkAt (M.setMu id r') w' r' blk) :
    Post n M h w (M.setMu id r') (h.set id (some blk)) w' := by
  have hlt : id < h.length := (List.getElem?_eq_some_iff.1 hi).1
  have hle : MuLe M (M.setMu id r') := MuLe.setMu (fun r0 h => by rw [hr] at h; cases h; exact hg)
  have hself : (h.set id (some blk))[id]? = some (some blk) := List.getElem?_set_self hlt
  have hpre : ∀ (j : Nat) x, j ≠ id → (h.set id (some blk))[j]? = some (some x) → h[j]? = some (some x) := fun j x hj hx => by rwa [List.getElem?_set_ne (Ne.symm hj)] at hx
  have hlive : ∀ k, k < w.heap.size → liveBlk (M.setMu id r') (h.set id (some blk)) k → liveBlk M h k := by
    rintro k hk ⟨i, blk2, r2, hi2, hr2, hb2⟩
    by_cases hii : i = id
    · subst hii; rw [Mem.setMu_same] at hr2; cases hr2
      rcases hb k hb2 with h | h
      · exact ⟨i, blk0, r, hi, hr, h⟩
      · omega
    · rw [Mem.setMu_other _ _ hii] at hr2
      exact ⟨i, blk2, r2, hpre i _ hii hi2, hr2, hb2⟩
  have hkeep : ∀ k, k < w.heap.size → ¬ liveBlk M h k → w'.heap[k]? = w.heap[k]? := fun k hk hnl => hoth k hk (fun e => hnl ⟨id, blk0, r, hi, hr, e⟩)
  refine ⟨fun _ _ _ h => h, ⟨⟨fun _ h => h, fun _ _ h => h, fun _ _ _ _ h => .inl h⟩, rfl⟩, hle, by simpa using hn, ⟨?_, ?_, ?_, ?_, ?_⟩, h1, h2, h3, hsz, hkeep, hlive⟩
  · intro i blk2 hi2
    by_cases hii : i = id
    · subst hii
      rw [hself] at hi2
      cases hi2
      exact ⟨_, Mem.setMu_same _ _ _, hat⟩
    · have hj := hpre i _ hii hi2
      obtain ⟨r2, hr2, hat2⟩ := hs.blks i blk2 hj
      refine ⟨r2, by rw [Mem.setMu_other _ _ hii]; exact hr2, BlkAt.of_same rfl (M := M) (w := w) (fun _ _ _ h => h) (fun _ _ h => RepV.mono (M := M) (M' := M.setMu id r') (fun _ _ _ h => h) hle h) (fun k hk => ?_) hat2⟩
      exact hoth k (hs.live_lt ⟨i, blk2, r2, hj, hr2, hk⟩) (fun e => hii (hs.inj i id _ _ _ _ _ hj hi hr2 hr hk e))
  · intro i j bi bj ri rj k hi2 hj2 hri hrj hbi hbj
    by_cases hii : i = id
    · subst hii
      rw [Mem.setMu_same] at hri; cases hri
      by_cases hjj : j = i
      · exact hjj.symm
      · rw [Mem.setMu_other _ _ hjj] at hrj
        have hj3 := hpre j _ hjj hj2
        have hlj := hs.live_lt ⟨j, bj, rj, hj3, hrj, hbj⟩
        rcases hb k hbi with h | h
        · exact (hs.inj j i _ _ _ _ _ hj3 hi hrj hr hbj h).symm
        · omega
    · rw [Mem.setMu_other _ _ hii] at hri
      have hi3 := hpre i _ hii hi2
      by_cases hjj : j = id
      · subst hjj
        rw [Mem.setMu_same] at hrj; cases hrj
        have hlj := hs.live_lt ⟨i, bi, ri, hi3, hri, hbi⟩
        rcases hb k hbj with h | h
        · exact hs.inj i j _ _ _ _ _ hi3 hi hri hr hbi h
        · omega
      · rw [Mem.setMu_other _ _ hjj] at hrj
        exact hs.inj i j bi bj ri rj k hi3 (hpre j _ hjj hj2) hri hrj hbi hbj
  · intro k p v hv
    obtain ⟨hc, hnl⟩ := hs.ro k p v hv
    have hk : k < w.heap.size := World.block_lt_of_cell? w ⟨k, p, none⟩ hc
    refine ⟨?_, fun hl => hnl (hlive k hk hl)⟩
    rw [World.cell?_of_block (w := w) (hkeep k hk hnl)]
    exact hc
  · intro i hi2
    have hi' : h.length ≤ i := by simpa using hi2
    rw [Mem.setMu_other _ _ (by omega)]
    exact hs.dom i hi'
  · intro k hk0
    obtain ⟨hc, hnl⟩ := hs.df k hk0
    have hk : k < w.heap.size := (Array.getElem?_eq_some_iff.1 hc).1
    exact ⟨by rw [hkeep k hk hnl]; exact hc, fun hl => hnl (hlive k hk hl)⟩

end Go.Proofs.Ytdnefcjbcieecaa
