/- Cutting the heap at a function's end: what it allocated and does not give back is forgotten. -/
import Derived.Test.YtdnefcjbcieecaaCoreW
set_option linter.unusedVariables false
set_option linter.unusedSimpArgs false
namespace Go.Proofs.Ytdnefcjbcieecaa
open Go

/-! Values whose blocks lie below n. -/
def bel0 (n : Nat) : V → Bool
  | .any => true
  | .d _ => true
  | .rptr _ _ => true
  | .own id _ _ => Nat.blt id n
  | .ptr id _ _ => Nat.blt id n
  | .mp id => Nat.blt id n
  | .yl id => Nat.blt id n
  | _ => false
def belA (n : Nat) : V → Bool
  | .agg cs => cs.all (bel0 n)
  | v => bel0 n v
def bel1 (n : Nat) : V → Bool
  | .agg cs => cs.all (bel0 n)
  | .fn _ a c => a.all (belA n) && c.all (belA n)
  | v => bel0 n v
def bel2 (n : Nat) : V → Bool
  | .tup cs => cs.all (bel1 n)
  | v => bel1 n v
def blkBel (n : Nat) : Option Blk → Bool
  | some (.box cs) => cs.all (bel1 n)
  | some (.map es) => es.all fun p => bel1 n p.1 && bel1 n p.2
  | some (.loop L) => L.env.all fun p => bel2 n p.2
  | _ => true

def Mem.cut (M : Mem) (n : Nat) : Mem := { M with mu := fun i => if i < n then M.mu i else none }
theorem Mem.cut_lt (M : Mem) {n i : Nat} (h : i < n) : (M.cut n).mu i = M.mu i := by simp [Mem.cut, h]
theorem Mem.cut_some {M : Mem} {n i : Nat} {r : Ref} (h : (M.cut n).mu i = some r) : i < n ∧ M.mu i = some r := by
  simp only [Mem.cut] at h
  split at h
  · rename_i hl; exact ⟨hl, h⟩
  · cases h

section
variable {M : Mem} {n : Nat}
theorem lt_of_blt {a b : Nat} (h : Nat.blt a b = true) : a < b := by simpa [Nat.blt_eq] using h
theorem RepV.bel0 {v : V} {c : Value} (hb : Go.Proofs.Ytdnefcjbcieecaa.bel0 n v = true) (h : RepV M v c) : RepV (M.cut n) v c := by
  cases h with
  | any v => exact .any _
  | d x v h => exact .d _ _ h
  | agg => cases hb
  | tup => cases hb
  | own id g len r ao cap h1 h2 h3 h4 h5 => exact .own _ _ _ r ao cap (by rw [Mem.cut_lt _ (lt_of_blt hb)]; exact h1) h2 h3 h4 h5
  | ptr id g off r b h1 h2 h3 => exact .ptr _ _ _ r b (by rw [Mem.cut_lt _ (lt_of_blt hb)]; exact h1) h2 h3
  | rptr cs off b o vals h1 h2 => exact .rptr _ _ b o vals h1 h2
  | fn => cases hb
  | mp id r b h1 h2 => exact .mp _ r b (by rw [Mem.cut_lt _ (lt_of_blt hb)]; exact h1) h2
  | yl id r b h1 h2 => exact .yl _ r b (by rw [Mem.cut_lt _ (lt_of_blt hb)]; exact h1) h2
theorem all_get {α : Type} {p : α → Bool} {l : List α} (h : l.all p = true) {k : Nat} {x : α} (hk : l[k]? = some x) : p x = true := List.all_eq_true.1 h x (List.mem_of_getElem? hk)
theorem RepV.belA {v : V} {c : Value} (hb : Go.Proofs.Ytdnefcjbcieecaa.belA n v = true) (h : RepV M v c) : RepV (M.cut n) v c := by
  cases h with
  | agg cs arr hl h h1 => exact .agg cs arr hl (fun k v c hv hc => (h k v c hv hc).bel0 (all_get hb hv)) h1
  | fn => cases hb
  | any v => exact .any _
  | d x v h => exact .d _ _ h
  | tup => cases hb
  | own id g len r ao cap h1 h2 h3 h4 h5 => exact RepV.bel0 hb (.own id g len r ao cap h1 h2 h3 h4 h5)
  | ptr id g off r b h1 h2 h3 => exact RepV.bel0 hb (.ptr id g off r b h1 h2 h3)
  | rptr cs off b o vals h1 h2 => exact .rptr _ _ b o vals h1 h2
  | mp id r b h1 h2 => exact RepV.bel0 hb (.mp id r b h1 h2)
  | yl id r b h1 h2 => exact RepV.bel0 hb (.yl id r b h1 h2)
theorem RepV.bel1 {v : V} {c : Value} (hb : Go.Proofs.Ytdnefcjbcieecaa.bel1 n v = true) (h : RepV M v c) : RepV (M.cut n) v c := by
  cases h with
  | agg cs arr hl h h1 => exact .agg cs arr hl (fun k v c hv hc => (h k v c hv hc).bel0 (all_get hb hv)) h1
  | fn f first caps a1 a2 l1 l2 h1 h2 =>
    simp only [Go.Proofs.Ytdnefcjbcieecaa.bel1, Bool.and_eq_true] at hb
    exact .fn f first caps a1 a2 l1 l2 (fun k v c hv hc => (h1 k v c hv hc).belA (all_get hb.1 hv)) (fun k v c hv hc => (h2 k v c hv hc).belA (all_get hb.2 hv))
  | any v => exact .any _
  | d x v h => exact .d _ _ h
  | tup => cases hb
  | own id g len r ao cap h1 h2 h3 h4 h5 => exact RepV.bel0 hb (.own id g len r ao cap h1 h2 h3 h4 h5)
  | ptr id g off r b h1 h2 h3 => exact RepV.bel0 hb (.ptr id g off r b h1 h2 h3)
  | rptr cs off b o vals h1 h2 => exact .rptr _ _ b o vals h1 h2
  | mp id r b h1 h2 => exact RepV.bel0 hb (.mp id r b h1 h2)
  | yl id r b h1 h2 => exact RepV.bel0 hb (.yl id r b h1 h2)
theorem RepV.bel2 {v : V} {c : Value} (hb : Go.Proofs.Ytdnefcjbcieecaa.bel2 n v = true) (h : RepV M v c) : RepV (M.cut n) v c := by
  cases h with
  | tup cs arr hl h => exact .tup cs arr hl (fun k v c hv hc => (h k v c hv hc).bel1 (all_get hb hv))
  | agg cs arr hl h h1 => exact RepV.bel1 hb (.agg cs arr hl h h1)
  | fn f first caps a1 a2 l1 l2 h1 h2 => exact RepV.bel1 hb (.fn f first caps a1 a2 l1 l2 h1 h2)
  | any v => exact .any _
  | d x v h => exact .d _ _ h
  | own id g len r ao cap h1 h2 h3 h4 h5 => exact RepV.bel0 hb (.own id g len r ao cap h1 h2 h3 h4 h5)
  | ptr id g off r b h1 h2 h3 => exact RepV.bel0 hb (.ptr id g off r b h1 h2 h3)
  | rptr cs off b o vals h1 h2 => exact .rptr _ _ b o vals h1 h2
  | mp id r b h1 h2 => exact RepV.bel0 hb (.mp id r b h1 h2)
  | yl id r b h1 h2 => exact RepV.bel0 hb (.yl id r b h1 h2)
theorem env_bel {env : Env} (hb : env.all (fun p => Go.Proofs.Ytdnefcjbcieecaa.bel2 n p.2) = true) (k : Nat) : Go.Proofs.Ytdnefcjbcieecaa.bel2 n (env.get k) = true := by
  induction env with
  | nil => rfl
  | cons p env ih =>
    simp only [List.all_cons, Bool.and_eq_true] at hb
    simp only [Env.get]
    split
    · exact hb.1
    · exact ih hb.2
theorem BlkAt.bel {w : World} {r : Ref} {blk : Blk} (hb : blkBel n (some blk) = true) (h : BlkAt M w r blk) : BlkAt (M.cut n) w r blk := by
  cases blk with
  | box cs =>
    obtain ⟨h0, b, arr, T, h1, h2, h3, h4⟩ := h
    exact ⟨h0, b, arr, T, h1, h2, ⟨h3.1, fun k v c hv hc => (h3.2 k v c hv hc).bel1 (all_get hb hv)⟩, h4⟩
  | row e sz g cs => exact h
  | obj p => exact h
  | map es =>
    obtain ⟨h0, b, arr, clk, h1, h2, h3, h4⟩ := h
    refine ⟨h0, b, arr, clk, h1, h2, h3, fun k e x he hx => ?_⟩
    have := all_get hb he
    simp only [Bool.and_eq_true] at this
    exact ⟨(h4 k e x he hx).1.bel1 this.1, (h4 k e x he hx).2.bel1 this.2⟩
  | loop L =>
    obtain ⟨h0, b, rec, h1, h2, k1, k2, k3, k4, k5, k6, k7⟩ := h
    exact ⟨h0, b, rec, h1, h2, k1, k2, k3, k4, k5, k6, fun k => (k7 k).bel2 (env_bel hb k)⟩
end

theorem Post.cut {M M' : Mem} {h h1 : Heap} {w w' : World} (hs : Sim M h w) (p : Post h.length M h w M' h1 w') (hb : (h1.take h.length).all (blkBel h.length) = true) :
    Post h.length M h w (M'.cut h.length) (h1.take h.length) w' := by
  have hd : ∀ i r, M.mu i = some r → i < h.length := fun i r hr => by
    rcases Nat.lt_or_ge i h.length with hl | hl
    · exact hl
    · rw [hs.dom i hl] at hr; cases hr
  have hget : ∀ (i : Nat) x, (h1.take h.length)[i]? = some x → i < h.length ∧ h1[i]? = some x := fun i x hx => by
    rw [List.getElem?_take] at hx
    split at hx
    · rename_i hl; exact ⟨hl, hx⟩
    · cases hx
  have hlive : ∀ b, liveBlk (M'.cut h.length) (h1.take h.length) b → liveBlk M' h1 b := fun b ⟨i, blk, r, hi, hr, hb⟩ => ⟨i, blk, r, (hget i _ hi).2, (Mem.cut_some hr).2, hb⟩
  have hlen := p.len
  refine ⟨p.ro, p.dc, fun i r hr => ?_, by simp; omega, ⟨fun i blk hi => ?_, ?_, fun b o v hv => ?_, fun i hi => ?_, fun b hb => ?_⟩, p.os, p.tape, p.output, p.size, p.keep, fun b hb hl => p.live b hb (hlive b hl)⟩
  · rw [Mem.cut_lt _ (hd i r hr)]; exact p.le i r hr
  · obtain ⟨hlt, hi'⟩ := hget i _ hi
    obtain ⟨r, hr, hat⟩ := p.sim.blks i blk hi'
    exact ⟨r, by rw [Mem.cut_lt _ hlt]; exact hr, hat.bel (all_get hb hi)⟩
  · intro i j bi bj ri rj b hi hj hri hrj
    exact p.sim.inj i j bi bj ri rj b (hget i _ hi).2 (hget j _ hj).2 (Mem.cut_some hri).2 (Mem.cut_some hrj).2
  · exact ⟨(p.sim.ro b o v hv).1, fun hl => (p.sim.ro b o v hv).2 (hlive b hl)⟩
  · have : h.length ≤ i := by simp at hi; omega
    simp [Mem.cut]; omega
  · exact ⟨(p.sim.df b hb).1, fun hl => (p.sim.df b hb).2 (hlive b hl)⟩

/-! Rows that are given back, frozen. -/
theorem freeze0 {n : Nat} {M M1 : Mem} {h h1 : Heap} {w w1 : World} {id g : Nat} {ds : List D} {b : Option Blk} (p : Post n M h w M1 h1 w1) (hb : h1[id]? = some b) (hd : blkDs b = some (g, ds)) :
    ∃ M2 r, Fz M1 M2 id g ds r ∧ Post n M h w M2 (h1.set id none) w1 := by
  obtain ⟨M2, r, z, hs2, hnw⟩ := freeze_sim p.sim hb hd
  have hp2 := freeze_post p z hs2 hnw
  have hlt : id < h1.length := (List.getElem?_eq_some_iff.1 hb).1
  have hpre : ∀ (j : Nat) x, (h1.set id none)[j]? = some (some x) → j ≠ id ∧ h1[j]? = some (some x) := fun j x hx => by
    by_cases hj : j = id
    · subst hj; rw [List.getElem?_set_self hlt] at hx; cases hx
    · exact ⟨hj, by rwa [List.getElem?_set_ne (Ne.symm hj)] at hx⟩
  have hfz : ∀ (j : Nat) x, (h1.set id none)[j]? = some (some x) → ∃ y, (fzH id g ds h1)[j]? = some (some y) := fun j x hx => by
    obtain ⟨hj, hx⟩ := hpre j x hx
    unfold fzH
    rw [List.getElem?_set_ne (Ne.symm hj), List.getElem?_map, hx]
    simp only [Option.map_some]
    unfold fzB
    split
    · exact ⟨_, rfl⟩
    · exact ⟨_, rfl⟩
    · exact ⟨_, rfl⟩
  have hlive : ∀ bb, liveBlk M2 (h1.set id none) bb → liveBlk M2 (fzH id g ds h1) bb := fun bb ⟨i, blk, r, hi, hr, hb⟩ => by
    obtain ⟨y, hy⟩ := hfz i _ hi
    exact ⟨i, y, r, hy, hr, hb⟩
  refine ⟨M2, r, z, hp2.ro, hp2.dc, hp2.le, by simpa using p.len, ⟨fun i blk hi => ?_, fun i j bi bj ri rj bb hi hj hri hrj => ?_, fun bb o v hv => ?_, fun i hi => ?_, fun bb hbb => ?_⟩, hp2.os, hp2.tape, hp2.output, hp2.size, hp2.keep, fun bb hbb hl => hp2.live bb hbb (hlive bb hl)⟩
  · obtain ⟨hne, hi'⟩ := hpre i _ hi
    obtain ⟨r', hr', hat⟩ := p.sim.blks i blk hi'
    exact ⟨r', by rw [z.mu]; exact hr', BlkAt.of_same z.cc z.ro (fun _ _ => z.mono) (fun _ _ => rfl) hat⟩
  · rw [z.mu] at hri hrj
    exact p.sim.inj i j bi bj ri rj bb (hpre i _ hi).2 (hpre j _ hj).2 hri hrj
  · exact ⟨(hs2.ro bb o v hv).1, fun hl => (hs2.ro bb o v hv).2 (hlive bb hl)⟩
  · exact hs2.dom i (by simpa [fzH] using hi)
  · exact ⟨(hs2.df bb hbb).1, fun hl => (hs2.df bb hbb).2 (hlive bb hl)⟩

def rowIn (n : Nat) : V → List (Nat × Nat)
  | .own id g _ => if Nat.ble n id then [(id, g)] else []
  | _ => []
def rowsIn1 (n : Nat) : V → List (Nat × Nat)
  | .agg cs => cs.flatMap (rowIn n)
  | v => rowIn n v
def rowsIn (n : Nat) : V → List (Nat × Nat)
  | .tup cs => cs.flatMap (rowsIn1 n)
  | v => rowsIn1 n v
def frzRows : List (Nat × Nat) → V → Heap → V × Heap
  | [], v, h => (v, h)
  | (id, g) :: r, v, h => match frzB h (.own id g 0) with
    | some (id', g', ds) => frzRows r (fzV id' g' ds v) (h.set id' none)
    | none => frzRows r v h
theorem frzRows_post {n : Nat} {M : Mem} {h : Heap} {w w1 : World} {cv : Value} : ∀ (l : List (Nat × Nat)) (v : V) (h1 : Heap) (M1 : Mem), Post n M h w M1 h1 w1 → RepV M1 v cv →
    ∃ M2, Post n M h w M2 (frzRows l v h1).2 w1 ∧ RepV M2 (frzRows l v h1).1 cv
  | [], v, h1, M1, p, hv => ⟨M1, p, hv⟩
  | (id, g) :: r, v, h1, M1, p, hv => by
    simp only [frzRows]
    split
    · rename_i id' g' ds e
      obtain ⟨b, hb, hd⟩ := frzB_spec e
      obtain ⟨M2, r2, z, hp2⟩ := freeze0 p hb hd
      exact frzRows_post r _ _ M2 hp2 (z.rep hv)
    · exact frzRows_post r v h1 M1 p hv
/-- What a function gives back, and the heap behind it. -/
def finX (n : Nat) (v : V) (h : Heap) : V × Heap :=
  match frzRows (rowsIn n v) v h with
  | (v1, h1) => if (bel2 n v1 && (h1.take n).all (blkBel n)) = true then (v1, h1.take n) else (v, h)
theorem ACalls.finX {P : Program} {f : FuncId} {vs : List V} {h : Heap} {v : V} {h1 : Heap} (hc : ACalls P f vs h fun v' h' => v' = v ∧ h' = h1) :
    ACalls P f vs h fun v' h' => v' = (finX h.length v h1).1 ∧ h' = (finX h.length v h1).2 := by
  refine ⟨hc.1, fun M w args hm hs ha => (hc.2 M w args hm hs ha).mono ?_⟩
  rintro e w' ⟨cv, v', h', M', rfl, hp, hv, rfl, rfl⟩
  unfold Go.Proofs.Ytdnefcjbcieecaa.finX
  obtain ⟨M2, hp2, hv2⟩ := frzRows_post (rowsIn h.length v') v' h' M' hp hv
  generalize frzRows (rowsIn h.length v') v' h' = q at hp2 hv2
  obtain ⟨v1, h1⟩ := q
  simp only at hp2 hv2 ⊢
  split
  · rename_i hb
    simp only [Bool.and_eq_true] at hb
    exact ⟨cv, _, _, _, rfl, hp2.cut hs hb.2, hv2.bel2 hb.1, rfl, rfl⟩
  · exact ⟨cv, _, _, M', rfl, hp, hv, rfl, rfl⟩

/-- A function that gives back no block of its own leaves the heap as it was. -/
theorem ACalls.cut {P : Program} {f : FuncId} {vs : List V} {h : Heap} {R : V → Heap → Prop}
    (hc : ACalls P f vs h fun v h' => bel2 h.length v = true ∧ (h'.take h.length).all (blkBel h.length) = true ∧ R v (h'.take h.length)) : ACalls P f vs h R := by
  refine ⟨hc.1, fun M w args hm hs ha => (hc.2 M w args hm hs ha).mono ?_⟩
  rintro e w' ⟨cv, v, h', M', rfl, hp, hv, hb1, hb2, hR⟩
  exact ⟨cv, v, _, _, rfl, hp.cut hs hb2, hv.bel2 hb1, hR⟩
end Go.Proofs.Ytdnefcjbcieecaa
