/- Freezing: an own block is never written again; its content goes into the values that refer to it. -/
import Derived.Test.YtdnefcjbcieecaaCoreS
set_option linter.unusedVariables false
set_option linter.unusedSimpArgs false
namespace Go.Proofs.Ytdnefcjbcieecaa
open Go

/-- One cell. -/
def fz1 (id g : Nat) (ds : List D) : V → V
  | .own i g' len => if i = id ∧ g' = g then .d (.sl false len ds) else .own i g' len
  | .ptr i g' off => if i = id ∧ g' = g then .rptr ds off else .ptr i g' off
  | v => v
def fz2 (id g : Nat) (ds : List D) : V → V
  | .agg cs => .agg (cs.map (fz1 id g ds))
  | .fn f a c => .fn f (a.map (fz1 id g ds)) (c.map (fz1 id g ds))
  | v => fz1 id g ds v
def fzV (id g : Nat) (ds : List D) : V → V
  | .tup cs => .tup (cs.map (fz2 id g ds))
  | v => fz2 id g ds v
def fzE (id g : Nat) (ds : List D) (env : Env) : Env := env.map fun p => (p.1, fzV id g ds p.2)
def fzB (id g : Nat) (ds : List D) : Option Blk → Option Blk
  | some (.box cs) => some (.box (cs.map (fz1 id g ds)))
  | some (.loop L) => some (.loop { L with env := fzE id g ds L.env })
  | b => b
/-- What a block holds, if it can be frozen. -/
def blkDs : Option Blk → Option (Nat × List D)
  | some (.box cs) => (toDs cs).map fun ds => (0, ds)
  | some (.row _ _ g ds) => some (g, ds)
  | _ => none
def fzH (id g : Nat) (ds : List D) (h : Heap) : Heap := (h.map (fzB id g ds)).set id none

section
variable {M M2 : Mem} {id g : Nat} {ds : List D} {r : Ref}

/-- What holds of the frozen block. -/
structure Fz (M M2 : Mem) (id g : Nat) (ds : List D) (r : Ref) : Prop where
  ro : ∀ b o v, M.ro b o = some v → M2.ro b o = some v
  mu : M2.mu = M.mu
  df : M2.df = M.df
  cc : M2.cc = M.cc
  at' : M.mu id = some r
  gen : r.gen = g
  cells : ds = [] ∨ ∃ (b : Nat) (vals : Nat → Value), r.blk = some b ∧ (∀ k, k < ds.length → M2.ro b k = some (vals k)) ∧ ∀ (k : Nat) c, ds[k]? = some c → RepD M2.ro c (vals k)

theorem Fz.le (z : Fz M M2 id g ds r) : MuLe M M2 := fun i r h => ⟨r, by rw [z.mu]; exact h, Nat.le_refl _, fun _ => rfl⟩
theorem Fz.mono (z : Fz M M2 id g ds r) {v : V} {c : Value} (h : RepV M v c) : RepV M2 v c := h.mono z.ro z.le

theorem Fz.one (z : Fz M M2 id g ds r) {v : V} {c : Value} (h : RepV M v c) : RepV M2 (fz1 id g ds v) c := by
  unfold fz1
  split
  · rename_i i g' len
    split
    · rename_i e
      obtain ⟨rfl, rfl⟩ := e
      obtain ⟨r', ao, cap, h1, h2, rfl, h3, h4, h5⟩ := h.ownI
      rw [z.at'] at h1
      cases h1
      obtain ⟨h6, h7⟩ := h5 z.gen
      refine .d _ _ ?_
      rcases z.cells with rfl | ⟨b, vals, hb, hro, hrep⟩
      · exact .sl false len cap [] ao 0 0 (fun _ => undef) h3 h4 (fun e => by cases e) (.inl rfl) (fun k hk => by simp at hk) (fun k c hk => by simp at hk)
      · exact .sl false len cap ds ao b 0 vals h3 h4 (fun e => by cases e) (.inr (by rw [h6, hb]; rfl)) (fun k hk => by simpa using hro k hk) hrep
    · exact z.mono h
  · rename_i i g' off
    split
    · rename_i e
      obtain ⟨rfl, rfl⟩ := e
      obtain ⟨r', b, h1, h2, rfl, h3⟩ := h.ptrI
      rw [z.at'] at h1
      cases h1
      have hb := h3 z.gen
      rcases z.cells with rfl | ⟨b', vals, hb', hro, hrep⟩
      · have := RepV.rptr (M := M2) [] off b 0 (fun _ => undef) (fun k hk => by simp at hk) (fun k c hk => by simp at hk)
        simpa using this
      · rw [hb] at hb'
        cases hb'
        have := RepV.rptr (M := M2) ds off b 0 vals (fun k hk => by simpa using hro k hk) hrep
        simpa using this
    · exact z.mono h
  · exact z.mono h

theorem Fz.list (z : Fz M M2 id g ds r) {f : V → V} (hf : ∀ v c, RepV M v c → RepV M2 (f v) c) {cs : List V} {arr : List Value} (h : ∀ (k : Nat) v c, cs[k]? = some v → arr[k]? = some c → RepV M v c) :
    ∀ (k : Nat) v c, (cs.map f)[k]? = some v → arr[k]? = some c → RepV M2 v c := by
  intro k v c hv hc
  rw [List.getElem?_map] at hv
  cases hk : cs[k]? with
  | none => rw [hk] at hv; cases hv
  | some x => rw [hk] at hv; cases hv; exact hf _ _ (h k x c hk hc)

theorem Fz.two (z : Fz M M2 id g ds r) {v : V} {c : Value} (h : RepV M v c) : RepV M2 (fz2 id g ds v) c := by
  unfold fz2
  split
  · rename_i cs
    cases h with | agg _ arr hl h h1 => exact .agg _ arr (by simpa using hl) (z.list (fun _ _ => z.one) h) h1
  · rename_i f a cs
    cases h with | fn _ _ _ a1 a2 l1 l2 h1 h2 => exact .fn _ _ _ a1 a2 (by simpa using l1) (by simpa using l2) (z.list (fun _ _ => z.one) h1) (z.list (fun _ _ => z.one) h2)
  · exact z.one h

theorem Fz.rep (z : Fz M M2 id g ds r) {v : V} {c : Value} (h : RepV M v c) : RepV M2 (fzV id g ds v) c := by
  unfold fzV
  split
  · rename_i cs
    cases h with | tup _ arr hl h => exact .tup _ arr (by simpa using hl) (z.list (fun _ _ => z.two) h)
  · exact z.two h

theorem fzE_get (id g : Nat) (ds : List D) (k : Nat) : ∀ env : Env, (fzE id g ds env).get k = fzV id g ds (env.get k)
  | [] => rfl
  | p :: env => by
    have ih := fzE_get id g ds k env
    unfold fzE at *
    simp only [List.map_cons, Env.get]
    split
    · rfl
    · exact ih
theorem Fz.env (z : Fz M M2 id g ds r) {sz : Nat} {env : Env} {a : Act} (h : RepE sz M env a) : RepE sz M2 (fzE id g ds env) a := by
  refine ⟨h.1, h.2.1.mono (fun b hb => z.df ▸ hb), fun k => ?_⟩
  rw [fzE_get]
  exact z.rep (h.2.2 k)
end


theorem fzH_get {id g : Nat} {ds : List D} {h : Heap} {i : Nat} {blk : Blk} (hi : (fzH id g ds h)[i]? = some (some blk)) : i ≠ id ∧ ∃ b0, h[i]? = some (some b0) ∧ fzB id g ds (some b0) = some blk := by
  unfold fzH at hi
  by_cases e : i = id
  · subst e
    rw [List.getElem?_set] at hi
    split at hi
    · split at hi <;> cases hi
    · rename_i hne; exact absurd rfl hne
  · refine ⟨e, ?_⟩
    rw [List.getElem?_set_ne (Ne.symm e), List.getElem?_map] at hi
    cases hb : h[i]? with
    | none => rw [hb] at hi; cases hi
    | some b =>
      rw [hb] at hi
      simp only [Option.map_some, Option.some.injEq] at hi
      cases b with
      | none => cases hi
      | some b0 => exact ⟨b0, rfl, hi⟩

theorem blk_facts {M : Mem} {h : Heap} {w : World} {id g : Nat} {ds : List D} {b : Option Blk} (hs : Sim M h w) (hb : h[id]? = some b) (hd : blkDs b = some (g, ds)) :
    ∃ r, M.mu id = some r ∧ r.gen = g ∧ (ds = [] ∨ ∃ (bb : Nat) (arr : Array Value) (T : TypeId), r.blk = some bb ∧ w.heap[bb]? = some (.cells arr T (0, 0)) ∧ RepDs M ds (arr.toList.take ds.length) ∧ ds.length ≤ arr.size) := by
  cases b with
  | none => cases hd
  | some blk =>
    obtain ⟨r, hr, hat⟩ := hs.blks id blk hb
    cases blk with
    | box cs =>
      obtain ⟨ds', hds, he⟩ := map_some' hd
      cases he
      obtain ⟨h0, bb, arr, T, h1, h2, h3, h4⟩ := hat
      have hrep := toDs_rep h3 hds
      have hl : ds.length = arr.toList.length := hrep.1
      refine ⟨r, hr, h0, .inr ⟨bb, arr, T, h1, h2, ?_, by simpa using Nat.le_of_eq hl⟩⟩
      rw [hl, List.take_length]
      exact hrep
    | row e sz g' cs =>
      cases hd
      refine ⟨r, hr, hat.1, ?_⟩
      rcases hat.2 with ⟨h1, _⟩ | ⟨bb, arr, h1, h2, h3, h4, h5, h6⟩
      · exact .inl h1
      · exact .inr ⟨bb, arr, e, h1, h2, h6, h5⟩
    | obj p => cases hd
    | map es => cases hd
    | loop L => cases hd

theorem freeze_sim {M : Mem} {h : Heap} {w : World} {id g : Nat} {ds : List D} {b : Option Blk} (hs : Sim M h w) (hb : h[id]? = some b) (hd : blkDs b = some (g, ds)) :
    ∃ M2 r, Fz M M2 id g ds r ∧ Sim M2 (fzH id g ds h) w ∧ ∀ b o v, M2.ro b o = some v → M.ro b o = some v ∨ liveBlk M h b := by
  obtain ⟨r, hr, hg, hc⟩ := blk_facts hs hb hd
  have hblk : ∃ blk, b = some blk := by
    cases b with
    | none => cases hd
    | some blk => exact ⟨blk, rfl⟩
  obtain ⟨blk, rfl⟩ := hblk
  -- the memory in which the block may only be read
  have hM : ∃ M2 : Mem, Fz M M2 id g ds r ∧ ∀ bb o v, M2.ro bb o = some v → (M.ro bb o = some v ∨ (r.blk = some bb ∧ w.cell? ⟨bb, o, none⟩ = some v)) := by
    rcases hc with rfl | ⟨bb, arr, T, h1, h2, h3, h4⟩
    · exact ⟨M, ⟨fun _ _ _ h => h, rfl, rfl, rfl, hr, hg, .inl rfl⟩, fun bb o v h => .inl h⟩
    · have hlive : liveBlk M h bb := ⟨id, blk, r, hb, hr, h1⟩
      have hmono : ∀ b o v, M.ro b o = some v → (if b = bb ∧ o < ds.length then arr[o]? else M.ro b o) = some v := by
        intro b o v hv
        rw [if_neg]
        · exact hv
        · rintro ⟨rfl, _⟩; exact (hs.ro _ _ _ hv).2 hlive
      refine ⟨{ M with ro := fun b o => if b = bb ∧ o < ds.length then arr[o]? else M.ro b o }, ⟨hmono, rfl, rfl, rfl, hr, hg, .inr ⟨bb, fun k => arr.getD k undef, h1, fun k hk => ?_, fun k c hk => ?_⟩⟩, fun b o v hv => ?_⟩
      · have : k < arr.size := by omega
        simp [hk, this]
      · have hk' : k < ds.length := (List.getElem?_eq_some_iff.1 hk).1
        have hka : k < arr.size := by omega
        have := h3.2 k c (arr.getD k undef) hk (by simp [List.getElem?_take, hk', hka])
        exact this.mono hmono
      · simp only at hv
        split at hv
        · rename_i e
          obtain ⟨rfl, _⟩ := e
          exact .inr ⟨h1, by simp [World.cell?, h2, hv]⟩
        · exact .inl hv
  obtain ⟨M2, z, hro⟩ := hM
  refine ⟨M2, r, z, ?_, fun bb o v hv => (hro bb o v hv).imp_right fun hx => ⟨id, blk, r, hb, hr, hx.1⟩⟩
  have hlive : ∀ bb, liveBlk M2 (fzH id g ds h) bb → liveBlk M h bb ∧ r.blk ≠ some bb := by
    rintro bb ⟨i, blk', r', hi, hr', hb'⟩
    obtain ⟨hne, b0, hi0, _⟩ := fzH_get hi
    rw [z.mu] at hr'
    refine ⟨⟨i, b0, r', hi0, hr', hb'⟩, fun e => hne ?_⟩
    exact hs.inj i id b0 blk r' r bb hi0 hb hr' hr hb' e
  refine ⟨fun i blk' hi => ?_, fun i j bi bj ri rj bb hi hj hri hrj => ?_, fun bb o v hv => ?_, fun i hi => ?_, fun bb hbb => ?_⟩
  · obtain ⟨hne, b0, hi0, hfz⟩ := fzH_get hi
    obtain ⟨ri, hri, hat⟩ := hs.blks i b0 hi0
    refine ⟨ri, by rw [z.mu]; exact hri, ?_⟩
    cases b0 with
    | box cs =>
      cases hfz
      obtain ⟨h0, bb, arr, T, h1, h2, h3, h4⟩ := hat
      exact ⟨h0, bb, arr, T, h1, h2, ⟨by simpa using h3.1, z.list (fun _ _ => z.one) h3.2⟩, h4⟩
    | row e sz g' cs => cases hfz; exact BlkAt.of_same z.cc z.ro (fun _ _ => z.mono) (fun _ _ => rfl) hat
    | obj p => cases hfz; exact BlkAt.of_same z.cc z.ro (fun _ _ => z.mono) (fun _ _ => rfl) hat
    | map es => cases hfz; exact BlkAt.of_same z.cc z.ro (fun _ _ => z.mono) (fun _ _ => rfl) hat
    | loop L =>
      cases hfz
      obtain ⟨h0, bb, rec, h1, h2, h3⟩ := hat
      obtain ⟨k1, k2, k3, k4, k5, k6, k7⟩ := h3
      exact ⟨h0, bb, rec, h1, h2, k1, k2, k3, z.cc ▸ k4, z.cc ▸ k5, k6, fun k => by
        show RepV M2 (Env.get (fzE id g ds L.env) k) _
        rw [fzE_get]; exact z.rep (k7 k)⟩
  · obtain ⟨_, bi', hi', _⟩ := fzH_get hi
    obtain ⟨_, bj', hj', _⟩ := fzH_get hj
    rw [z.mu] at hri hrj
    exact hs.inj i j bi' bj' ri rj bb hi' hj' hri hrj
  · refine ⟨?_, fun hl => ?_⟩
    · rcases hro bb o v hv with h1 | h1
      · exact (hs.ro bb o v h1).1
      · exact h1.2
    · obtain ⟨hl1, hl2⟩ := hlive bb hl
      rcases hro bb o v hv with h1 | h1
      · exact (hs.ro bb o v h1).2 hl1
      · exact hl2 h1.1
  · rw [z.mu]
    exact hs.dom i (by simpa [fzH] using hi)
  · rw [z.df] at hbb
    exact ⟨(hs.df bb hbb).1, fun hl => (hs.df bb hbb).2 (hlive bb hl).1⟩

theorem freeze_post {n : Nat} {M M1 M2 : Mem} {h h1 : Heap} {w w1 : World} {id g : Nat} {ds : List D} {r : Ref} (p : Post n M h w M1 h1 w1) (z : Fz M1 M2 id g ds r) (hs : Sim M2 (fzH id g ds h1) w1)
    (hnw : ∀ b o v, M2.ro b o = some v → M1.ro b o = some v ∨ liveBlk M1 h1 b) : Post n M h w M2 (fzH id g ds h1) w1 :=
  ⟨fun b o v hv => z.ro _ _ _ (p.ro b o v hv), ⟨⟨fun k hk => z.df ▸ p.dc.1.1 k hk, fun k hk h => p.dc.1.2.1 k hk (z.df ▸ h),
    fun k o v hk h => (hnw k o v h).elim (p.dc.1.2.2 k o v hk) fun hl => .inr (p.live k hk hl)⟩, z.cc.trans p.dc.2⟩, p.le.trans z.le, by have := p.len; simpa [fzH] using this, hs, p.os, p.tape, p.output, p.size, p.keep, fun b hb hl => by
    obtain ⟨i, blk, r', hi, hr, hb'⟩ := hl
    obtain ⟨_, b0, hi0, _⟩ := fzH_get hi
    rw [z.mu] at hr
    exact p.live b hb ⟨i, b0, r', hi0, hr, hb'⟩⟩


/-- What a hint names: a value, or the value in a cell of a box. -/
def frzV (env : Env) (h : Heap) : Nat × Option Nat → V
  | (t, none) => env.get t
  | (t, some off) => match env.get t with
    | .ptr id g o => (h.cell id g (o + off)).getD .any
    | _ => .any
/-- The block of a value, if it can be frozen. -/
def frzB (h : Heap) : V → Option (Nat × Nat × List D)
  | .own id g _ => match (h[id]?).bind blkDs with
    | some (g', ds) => if g = g' then some (id, g, ds) else none
    | none => none
  | .ptr id g _ => match (h[id]?).bind blkDs with
    | some (g', ds) => if g = g' then some (id, g, ds) else none
    | none => none
  | _ => none
theorem frzB_spec {h : Heap} {v : V} {id g : Nat} {ds : List D} (hf : frzB h v = some (id, g, ds)) : ∃ b, h[id]? = some b ∧ blkDs b = some (g, ds) := by
  have key : ∀ (i g0 : Nat), (match (h[i]?).bind blkDs with
      | some (g', ds) => if g0 = g' then some (i, g0, ds) else none
      | none => none) = some (id, g, ds) → ∃ b, h[id]? = some b ∧ blkDs b = some (g, ds) := by
    intro i g0 hh
    split at hh
    · rename_i g' ds' e
      split at hh
      · rename_i hg
        cases hh
        subst hg
        obtain ⟨b, h1, h2⟩ := bind_some' e
        exact ⟨b, h1, h2⟩
      · cases hh
    · cases hh
  unfold frzB at hf
  split at hf
  · exact key _ _ hf
  · exact key _ _ hf
  · cases hf

end Go.Proofs.Ytdnefcjbcieecaa
