/- Building, storing, indexing, slicing: they have the meaning of 'step'. -/
import Derived.Test.YtdnefcjbcieecaaCoreF
import Derived.Laws.Tables
import Derived.Great.BuildSlice
set_option linter.unusedVariables false
set_option linter.unusedSimpArgs false
namespace Go.Proofs.Ytdnefcjbcieecaa
open Go

theorem putAt_len {α : Type} (l : List α) (off : Nat) (xs : List α) (h : off + xs.length ≤ l.length) : (putAt l off xs).length = l.length := by
  simp [putAt]; omega

theorem putAt_get {α : Type} (l : List α) (off : Nat) (xs : List α) (h : off + xs.length ≤ l.length) (k : Nat) :
    (putAt l off xs)[k]? = if k < off then l[k]? else if k < off + xs.length then xs[k - off]? else l[k]? := by
  unfold putAt
  have ht : (l.take off).length = off := by simp; omega
  by_cases h1 : k < off
  · rw [List.getElem?_append_left (by simp; omega), List.getElem?_append_left (by omega), List.getElem?_take]; simp [h1]
  · by_cases h2 : k < off + xs.length
    · rw [List.getElem?_append_left (by simp; omega), List.getElem?_append_right (by omega), ht]; simp [h1, h2]
    · rw [List.getElem?_append_right (by simp; omega), List.getElem?_drop]
      simp only [h1, h2, if_false, List.length_append, ht]
      congr 1; omega

theorem putAt_rel {α β : Type} {R : α → β → Prop} {l : List α} {l' : List β} {xs : List α} {xs' : List β} {off : Nat} (hl : l.length = l'.length) (hx : xs.length = xs'.length)
    (h : off + xs.length ≤ l.length) (h1 : ∀ (k : Nat) a b, l[k]? = some a → l'[k]? = some b → R a b) (h2 : ∀ (k : Nat) a b, xs[k]? = some a → xs'[k]? = some b → R a b) :
    ∀ (k : Nat) a b, (putAt l off xs)[k]? = some a → (putAt l' off xs')[k]? = some b → R a b := by
  intro k a b ha hb
  rw [putAt_get _ _ _ h] at ha
  rw [putAt_get _ _ _ (by omega)] at hb
  rw [← hx] at hb
  split at ha
  · rename_i h0; simp only [h0, if_true] at hb; exact h1 k a b ha hb
  · rename_i h0; simp only [h0, if_false] at hb
    split at ha
    · rename_i h3; simp only [h3, if_true] at hb; exact h2 _ a b ha hb
    · rename_i h3; simp only [h3, if_false] at hb; exact h1 k a b ha hb

theorem RepL.putAt {M : Mem} {vs xs : List V} {us ys : List Value} {off : Nat} (h : RepL M vs us) (hx : RepL M xs ys) (hf : off + xs.length ≤ vs.length) : RepL M (putAt vs off xs) (putAt us off ys) :=
  ⟨by rw [putAt_len _ _ _ hf, putAt_len _ _ _ (by have := h.1; have := hx.1; omega)]; exact h.1, putAt_rel h.1 hx.1 hf h.2 hx.2⟩
theorem RepDs.putAt {M : Mem} {vs xs : List D} {us ys : List Value} {off : Nat} (h : RepDs M vs us) (hx : RepDs M xs ys) (hf : off + xs.length ≤ vs.length) : RepDs M (putAt vs off xs) (putAt us off ys) :=
  ⟨by rw [putAt_len _ _ _ hf, putAt_len _ _ _ (by have := h.1; have := hx.1; omega)]; exact h.1, putAt_rel h.1 hx.1 hf h.2 hx.2⟩

theorem putAt_mem {α : Type} {l xs : List α} {off : Nat} {u : α} (hu : u ∈ putAt l off xs) : u ∈ l ∨ u ∈ xs := by
  simp only [Go.Proofs.Ytdnefcjbcieecaa.putAt, List.mem_append] at hu
  rcases hu with (hu | hu) | hu
  · exact .inl (List.mem_of_mem_take hu)
  · exact .inr hu
  · exact .inl (List.mem_of_mem_drop hu)

theorem fold_set {α : Type} (off : Nat) : ∀ (l : List α) (i : Nat) (cs : Array α), off + i + l.length ≤ cs.size →
    ((l.zipIdx i).foldl (fun cs (c : α × Nat) => cs.setIfInBounds (off + c.2) c.1) cs).toList = putAt cs.toList (off + i) l
  | [], i, cs, _ => by simp [putAt]
  | x :: l, i, cs, h => by
    simp only [List.zipIdx_cons, List.foldl_cons]
    rw [fold_set off l (i + 1) _ (by simp at h ⊢; omega)]
    simp at h
    apply List.ext_getElem?
    intro k
    rw [putAt_get _ _ _ (by simp; omega), putAt_get _ _ _ (by simp; omega)]
    simp only [Array.toList_setIfInBounds, List.length_cons, List.getElem?_set]
    by_cases h1 : k < off + i
    · have : ¬ off + i = k := by omega
      simp [h1, this]; omega
    · by_cases h2 : k = off + i
      · subst h2; simp; omega
      · have e1 : ¬ k < off + (i + 1) := by omega
        have e2 : ¬ off + i = k := by omega
        have e3 : k - (off + i) = (k - (off + (i + 1))) + 1 := by omega
        simp only [h1, e1, e2, if_false]
        rw [e3, List.getElem?_cons_succ]
        have e4 : (k < off + (i + 1) + l.length) = (k < off + i + (l.length + 1)) := by simp; omega
        simp only [e4]

theorem fold_setA {α : Type} (off : Nat) (v : Array α) (cs : Array α) (h : off + v.size ≤ cs.size) :
    v.zipIdx.foldl (fun cs (c : α × Nat) => cs.setIfInBounds (off + c.2) c.1) cs = (putAt cs.toList off v.toList).toArray := by
  rw [← Array.foldl_toList, Array.toList_zipIdx]
  apply Array.ext'
  have := fold_set off v.toList 0 cs (by simpa using h)
  simpa using this

theorem fill_spec (place : Nat → Option (Nat × Nat)) (ρ : Operand → Value) : ∀ (ps : List (Nat × Operand)) (qs : List (Nat × List Value)) (cells : Array Value),
    (∀ (k : Nat) p, ps[k]? = some p → ∃ q, qs[k]? = some q ∧ place p.1 = some (q.1, q.2.length) ∧ (ρ p.2).cells.toList = q.2) → ps.length = qs.length →
    (∀ q ∈ qs, q.1 + q.2.length ≤ cells.size) →
    Instr.fill place cells (ps.map fun p => (p.1, ρ p.2)) = some (fillL cells.toList qs).toArray
  | [], qs, cells, _, hl, _ => by
    obtain rfl : qs = [] := List.eq_nil_of_length_eq_zero hl.symm
    simp [Instr.fill, fillL]
  | p :: ps, [], cells, h, hl, hf => by simp at hl
  | p :: ps, q :: qs, cells, h, hl, hf => by
    obtain ⟨q', e1, e2, e3⟩ := h 0 p rfl
    simp at e1; subst e1
    have hsz : (ρ p.2).cells.size = q.2.length := by rw [← e3]; simp
    have hq := hf q (by simp)
    have hfs := fold_setA q.1 (ρ p.2).cells cells (by omega)
    have ih := fill_spec place ρ ps qs (putAt cells.toList q.1 (ρ p.2).cells.toList).toArray
      (fun k p' hk => by obtain ⟨q', a, b⟩ := h (k + 1) p' (by simpa using hk); exact ⟨q', by simpa using a, b⟩) (by simpa using hl) (fun q' hq' => by
        have h5 := hf q' (List.mem_cons_of_mem _ hq')
        simp only [List.size_toArray]
        rw [putAt_len _ _ _ (by simp; omega)]
        simpa using h5)
    simp only [List.map_cons, Instr.fill, e2]
    rw [if_neg (by simp; omega), hfs, ih, e3]
    simp [fillL]

theorem fillL_rel {α β : Type} {R : α → β → Prop} : ∀ {ps : List (Nat × List α)} {qs : List (Nat × List β)} {l : List α} {l' : List β}, l.length = l'.length →
    (∀ (k : Nat) a b, l[k]? = some a → l'[k]? = some b → R a b) → ps.length = qs.length →
    (∀ (k : Nat) p q, ps[k]? = some p → qs[k]? = some q → p.1 = q.1 ∧ p.2.length = q.2.length ∧ p.1 + p.2.length ≤ l.length ∧ ∀ (j : Nat) a b, p.2[j]? = some a → q.2[j]? = some b → R a b) →
    (fillL l ps).length = (fillL l' qs).length ∧ ∀ (k : Nat) a b, (fillL l ps)[k]? = some a → (fillL l' qs)[k]? = some b → R a b
  | [], [], l, l', hl, h, _, _ => ⟨hl, h⟩
  | [], q :: qs, l, l', _, _, hl, _ => by simp at hl
  | p :: ps, [], l, l', _, _, hl, _ => by simp at hl
  | (off, xs) :: ps, (off', ys) :: qs, l, l', hl, h, hq, hp => by
    obtain ⟨e1, e2, e3, e4⟩ := hp 0 _ _ rfl rfl
    simp only at e1 e2 e3 e4
    subst e1
    have hlp := putAt_len l off xs e3
    simp only [fillL]
    refine fillL_rel (by rw [hlp, putAt_len _ _ _ (by omega)]; exact hl) (putAt_rel hl e2 e3 h e4) (by simpa using hq) (fun k p q h1 h2 => ?_)
    rw [hlp]
    exact hp (k + 1) p q (by simpa using h1) (by simpa using h2)

theorem fillL_mem {α : Type} : ∀ {qs : List (Nat × List α)} {l : List α} {u : α}, u ∈ fillL l qs → u ∈ l ∨ ∃ q ∈ qs, u ∈ q.2
  | [], l, u, h => .inl h
  | (off, xs) :: qs, l, u, h => by
    rcases fillL_mem (qs := qs) h with h | ⟨q, hq, hu⟩
    · rcases putAt_mem h with h | h
      · exact .inl h
      · exact .inr ⟨_, List.mem_cons_self, h⟩
    · exact .inr ⟨q, List.mem_cons_of_mem _ hq, hu⟩

section
variable {P : Program} {n : Nat} {o : Oper} {ρV : Operand → V} {ρ : Operand → Value} {M : Mem} {h : Heap} {w : World} {K : V → Heap → Prop}

theorem partsV_spec (hρ : ∀ x, RepV M (ρV x) (ρ x)) : ∀ (ps : List (Nat × Nat × Operand)) (qs : List (Nat × List V)), partsV ρV ps = some qs →
    ps.length = qs.length ∧ ∀ (k : Nat) p, ps[k]? = some p → ∃ cs, qs[k]? = some (p.1, cs) ∧ cs.length = p.2.1 ∧ RepL M cs (ρ p.2.2).cells.toList ∧ ∀ u ∈ (ρ p.2.2).cells.toList, u.oneCell' = true
  | [], qs, h => by cases h; exact ⟨rfl, fun k p hk => by simp at hk⟩
  | (off, sz, x) :: ps, qs, h => by
    unfold partsV at h
    split at h
    · rename_i cs hcs
      split at h
      · rename_i hsz
        cases hps : partsV ρV ps with
        | none => rw [hps] at h; cases h
        | some rs =>
          rw [hps] at h; cases h
          obtain ⟨e1, e2⟩ := partsV_spec hρ ps rs hps
          refine ⟨by simp [e1], fun k p hk => ?_⟩
          cases k with
          | zero => simp at hk; subst hk; exact ⟨cs, rfl, hsz, cellsV_rep (hρ x) hcs⟩
          | succ k => exact e2 k p (by simpa using hk)
      · cases h
    · cases h

theorem built_of (T : TypeId) (pl : Nat → Option (Nat × Nat)) (i : TypeInfo) (z : Value) (vals : List (Nat × Value)) (h1 : placeOf P T = some pl) (h2 : P.info? T = some i) (h3 : i.zero = some z) :
    P.built T vals = Instr.fill pl z.cells vals := by
  unfold placeOf at h1
  split at h1
  · rename_i fs hu
    cases hp : fs.toList.mapM (fun f => (P.info? f.type).map fun i => (f.offset, i.size)) with
    | none => rw [hp] at h1; cases h1
    | some places =>
      rw [hp] at h1
      cases h1
      simp [Program.built, h2, hu, h3, hp]
  · rename_i k e hu
    cases hi : P.info? e with
    | none => rw [hi] at h1; cases h1
    | some ie => rw [hi] at h1; cases h1; simp [Program.built, h2, hu, h3, hi]
  · cases h1

theorem partsOf_spec {pl : Nat → Option (Nat × Nat)} : ∀ {l : List (Nat × Operand)} {ps : List (Nat × Nat × Operand)}, partsOf pl l = some ps →
    l.length = ps.length ∧ ∀ (k : Nat) p, l[k]? = some p → ∃ q, pl p.1 = some q ∧ ps[k]? = some (q.1, q.2, p.2)
  | [], ps, h => by cases h; exact ⟨rfl, fun k p hk => by simp at hk⟩
  | p :: l, ps, h => by
    unfold partsOf at h
    split at h
    · rename_i q r hq hr
      cases h
      obtain ⟨e1, e2⟩ := partsOf_spec hr
      refine ⟨by simp [e1], fun k p' hk => ?_⟩
      cases k with
      | zero => simp at hk; subst hk; exact ⟨q, hq, rfl⟩
      | succ k => obtain ⟨q', a, b⟩ := e2 k p' (by simpa using hk); exact ⟨q', a, by simpa using b⟩
    · cases h

theorem fitL_spec {α : Type} {m : Nat} {qs : List (Nat × List α)} (h : fitL m qs = true) {k : Nat} {q : Nat × List α} (hk : qs[k]? = some q) : q.1 + q.2.length ≤ m := by
  have := List.all_eq_true.1 h q (List.mem_of_getElem? hk)
  simpa using this

theorem snd_build (T : TypeId) (parts : Array (Nat × Operand)) (pl : Nat → Option (Nat × Nat)) (z : List D) (ps : List (Nat × Nat × Operand)) (hop : o.op = .build T parts) (h1 : placeOf P T = some pl) (h2 : zeroCells? P T = some z)
    (h3 : partsOf pl parts.toList = some ps)
    (hρ : ∀ x, RepV M (ρV x) (ρ x)) (hs : Sim M h w) (hn : n ≤ h.length) (hk : step (.build (z.map V.d) ps) ρV h K) : Out n M h w K ((execOp ρ o).run P w) := by
  obtain ⟨i, v, hi, hv, hzr, hzrep, hz1⟩ := zeroCells_spec (M := M) (w := w) h2
  obtain ⟨qs, hq, hf, hk⟩ := hk
  obtain ⟨e1, e2⟩ := partsOf_spec h3
  obtain ⟨e3, e4⟩ := partsV_spec hρ ps qs hq
  have hzl : (z.map V.d).length = v.cells.size := by have := hzrep.1; simpa using this
  let us : List (Nat × List Value) := ps.map fun p => (p.1, (ρ p.2.2).cells.toList)
  have hfill := fill_spec pl ρ parts.toList us v.cells (fun k p hkp => by
      obtain ⟨q, hq1, hq2⟩ := e2 k p hkp
      obtain ⟨cs, hc1, hc2, hc3, _⟩ := e4 k _ hq2
      refine ⟨(q.1, (ρ p.2).cells.toList), by simp [us, hq2], ?_, rfl⟩
      have : cs.length = (ρ p.2).cells.toList.length := hc3.1
      simp only at hc2
      rw [hq1, ← this, hc2]) (by simp [us, e1]) (fun q hqm => by
      obtain ⟨k, hkq⟩ := List.getElem?_of_mem hqm
      simp only [us, List.getElem?_map] at hkq
      cases hp : ps[k]? with
      | none => rw [hp] at hkq; cases hkq
      | some p =>
        rw [hp] at hkq; cases hkq
        obtain ⟨cs, hc1, hc2, hc3, _⟩ := e4 k p hp
        have h9 := fitL_spec hf hc1
        have : cs.length = (ρ p.2.2).cells.toList.length := hc3.1
        simp only at h9 ⊢
        omega)
  have hrel := fillL_rel (R := RepV M) (ps := qs) (qs := us) (l := z.map V.d) (l' := v.cells.toList) (by simpa using hzl) hzrep.toL.2 (by simp [us, e3]) (fun k p q h5 h6 => by
      simp only [us, List.getElem?_map] at h6
      cases hp : ps[k]? with
      | none => rw [hp] at h6; cases h6
      | some p' =>
        rw [hp] at h6; cases h6
        obtain ⟨cs, hc1, hc2, hc3, _⟩ := e4 k p' hp
        rw [h5] at hc1; cases hc1
        exact ⟨rfl, hc3.1, fitL_spec hf h5, hc3.2⟩)
  refine Out.pure (cv := .agg (fillL v.cells.toList us).toArray) hs hn (.agg _ _ hrel.1 hrel.2 (fun u hu => ?_)) hk ?_
  · rcases fillL_mem hu with hu | ⟨q, hqm, hu⟩
    · exact hz1 u hu
    · obtain ⟨k, hkq⟩ := List.getElem?_of_mem hqm
      simp only [us, List.getElem?_map] at hkq
      cases hp : ps[k]? with
      | none => rw [hp] at hkq; cases hkq
      | some p => rw [hp] at hkq; cases hkq; obtain ⟨cs, _, _, _, h9⟩ := e4 k p hp; exact h9 u hu
  · have hb := run_build (P := P) w T (parts.map fun (i, x) => (i, ρ x)) (fillL v.cells.toList us).toArray (by
      rw [built_of T pl i v _ h1 hi hv]
      simpa using hfill)
    simp [execOp, hop, hb]

theorem partsD_spec (hρ : ∀ x, RepV M (ρV x) (ρ x)) (sz : Nat) : ∀ (ps : List (Nat × Operand)) (qs : List (Nat × List D)), partsD ρV sz ps = some qs →
    ps.length = qs.length ∧ ∀ (k : Nat) p, ps[k]? = some p → ∃ cs, qs[k]? = some (p.1, cs) ∧ cs.length = sz ∧ RepDs M cs (ρ p.2).cells.toList ∧ ∀ u ∈ (ρ p.2).cells.toList, u.oneCell' = true
  | [], qs, h => by cases h; exact ⟨rfl, fun k p hk => by simp at hk⟩
  | (off, x) :: ps, qs, h => by
    unfold partsD at h
    split at h
    · rename_i cs hcs
      split at h
      · rename_i hsz
        cases hps : partsD ρV sz ps with
        | none => rw [hps] at h; cases h
        | some rs =>
          rw [hps] at h; cases h
          obtain ⟨e1, e2⟩ := partsD_spec hρ sz ps rs hps
          refine ⟨by simp [e1], fun k p hk => ?_⟩
          cases k with
          | zero =>
            simp at hk; subst hk
            cases hcv : cellsV (ρV x) with
            | none => rw [hcv] at hcs; cases hcs
            | some vs =>
              rw [hcv] at hcs
              obtain ⟨h5, h6⟩ := cellsV_rep (hρ x) hcv
              exact ⟨cs, rfl, hsz, toDs_rep h5 hcs, h6⟩
          | succ k => exact e2 k p (by simpa using hk)
      · cases h
    · cases h

/-- A new row at the end of the heap. -/
theorem alloc_row {arr : Array Value} {e sz cap : Nat} {ds : List D} (hs : Sim M h w) (hn : n ≤ h.length)
    (hr : RepDs M ds (arr.toList.take ds.length)) (hl : ds.length ≤ arr.size) (hc : arr.size = cap * sz) (hm : cap ≤ maxLen) :
    Post n M h w (M.setMu h.length ⟨some w.heap.size, cap, 0⟩) (h ++ [some (.row e sz 0 ds)]) (w.alloc (.cells arr e)) ∧
      (∀ x u, RepV M x u → RepV (M.setMu h.length ⟨some w.heap.size, cap, 0⟩) x u) := by
  refine ⟨new_block (blk := .row e sz 0 ds) (o := .cells arr e) hs (by simp; omega) hs.mu_len (by simp) (fun j x hj hx => ?_) (by simp) rfl rfl rfl rfl ?_, fun x u hx => hx.setMu (fun r0 h => by rw [hs.mu_len] at h; cases h)⟩
  · rcases Nat.lt_or_ge j h.length with hl | hl
    · rwa [List.getElem?_append_left hl] at hx
    · rw [List.getElem?_append_right hl] at hx
      cases hd : j - h.length with
      | zero => omega
      | succ m => rw [hd] at hx; simp at hx
  · exact ⟨rfl, .inr ⟨w.heap.size, arr, rfl, heap_alloc_new w _, hc, hm, hl, hr⟩⟩

theorem snd_bslice (T e : TypeId) (len : Nat) (parts : Array (Nat × Operand)) (own : Bool) (i : TypeInfo) (z : List D) (hop : o.op = .buildSlice T len parts) (h1 : P.underlying T = some (.slice e)) (h2 : P.info? e = some i)
    (h3 : zeroCells? P e = some z) (h4 : 0 < i.size) (h5 : z.length = i.size) (h6 : len * i.size ≤ 2 ^ 24)
    (hρ : ∀ x, RepV M (ρV x) (ρ x)) (hs : Sim M h w) (hn : n ≤ h.length)
    (hk : step (.bslice own e i.size len ((List.range (len * i.size)).map fun j => z.getD (j % z.length) .any) (parts.toList.map fun p => (p.1 * i.size, p.2))) ρV h K) : Out n M h w K ((execOp ρ o).run P w) := by
  obtain ⟨i', v, hi, hv, hzr, hzrep, hz1⟩ := zeroCells_spec (M := M) (w := w) h3
  rw [h2] at hi; cases hi
  have hvs : v.cells.size = i.size := by have := hzrep.1; simp at this; omega
  obtain ⟨qs, hq, hf, hk⟩ : ∃ qs, partsD ρV i.size (parts.toList.map fun p => (p.1 * i.size, p.2)) = some qs ∧ fitL ((List.range (len * i.size)).map fun j => z.getD (j % z.length) .any).length qs = true ∧
      (if own then K (.own h.length 0 len) (h ++ [some (.row e i.size 0 (fillL ((List.range (len * i.size)).map fun j => z.getD (j % z.length) .any) qs))])
        else K (.d (.sl true len (fillL ((List.range (len * i.size)).map fun j => z.getD (j % z.length) .any) qs))) h) := by
    cases own <;> exact hk
  obtain ⟨e3, e4⟩ := partsD_spec hρ i.size _ qs hq
  let base : Array Value := (Array.range (len * i.size)).map (v.cells[· % v.cells.size]!)
  have hbase : RepDs M ((List.range (len * i.size)).map fun j => z.getD (j % z.length) .any) base.toList := by
    refine ⟨by simp [base], fun k x c hx hc => ?_⟩
    simp only [base, Array.toList_map, Array.toList_range, List.getElem?_map] at hx hc
    by_cases hkl : k < len * i.size
    · simp only [List.getElem?_range hkl, Option.map_some, Option.some.injEq] at hx hc
      subst hx; subst hc
      have hm : k % i.size < i.size := Nat.mod_lt _ h4
      rw [h5, hvs]
      have := hzrep.2 (k % i.size) (z[k % i.size]'(by omega)) (v.cells[k % i.size]'(by omega)) (by simp) (by simp [hvs, hm])
      rw [getElem!_pos v.cells (k % i.size) (by omega)]
      simpa [List.getD, h5, hm] using this
    · rw [List.getElem?_eq_none (by simpa using hkl)] at hx; cases hx
  have hbone : ∀ u ∈ base.toList, u.oneCell' = true := by
    intro u hu
    simp only [base, Array.toList_map, Array.toList_range, List.mem_map, List.mem_range] at hu
    obtain ⟨k, hkl, rfl⟩ := hu
    have hm : k % i.size < i.size := Nat.mod_lt _ h4
    rw [hvs, getElem!_pos v.cells (k % i.size) (by omega)]
    exact hz1 _ (by simp)
  let us : List (Nat × List Value) := parts.toList.map fun p => (p.1 * i.size, (ρ p.2).cells.toList)
  have hlb : base.size = len * i.size := by simp [base]
  have hcs : ∀ (k : Nat) p, parts.toList[k]? = some p → ∃ cs, qs[k]? = some (p.1 * i.size, cs) ∧ cs.length = i.size ∧ RepDs M cs (ρ p.2).cells.toList ∧ ∀ u ∈ (ρ p.2).cells.toList, u.oneCell' = true :=
    fun k p hp => e4 k (p.1 * i.size, p.2) (by simp [hp])
  have hfill := fill_spec (fun j => some (j * i.size, i.size)) ρ parts.toList us base (fun k p hkp => by
      obtain ⟨cs, hc1, hc2, hc3, _⟩ := hcs k p hkp
      refine ⟨(p.1 * i.size, (ρ p.2).cells.toList), by simp only [us, List.getElem?_map, hkp, Option.map_some], ?_, rfl⟩
      have : cs.length = (ρ p.2).cells.toList.length := hc3.1
      rw [← this, hc2]) (by simp [us]) (fun q hqm => by
      obtain ⟨k, hkq⟩ := List.getElem?_of_mem hqm
      simp only [us, List.getElem?_map] at hkq
      cases hp : parts.toList[k]? with
      | none => rw [hp] at hkq; cases hkq
      | some p =>
        rw [hp] at hkq; cases hkq
        obtain ⟨cs, hc1, hc2, hc3, _⟩ := hcs k p hp
        have h9 := fitL_spec hf hc1
        have : cs.length = (ρ p.2).cells.toList.length := hc3.1
        simp only [List.length_map, List.length_range] at h9 ⊢
        omega)
  have hrel := fillL_rel (R := RepD M.ro) (ps := qs) (qs := us) (l := (List.range (len * i.size)).map fun j => z.getD (j % z.length) .any) (l' := base.toList) hbase.1 hbase.2 (by rw [← e3]; simp [us]) (fun k p q h7 h8 => by
      simp only [us, List.getElem?_map] at h8
      cases hp : parts.toList[k]? with
      | none => rw [hp] at h8; cases h8
      | some p' =>
        rw [hp] at h8; cases h8
        obtain ⟨cs, hc1, hc2, hc3, _⟩ := hcs k p' hp
        rw [h7] at hc1; cases hc1
        exact ⟨rfl, hc3.1, fitL_spec hf h7, hc3.2⟩)
  have hlen : (fillL base.toList us).length = len * i.size := by
    have : ∀ (qs : List (Nat × List Value)) (l : List Value), (∀ q ∈ qs, q.1 + q.2.length ≤ l.length) → (fillL l qs).length = l.length := by
      intro qs
      induction qs with
      | nil => intro l _; rfl
      | cons q qs ih =>
        intro l hq
        have h0 := hq q (by simp)
        simp only [fillL]
        rw [ih _ (fun q' hq' => by rw [putAt_len _ _ _ h0]; exact hq q' (List.mem_cons_of_mem _ hq')), putAt_len _ _ _ h0]
    rw [this us base.toList (fun q hqm => by
      obtain ⟨k, hkq⟩ := List.getElem?_of_mem hqm
      simp only [us, List.getElem?_map] at hkq
      cases hp : parts.toList[k]? with
      | none => rw [hp] at hkq; cases hkq
      | some p =>
        rw [hp] at hkq; cases hkq
        obtain ⟨cs, hc1, hc2, hc3, _⟩ := hcs k p hp
        have h9 := fitL_spec hf hc1
        have : cs.length = (ρ p.2).cells.toList.length := hc3.1
        simp only [List.length_map, List.length_range, Array.length_toList, hlb] at h9 this ⊢
        omega)]
    simpa using hlb
  have hrun : (execOp ρ o).run P w = .ok (.value (.slice (some ⟨w.heap.size, 0, none⟩) len len)) (w.alloc (.cells (fillL base.toList us).toArray e)) := by
    by_cases h0 : len * i.size = 0
    · have hb0 : base = #[] := Array.eq_empty_of_size_eq_zero (by omega)
      rw [hb0] at hfill
      have hf2 : Instr.fill (fun j => some (j * i.size, i.size)) #[] (parts.map fun (i, x) => (i, ρ x)).toList = some (fillL base.toList us).toArray := by
        rw [hb0]; simpa using hfill
      have hf3 : Instr.fill (fun j => some (j * i.size, i.size)) #[] (parts.toList.map fun (i, x) => (i, ρ x)) = some (fillL base.toList us).toArray := by simpa using hf2
      have hr0 : (Array.map (fun _ => (default : Value)) (Array.range 0)) = #[] := Array.eq_empty_of_size_eq_zero (by simp)
      simp [execOp, hop, Instr.buildSlice, run_underlying h1, sizeOf, typeInfo, h2, h0, hr0, hf3, newRow]
    · have hf2 : Instr.fill (fun j => some (j * i.size, i.size)) base (parts.map fun (i, x) => (i, ρ x)).toList = some (fillL base.toList us).toArray := by simpa using hfill
      have := run_buildSlice (P := P) w T e len (parts.map fun (i, x) => (i, ρ x)) (fillL base.toList us).toArray i v h1 h2 hv (by omega) h0 hf2
      simp [execOp, hop, this]
  have hlm : len ≤ maxLen := by
    have : len ≤ len * i.size := Nat.le_mul_of_pos_right _ h4
    simp only [maxLen]; omega
  cases own with
  | true =>
    obtain ⟨hp, henv⟩ := alloc_row (n := n) (h := h) (w := w) (e := e) (sz := i.size) (cap := len) (arr := (fillL base.toList us).toArray) (ds := fillL ((List.range (len * i.size)).map fun j => z.getD (j % z.length) .any) qs) hs hn (by
      refine ⟨by simp only [List.length_take, hrel.1, Nat.min_self], fun k x c hx hc => ?_⟩
      rw [List.getElem?_take] at hc
      split at hc
      · exact hrel.2 k x c hx (by simpa using hc)
      · cases hc) (by rw [hrel.1]; simp) (by simpa using hlen) hlm
    exact ⟨_, _, _, _, _, .inl hrun, hp, henv, .own _ _ _ _ _ _ (Mem.setMu_same _ _ _) (Nat.le_refl _) (Nat.le_refl _) hlm (fun _ => ⟨rfl, rfl⟩), hk⟩
  | false =>
    refine ⟨.slice (some ⟨w.heap.size, 0, none⟩) len len, _, _, _, _, .inl hrun, new_ro (e := e) (fz := (0, 0)) (arr := (fillL base.toList us).toArray) hs hn rfl rfl rfl rfl, fun y u hy => addRo_rep hs _ hy, ?_, hk⟩
    have hget : ∀ k, k < (fillL ((List.range (len * i.size)).map fun j => z.getD (j % z.length) .any) qs).length → k < (fillL base.toList us).length := fun k hk => by rw [← hrel.1]; exact hk
    refine .d _ _ (.sl true len len _ _ w.heap.size 0 (fun k => (fillL base.toList us)[k]?.getD undef) (Nat.le_refl _) hlm (fun _ => rfl) (.inr rfl) (fun k hkl => ?_) (fun k c hc => ?_))
    · simp [Mem.addRo, hget k hkl]
    · have hlt := (List.getElem?_eq_some_iff.1 hc).1
      have h9 := hrel.2 k c _ hc (List.getElem?_eq_getElem (hget k hlt))
      simp only [List.getElem?_eq_getElem (hget k hlt), Option.getD_some]
      exact h9.mono (addRo_ro hs _)

end
end Go.Proofs.Ytdnefcjbcieecaa
