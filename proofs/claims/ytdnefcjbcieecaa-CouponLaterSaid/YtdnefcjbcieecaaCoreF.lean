/- More operations: they have the meaning of 'step'. -/
import Derived.Test.YtdnefcjbcieecaaCoreE
set_option linter.unusedVariables false
set_option linter.unusedSimpArgs false
namespace Go.Proofs.Ytdnefcjbcieecaa
open Go

theorem Sim.mu_len {M : Mem} {h : Heap} {w : World} (hs : Sim M h w) : M.mu h.length = none := hs.dom _ (Nat.le_refl _)

/-- A new box at the end of the heap. -/
theorem alloc_box {n : Nat} {M : Mem} {h : Heap} {w : World} {arr : Array Value} {e : TypeId} {cs : List V} (hs : Sim M h w) (hn : n ≤ h.length)
    (hr : RepL M cs arr.toList) (h1 : ∀ u ∈ arr.toList, u.oneCell' = true) :
    Post n M h w (M.setMu h.length ⟨some w.heap.size, 0, 0⟩) (h ++ [some (.box cs)]) (w.alloc (.cells arr e)) ∧
      (∀ x u, RepV M x u → RepV (M.setMu h.length ⟨some w.heap.size, 0, 0⟩) x u) := by
  refine ⟨new_block (blk := .box cs) (o := .cells arr e) hs (by simp; omega) hs.mu_len (by simp) (fun j x hj hx => ?_) (by simp) rfl rfl rfl rfl ?_, fun x u hx => hx.setMu (fun r0 h => by rw [hs.mu_len] at h; cases h)⟩
  · rcases Nat.lt_or_ge j h.length with hl | hl
    · rwa [List.getElem?_append_left hl] at hx
    · rw [List.getElem?_append_right hl] at hx
      have : j - h.length ≠ 0 := by omega
      cases hd : j - h.length with
      | zero => omega
      | succ m => rw [hd] at hx; simp at hx
  · exact ⟨rfl, w.heap.size, arr, e, rfl, heap_alloc_new w _, ⟨hr.1, fun k v c hv hc => (hr.2 k v c hv hc).setMu (fun r0 h => by rw [hs.mu_len] at h; cases h)⟩, h1⟩

theorem toDs_rep {M : Mem} : ∀ {vs : List V} {us : List Value} {ds : List D}, RepL M vs us → toDs vs = some ds → RepDs M ds us
  | [], us, ds, h, hd => by cases hd; exact ⟨h.1, fun k x c hx => by simp at hx⟩
  | x :: vs, us, ds, h, hd => by
    cases us with
    | nil => exact absurd h.1 (by simp)
    | cons u us =>
      have h0 : RepV M x u := h.2 0 x u rfl rfl
      have ht : RepL M vs us := ⟨by have := h.1; simpa using this, fun k v c hv hc => h.2 (k + 1) v c (by simpa using hv) (by simpa using hc)⟩
      have fin : ∀ y ys, RepD M.ro y u → toDs vs = some ys → ds = y :: ys → RepDs M ds (u :: us) := by
        rintro y ys hy hys rfl
        have := toDs_rep ht hys
        refine ⟨by simp [this.1], fun k a c ha hc => ?_⟩
        cases k with
        | zero => simp at ha hc; subst ha; subst hc; exact hy
        | succ k => exact this.2 k a c (by simpa using ha) (by simpa using hc)
      unfold toDs at hd
      split at hd
      · rename_i e; cases e
      · rename_i y ys e
        cases e
        cases hys : toDs vs with
        | none => rw [hys] at hd; cases hd
        | some zs => rw [hys] at hd; cases hd; exact fin _ _ h0.dI hys rfl
      · rename_i f ys e
        cases e
        cases hys : toDs vs with
        | none => rw [hys] at hd; cases hd
        | some zs =>
          rw [hys] at hd; cases hd
          refine fin _ _ ?_ hys rfl
          cases h0 with
          | fn _ _ _ a1 a2 e1 e2 =>
            obtain rfl : a1 = [] := List.eq_nil_of_length_eq_zero e1.symm
            obtain rfl : a2 = [] := List.eq_nil_of_length_eq_zero e2.symm
            exact .fn f
      · cases hd

section
variable {P : Program} {n : Nat} {o : Oper} {own : Bool} {ρV : Operand → V} {ρ : Operand → Value} {M : Mem} {h : Heap} {w : World} {K : V → Heap → Prop}

theorem zeroCells_spec {T : TypeId} {z : List D} (hz : zeroCells? P T = some z) : ∃ i v, P.info? T = some i ∧ i.zero = some v ∧ (zeroValue T).run P w = .ok v w ∧ RepDs M z v.cells.toList ∧
    ∀ u ∈ v.cells.toList, u.oneCell' = true := by
  unfold zeroCells? at hz
  cases hi : P.info? T with
  | none => rw [hi] at hz; cases hz
  | some i =>
    rw [hi] at hz
    simp only [Option.bind_some] at hz
    cases hv : i.zero with
    | none => rw [hv] at hz; cases hz
    | some v =>
      rw [hv] at hz
      simp only [Option.bind_some] at hz
      split at hz
      · rename_i hall
        cases hz
        have hall : ∀ u ∈ v.cells.toList, u.oneCell' = true := fun u hu => List.all_eq_true.1 hall u hu
        refine ⟨i, v, rfl, hv, by simp [zeroValue, typeInfo, hi, hv], ⟨by simp, fun k x c hx hc => ?_⟩, hall⟩
        rw [List.getElem?_map, hc] at hx
        cases hx
        exact constD_rep _ _ (hall _ (List.mem_of_getElem? hc))
      · cases hz

theorem RepDs.toL {ds : List D} {us : List Value} (h : RepDs M ds us) : RepL M (ds.map .d) us :=
  ⟨by simpa using h.1, fun k v c hv hc => by
    rw [List.getElem?_map] at hv
    cases hd : ds[k]? with
    | none => rw [hd] at hv; cases hv
    | some y => rw [hd] at hv; cases hv; exact .d _ _ (h.2 k y c hd hc)⟩

theorem snd_alloc (T : TypeId) (z : List D) (hop : o.op = .alloc T) (hz : zeroCells? P T = some z) (hs : Sim M h w) (hn : n ≤ h.length)
    (hk : step (.alloc (z.map .d)) ρV h K) : Out n M h w K ((execOp ρ o).run P w) := by
  obtain ⟨i, v, hi, hv, hr, hrep, h1⟩ := zeroCells_spec (M := M) (w := w) hz
  obtain ⟨hp, henv⟩ := alloc_box (n := n) (arr := v.cells) (e := T) (cs := z.map .d) hs hn hrep.toL h1
  refine ⟨.pointer (some ⟨w.heap.size, 0, none⟩), _, _, _, _, .inl ?_, hp, henv, ?_, hk⟩
  · simp [execOp, hop, Instr.alloc, hr, newVar, newRow]
  · exact .ptr _ _ _ _ _ (Mem.setMu_same _ _ _) (Nat.le_refl _) (fun _ => rfl)

theorem snd_box (T : TypeId) (x : Operand) (own : Bool) (hop : o.op = .box T x) (hx : RepV M (ρV x) (ρ x)) (hs : Sim M h w) (hn : n ≤ h.length)
    (hk : step (.box own x) ρV h K) : Out n M h w K ((execOp ρ o).run P w) := by
  have hrun : (execOp ρ o).run P w = .ok (.value (.pointer (some ⟨w.heap.size, 0, none⟩))) (w.alloc (.cells (ρ x).cells T)) := by
    simp [execOp, hop, Instr.box, newVar, newRow]
  cases own with
  | true =>
    obtain ⟨cs, hc, hk⟩ := hk
    obtain ⟨hrep, h1⟩ := cellsV_rep hx hc
    obtain ⟨hp, henv⟩ := alloc_box (n := n) (e := T) hs hn hrep h1
    exact ⟨.pointer (some ⟨w.heap.size, 0, none⟩), _, _, _, _, .inl hrun, hp, henv, .ptr _ _ _ _ _ (Mem.setMu_same _ _ _) (Nat.le_refl _) (fun _ => rfl), hk⟩
  | false =>
    simp only [step] at hk
    split at hk
    case h_2 =>
      obtain ⟨cs, hc, hk⟩ := hk
      obtain ⟨hrep, h1⟩ := cellsV_rep hx hc
      obtain ⟨hp, henv⟩ := alloc_box (n := n) (e := T) hs hn hrep h1
      exact ⟨.pointer (some ⟨w.heap.size, 0, none⟩), _, _, _, _, .inl hrun, hp, henv, .ptr _ _ _ _ _ (Mem.setMu_same _ _ _) (Nat.le_refl _) (fun _ => rfl), hk⟩
    rename_i ds hc
    cases hcs : cellsV (ρV x) with
    | none => rw [hcs] at hc; cases hc
    | some cs =>
      rw [hcs] at hc
      obtain ⟨hrep, h1⟩ := cellsV_rep hx hcs
      have hd := toDs_rep hrep hc
      refine ⟨.pointer (some ⟨w.heap.size, 0, none⟩), _, _, _, _, .inl hrun, new_ro (e := T) (fz := (0, 0)) (arr := (ρ x).cells) hs hn rfl rfl rfl rfl, fun y u hy => addRo_rep hs _ hy, ?_, hk⟩
      have hget : ∀ k, k < ds.length → k < (ρ x).cells.size := fun k hk => by have := hd.1; simp at this; omega
      have := RepV.rptr (M := M.addRo w.heap.size (ρ x).cells) ds 0 w.heap.size 0 (fun k => (ρ x).cells[k]?.getD undef)
        (fun k hk => by simp [Mem.addRo, hget k hk])
        (fun k c hc => by
          have hlt : k < ds.length := (List.getElem?_eq_some_iff.1 hc).1
          have := hd.2 k c ((ρ x).cells[k]'(hget k hlt)) hc (by simp [hget k hlt])
          simp only [Array.getElem?_eq_getElem (hget k hlt), Option.getD_some]
          exact this.mono (addRo_ro hs _))
      simpa using this

theorem snd_fieldAddr (S : TypeId) (x : Operand) (f : Nat) (fs : Array Field) (fl : Field) (i : TypeInfo) (hop : o.op = .fieldAddr S x f) (h1 : P.underlying S = some (.struct fs)) (h2 : fs[f]? = some fl)
    (h3 : P.info? fl.type = some i) (h4 : i.size ≠ 0) (hx : RepV M (ρV x) (ρ x)) (hs : Sim M h w) (hn : n ≤ h.length)
    (hk : step (.fieldAddr fl.offset x) ρV h K) : Out n M h w K ((execOp ρ o).run P w) := by
  have hrun : ∀ b p, ρ x = .pointer (some ⟨b, p, none⟩) → (execOp ρ o).run P w = .ok (.value (.pointer (some ⟨b, p + fl.offset, none⟩))) w := by
    intro b p hp
    simp [execOp, hop, Instr.fieldAt, run_underlying h1, h2, Instr.sureAddr, hp, fieldPlace, sizeOf, typeInfo, h3, h4, Addr.add_lit]
  simp only [step, onPtr, onAgg, onTup, onStr, onSl] at hk
  split at hk
  · rename_i id g off e
    rw [e] at hx
    obtain ⟨r, b, hm, hg, hp, hv⟩ := hx.ptrI
    exact Out.pure hs hn (.ptr _ _ _ _ _ hm hg hv) hk (hrun _ _ hp)
  · rename_i ds off e
    rw [e] at hx
    obtain ⟨b, o', vals, hp, hro, hrep⟩ := hx.rptrI
    exact Out.pure hs hn (.rptr ds _ b o' vals hro hrep) hk (by rw [hrun _ _ hp, Nat.add_assoc])
  · exact hk.elim

theorem snd_field (S : TypeId) (x : Operand) (f : Nat) (fs : Array Field) (fl : Field) (g : Option Nat) (hop : o.op = .field S x f) (h1 : P.underlying S = some (.struct fs)) (h2 : fs[f]? = some fl)
    (ha : aggOf P fl.type = some g) (hx : RepV M (ρV x) (ρ x)) (hs : Sim M h w) (hn : n ≤ h.length)
    (hk : step (.field g fl.offset x) ρV h K) : Out n M h w K ((execOp ρ o).run P w) := by
  have hagg : ∀ cs, ρV x = .agg cs → ∃ arr : List Value, ρ x = .agg arr.toArray ∧ RepL M cs arr ∧ ∀ u ∈ arr, u.oneCell' = true := by
    intro cs e
    rw [e] at hx
    generalize ρ x = r at hx
    cases hx with | agg _ arr hl hh h1 => exact ⟨arr, rfl, ⟨hl, hh⟩, h1⟩
  cases g with
  | none =>
    obtain ⟨i, hi, hsz, hag⟩ := aggOf_none (w := w) ha
    simp only [step, onPtr, onAgg, onTup, onStr, onSl] at hk
    split at hk
    · rename_i cs e
      obtain ⟨arr, hp, hrep, hone⟩ := hagg cs e
      obtain ⟨v, hv, hk⟩ := hk
      have hlt : fl.offset < arr.length := by have := (List.getElem?_eq_some_iff.1 hv).1; have := hrep.1; omega
      refine Out.pure (cv := arr[fl.offset]) hs hn (hrep.2 _ _ _ hv (by simp [hlt])) hk ?_
      simp [execOp, hop, Instr.field, run_underlying h1, h2, hp, asAgg, part, hag, hlt]
    · exact hk.elim
  | some m =>
    obtain ⟨i, hi, hsz, hag⟩ := aggOf_some (w := w) ha
    simp only [step, onPtr, onAgg, onTup, onStr, onSl] at hk
    split at hk
    · rename_i cs e
      obtain ⟨arr, hp, hrep, hone⟩ := hagg cs e
      obtain ⟨hle, hk⟩ := hk
      refine Out.pure (cv := .agg ((arr.drop fl.offset).take m).toArray) hs hn (.agg _ _ (by have := hrep.1; simp; omega) (fun k v c hv hc => ?_) (fun u hu => hone u (List.mem_of_mem_drop (List.mem_of_mem_take hu)))) hk ?_
      · rw [List.getElem?_take] at hv hc
        split at hv
        · rename_i hkm
          simp only [hkm, if_true, List.getElem?_drop] at hv hc
          exact hrep.2 _ _ _ hv hc
        · cases hv
      · simp only [execOp, hop, Instr.field, part, Sem.run_bind, run_underlying h1, Result.andThen_ok, h2, hp, asAgg, Sem.run_pure, hag, if_true, sizeOf, typeInfo, run_program, hi, hsz]
        simp [List.extract_eq_take_drop]
    · exact hk.elim

theorem snd_extract (x : Operand) (k : Nat) (hop : o.op = .extract x k) (hx : RepV M (ρV x) (ρ x)) (hs : Sim M h w) (hn : n ≤ h.length)
    (hk : step (.extract x k) ρV h K) : Out n M h w K ((execOp ρ o).run P w) := by
  simp only [step, onPtr, onAgg, onTup, onStr, onSl] at hk
  split at hk
  · rename_i vs e
    rw [e] at hx
    obtain ⟨arr, hp, hrep⟩ := hx.tupI
    obtain ⟨v, hv, hk⟩ := hk
    have hlt : k < arr.length := by have := (List.getElem?_eq_some_iff.1 hv).1; have := hrep.1; omega
    refine Out.pure (cv := arr[k]) hs hn (hrep.2 _ _ _ hv (by simp [hlt])) hk ?_
    simp [execOp, hop, Instr.extract, hp, hlt]
  · exact hk.elim

theorem snd_nilCheck (x : Operand) (hop : o.op = .nilCheck x) (hx : RepV M (ρV x) (ρ x)) (hs : Sim M h w) (hn : n ≤ h.length)
    (hk : step (.nilCheck x) ρV h K) : Out n M h w K ((execOp ρ o).run P w) := by
  simp only [step, onPtr, onAgg, onTup, onStr, onSl] at hk
  split at hk
  · rename_i id g off e
    rw [e] at hx
    obtain ⟨r, b, hm, hg, hp, hv⟩ := hx.ptrI
    exact Out.pure hs hn hx hk (by simp [execOp, hop, hp])
  · rename_i ds off e
    rw [e] at hx
    obtain ⟨b, o', vals, hp, hro, hrep⟩ := hx.rptrI
    exact Out.pure hs hn hx hk (by simp [execOp, hop, hp])
  · exact hk.elim

theorem snd_mkfn (f : Fn) (a c : Array Operand) (hop : o.op = .makeFunc f a c) (ha : ∀ x ∈ a, RepV M (ρV x) (ρ x)) (hc : ∀ x ∈ c, RepV M (ρV x) (ρ x)) (hs : Sim M h w) (hn : n ≤ h.length)
    (hk : step (.mkfn f a.toList c.toList) ρV h K) : Out n M h w K ((execOp ρ o).run P w) := by
  refine Out.pure (cv := .func f (a.toList.map ρ).toArray (c.toList.map ρ).toArray) hs hn (.fn f _ _ _ _ (by simp) (by simp) (fun k v u hv hu => ?_) (fun k v u hv hu => ?_)) hk ?_
  · rw [List.getElem?_map] at hv hu
    cases hx : a.toList[k]? with
    | none => rw [hx] at hv; cases hv
    | some x => rw [hx] at hv hu; cases hv; cases hu; exact ha x (by have := List.mem_of_getElem? hx; simpa using this)
  · rw [List.getElem?_map] at hv hu
    cases hx : c.toList[k]? with
    | none => rw [hx] at hv; cases hv
    | some x => rw [hx] at hv hu; cases hv; cases hu; exact hc x (by have := List.mem_of_getElem? hx; simpa using this)
  · obtain ⟨a⟩ := a; obtain ⟨c⟩ := c
    simp [execOp, hop, Instr.makeFunc]

end
end Go.Proofs.Ytdnefcjbcieecaa
