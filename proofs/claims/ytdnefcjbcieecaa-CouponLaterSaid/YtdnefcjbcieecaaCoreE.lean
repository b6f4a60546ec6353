/- The operations on memory: they have the meaning of 'step'. -/
import Derived.Test.YtdnefcjbcieecaaCoreD
set_option linter.unusedVariables false
set_option linter.unusedSimpArgs false
namespace Go.Proofs.Ytdnefcjbcieecaa
open Go

def Mem.addRo (M : Mem) (b : Nat) (arr : Array Value) : Mem := { M with ro := fun b' o => if b' = b then arr[o]? else M.ro b' o }

theorem ro_lt {M : Mem} {h : Heap} {w : World} (hs : Sim M h w) {b o : Nat} {v : Value} (hv : M.ro b o = some v) : b < w.heap.size :=
  World.block_lt_of_cell? w ⟨b, o, none⟩ (hs.ro b o v hv).1

theorem addRo_ro {M : Mem} {h : Heap} {w : World} (hs : Sim M h w) (arr : Array Value) : ∀ b o v, M.ro b o = some v → (M.addRo w.heap.size arr).ro b o = some v := by
  intro b o v hv
  have := ro_lt hs hv
  simp [Mem.addRo, Nat.ne_of_lt this, hv]

theorem addRo_rep {M : Mem} {h : Heap} {w : World} (hs : Sim M h w) (arr : Array Value) {x : V} {u : Value} (hx : RepV M x u) : RepV (M.addRo w.heap.size arr) x u :=
  RepV.mono (M := M) (M' := M.addRo w.heap.size arr) (addRo_ro hs arr) (fun i r h => ⟨r, h, Nat.le_refl _, fun _ => rfl⟩) hx

theorem new_ro {n : Nat} {M : Mem} {h : Heap} {w w' : World} {arr : Array Value} {e : TypeId} {fz : Nat × Nat} (hs : Sim M h w) (hn : n ≤ h.length) (hw : w'.heap = w.heap.push (.cells arr e fz))
    (h1 : w'.os = w.os) (h2 : w'.tape = w.tape) (h3 : w'.output = w.output) : Post n M h w (M.addRo w.heap.size arr) h w' := by
  have hold : ∀ k, k < w.heap.size → w'.heap[k]? = w.heap[k]? := fun k hk => by rw [hw, Array.getElem?_push]; simp [Nat.ne_of_lt hk]
  refine ⟨addRo_ro hs arr, ⟨⟨fun _ h => h, fun _ _ h => h, fun b o v hb h => by simp only [Mem.addRo, Nat.ne_of_lt hb, if_false] at h; exact .inl h⟩, rfl⟩, fun i r h => ⟨r, h, Nat.le_refl _, fun _ => rfl⟩, hn, ⟨?_, ?_, ?_, ?_, ?_⟩, h1, h2, h3, by rw [hw]; simp, fun k hk _ => hold k hk, fun _ _ hl => hl⟩
  · intro i blk hi
    obtain ⟨r, hr, hat⟩ := hs.blks i blk hi
    exact ⟨r, hr, BlkAt.of_same rfl (M := M) (w := w) (addRo_ro hs arr) (fun _ _ hx => addRo_rep hs arr hx) (fun k hk => hold k (hs.live_lt ⟨i, blk, r, hi, hr, hk⟩)) hat⟩
  · exact hs.inj
  · intro b o v hv
    by_cases hb : b = w.heap.size
    · subst hb
      simp only [Mem.addRo, if_true] at hv
      refine ⟨by simp [World.cell?, hw, hv], fun hl => ?_⟩
      exact absurd (hs.live_lt hl) (Nat.lt_irrefl _)
    · simp only [Mem.addRo, hb, if_false] at hv
      obtain ⟨hc, hnl⟩ := hs.ro b o v hv
      exact ⟨by rw [World.cell?_of_block (w := w) (hold b (ro_lt hs hv))]; exact hc, hnl⟩
  · exact hs.dom
  · intro b hb
    obtain ⟨hc, hnl⟩ := hs.df b hb
    exact ⟨by rw [hold b (Array.getElem?_eq_some_iff.1 hc).1]; exact hc, hnl⟩

/-- The cells of an entry. -/
def Blk.vs : Blk → Option (List V)
  | .box cs => some cs
  | .row _ _ _ ds => some (ds.map .d)
  | .obj _ => none
  | .map _ => none
  | .loop _ => none

theorem BlkAt.genEq {M : Mem} {w : World} {r : Ref} {blk : Blk} (hat : BlkAt M w r blk) : r.gen = blk.gen := by
  cases blk with
  | box l => exact hat.1
  | row e sz g ds => exact hat.1
  | obj p => exact hat.1
  | map es => exact hat.1
  | loop L => exact hat.1

theorem BlkAt.cells {M : Mem} {w : World} {r : Ref} {blk : Blk} {cs : List V} (hat : BlkAt M w r blk) (hv : blk.vs = some cs) (hne : cs ≠ []) :
    ∃ b arr T, r.blk = some b ∧ w.heap[b]? = some (.cells arr T (0, 0)) ∧ cs.length ≤ arr.size ∧ ∀ (k : Nat) v, cs[k]? = some v → ∃ u, arr[k]? = some u ∧ RepV M v u ∧ u.oneCell' = true := by
  cases blk with
  | box l =>
    cases hv
    obtain ⟨_, b, arr, T, h1, h2, h3, h4⟩ := hat
    refine ⟨b, arr, T, h1, h2, by rw [h3.1]; simp, fun k v hk => ?_⟩
    have hlt : k < cs.length := (List.getElem?_eq_some_iff.1 hk).1
    have hlt' : k < arr.size := by have := h3.1; simp at this; omega
    refine ⟨arr[k], by simp [hlt'], h3.2 k v _ hk (by simp [hlt']), h4 _ (by simp)⟩
  | row e sz g ds =>
    cases hv
    rcases hat.2 with ⟨rfl, _⟩ | ⟨b, arr, h1, h2, h3, h4, h5, h6⟩
    · simp at hne
    · refine ⟨b, arr, e, h1, h2, by simpa using h5, fun k v hk => ?_⟩
      rw [List.getElem?_map] at hk
      cases hd : ds[k]? with
      | none => rw [hd] at hk; cases hk
      | some x =>
        rw [hd] at hk; cases hk
        have hlt : k < ds.length := (List.getElem?_eq_some_iff.1 hd).1
        have hlt' : k < arr.size := by omega
        have := h6.2 k x arr[k] hd (by rw [List.getElem?_take]; simp [hlt, hlt'])
        exact ⟨arr[k], by simp [hlt'], .d _ _ this, this.one⟩
  | obj p => cases hv
  | map es => cases hv
  | loop L => cases hv

theorem Heap.cell_vs {h : Heap} {id g off : Nat} {v : V} (hc : h.cell id g off = some v) : ∃ blk cs, h[id]? = some (some blk) ∧ blk.vs = some cs ∧ cs[off]? = some v ∧ blk.gen = g := by
  unfold Heap.cell at hc
  split at hc
  · rename_i cs e
    split at hc
    · rename_i hg; exact ⟨_, cs, e, rfl, hc, hg.symm⟩
    · cases hc
  · rename_i g' ds e
    split at hc
    · rename_i hg; exact ⟨_, _, e, rfl, by rw [List.getElem?_map]; exact hc, hg.symm⟩
    · cases hc
  · cases hc

theorem cell_of_ptr {M : Mem} {h : Heap} {w : World} {id g off : Nat} {v : V} {cv : Value} (hs : Sim M h w) (hp : RepV M (.ptr id g off) cv) (hc : h.cell id g off = some v) :
    ∃ b u, cv = .pointer (some ⟨b, off, none⟩) ∧ w.cell? ⟨b, off, none⟩ = some u ∧ RepV M v u ∧ u.oneCell' = true := by
  obtain ⟨blk, cs, hi, hv, hk, hg⟩ := Heap.cell_vs hc
  obtain ⟨r, hr, hat⟩ := hs.blks id blk hi
  obtain ⟨r', b, hr', _, rfl, hpp⟩ := hp.ptrI
  rw [hr] at hr'; cases hr'
  have hb := hpp (by rw [hat.genEq, hg])
  obtain ⟨b', arr, T, e1, e2, e3, e4⟩ := hat.cells hv (by rintro rfl; simp at hk)
  rw [hb] at e1; cases e1
  obtain ⟨u, hu, hrep, h1⟩ := e4 off v hk
  exact ⟨b, u, rfl, by simp [World.cell?, e2, hu], hrep, h1⟩

theorem cells_of_ptr {M : Mem} {h : Heap} {w : World} {id g off n : Nat} {vs : List V} {cv : Value} (hs : Sim M h w) (hp : RepV M (.ptr id g off) cv) (hc : h.cells id g off n = some vs) (hn0 : n ≠ 0) :
    ∃ b, ∃ us : List Value, cv = .pointer (some ⟨b, off, none⟩) ∧ us.length = n ∧ (∀ (k : Nat) u, us[k]? = some u → w.cell? ⟨b, off + k, none⟩ = some u) ∧ RepL M vs us ∧ ∀ u ∈ us, u.oneCell' = true := by
  obtain ⟨blk, cs, hi, hv, hle, rfl, hg⟩ : ∃ blk cs, h[id]? = some (some blk) ∧ blk.vs = some cs ∧ off + n ≤ cs.length ∧ vs = (cs.drop off).take n ∧ blk.gen = g := by
    unfold Heap.cells at hc
    split at hc
    · rename_i cs e; split at hc
      · rename_i hle; cases hc; exact ⟨_, cs, e, rfl, hle.2, rfl, hle.1.symm⟩
      · cases hc
    · rename_i g' ds e; split at hc
      · rename_i hle; cases hc; exact ⟨_, _, e, rfl, by simpa using hle.2, by simp [List.map_drop, List.map_take], hle.1.symm⟩
      · cases hc
    · cases hc
  obtain ⟨r, hr, hat⟩ := hs.blks id blk hi
  obtain ⟨r', b, hr', _, rfl, hpp⟩ := hp.ptrI
  rw [hr] at hr'; cases hr'
  have hb := hpp (by rw [hat.genEq, hg])
  obtain ⟨b', arr, T, e1, e2, e3, e4⟩ := hat.cells hv (by rintro rfl; simp at hle; omega)
  rw [hb] at e1; cases e1
  have hget : ∀ k, k < n → ∃ u, arr[off + k]? = some u ∧ w.cell? ⟨b, off + k, none⟩ = some u ∧ (∀ v, cs[off + k]? = some v → RepV M v u) ∧ u.oneCell' = true := by
    intro k hk
    have hlt : off + k < cs.length := by omega
    obtain ⟨u, hu, hrep, h1⟩ := e4 (off + k) cs[off + k] (by simp [hlt])
    exact ⟨u, hu, by simp [World.cell?, e2, hu], fun v hv => by simp [hlt] at hv; subst hv; exact hrep, h1⟩
  refine ⟨b, (arr.toList.drop off).take n, rfl, by simp; omega, fun k u hk => ?_, ⟨by simp; omega, fun k v c hv hc => ?_⟩, fun u hu => ?_⟩
  · rw [List.getElem?_take] at hk
    split at hk
    · rename_i hkn
      obtain ⟨u', h1, h2, _⟩ := hget k hkn
      rw [List.getElem?_drop] at hk
      simp [h1] at hk; subst hk; exact h2
    · cases hk
  · rw [List.getElem?_take] at hv hc
    split at hv
    · rename_i hkn
      simp only [hkn, if_true, List.getElem?_drop] at hv hc
      obtain ⟨u', h1, _, h3, _⟩ := hget k hkn
      simp [h1] at hc; subst hc
      exact h3 v hv
    · cases hv
  · obtain ⟨k, hk⟩ := List.getElem?_of_mem hu
    rw [List.getElem?_take] at hk
    split at hk
    · rename_i hkn
      obtain ⟨u', h1, _, _, h4⟩ := hget k hkn
      rw [List.getElem?_drop] at hk
      simp [h1] at hk; subst hk; exact h4
    · cases hk

section
variable {P : Program} {n : Nat} {o : Oper} {own : Bool} {ρV : Operand → V} {ρ : Operand → Value} {M : Mem} {h : Heap} {w : World} {K : V → Heap → Prop}

theorem aggOf_ne {T : TypeId} : aggOf P T ≠ some (some 0) := by
  unfold aggOf
  intro h
  split at h <;> (try split at h) <;> simp_all

theorem aggOf_none {T : TypeId} (ha : aggOf P T = some none) : ∃ i, P.info? T = some i ∧ i.size = 1 ∧ (isAgg T).run P w = .ok false w := by
  unfold aggOf at ha
  split at ha <;> simp at ha
  rename_i i d h1 h2 hi hu
  refine ⟨i, hi, ha, ?_⟩
  simp only [isAgg, Sem.run_bind, run_underlying hu, Result.andThen_ok]
  cases d <;> first | rfl | exact absurd rfl (h1 _) | exact absurd rfl (h2 _ _)

theorem aggOf_some {T : TypeId} {m : Nat} (ha : aggOf P T = some (some m)) : ∃ i, P.info? T = some i ∧ i.size = m ∧ (isAgg T).run P w = .ok true w := by
  unfold aggOf at ha
  split at ha <;> simp at ha
  · rename_i i fs hi hu
    exact ⟨i, hi, ha.2, by simp [isAgg, run_underlying hu]⟩
  · rename_i i k e hi hu
    exact ⟨i, hi, ha.2, by simp [isAgg, run_underlying hu]⟩

def Out0 (M : Mem) (h : Heap) (w : World) (K : V → Heap → Prop) (r : Result Next) : Prop := ∃ cv v, r = .ok (.value cv) w ∧ RepV M v cv ∧ K v h
theorem Out0.pure {v : V} {cv : Value} (hv : RepV M v cv) (hk : K v h) {r : Result Next} (hr : r = .ok (.value cv) w) : Out0 M h w K r := ⟨cv, v, hr, hv, hk⟩

theorem load0 (T : TypeId) (x : Operand) (g : Option Nat) (hop : o.op = .load T x) (ha : aggOf P T = some g) (hx : RepV M (ρV x) (ρ x)) (hs : Sim M h w)
    (hk : step (.load g x) ρV h K) : Out0 M h w K ((execOp ρ o).run P w) := by
  cases g with
  | none =>
    obtain ⟨i, hi, h1, hag⟩ := aggOf_none (w := w) ha
    have hrun : ∀ (a : Addr) u, ρ x = .pointer (some a) → w.cell? a = some u → (execOp ρ o).run P w = .ok (.value u) w := by
      intro a u hp hc
      simp [execOp, hop, Instr.loadAt, Instr.sureAddr, hp, loadVar, hag, run_load, hc]
    simp only [step, onPtr] at hk
    split at hk
    · rename_i id g off e
      rw [e] at hx
      obtain ⟨v, hc, hk⟩ := hk
      obtain ⟨b, u, hp, hu, hrep, _⟩ := cell_of_ptr hs hx hc
      exact Out0.pure hrep hk (hrun _ u hp hu)
    · rename_i ds off e
      rw [e] at hx
      obtain ⟨b, o', vals, hp, hro, hrep⟩ := hx.rptrI
      obtain ⟨v, hc, hk⟩ := hk
      have hlt : off < ds.length := (List.getElem?_eq_some_iff.1 hc).1
      exact Out0.pure (.d _ _ (hrep off v hc)) hk (hrun _ _ hp (hs.ro _ _ _ (hro off hlt)).1)
    · exact hk.elim
  | some m =>
    have hm0 : m ≠ 0 := fun e => aggOf_ne (by rw [e] at ha; exact ha)
    obtain ⟨i, hi, h1, hag⟩ := aggOf_some (w := w) ha
    have hrun : ∀ (b p : Nat) (us : List Value), ρ x = .pointer (some ⟨b, p, none⟩) → us.length = m → (∀ (k : Nat) u, us[k]? = some u → w.cell? ⟨b, p + k, none⟩ = some u) →
        (execOp ρ o).run P w = .ok (.value (.agg us.toArray)) w := by
      intro b p us hp hl hc
      have := run_loadCells_list (P := P) w ⟨b, p, none⟩ us (fun j v hj => by rw [Addr.add_lit]; exact hc j v hj)
      rw [hl] at this
      simp [execOp, hop, Instr.loadAt, Instr.sureAddr, hp, loadVar, hag, sizeOf, typeInfo, hi, h1, this]
    simp only [step, onPtr] at hk
    split at hk
    · rename_i id g off e
      rw [e] at hx
      obtain ⟨vs, hc, hk⟩ := hk
      obtain ⟨b, us, hp, hl, hu, hrep, h1'⟩ := cells_of_ptr hs hx hc hm0
      exact Out0.pure (.agg _ us hrep.1 hrep.2 h1') hk (hrun _ _ us hp hl hu)
    · rename_i ds off e
      rw [e] at hx
      obtain ⟨b, o', vals, hp, hro, hrep⟩ := hx.rptrI
      obtain ⟨hle, hk⟩ := hk
      refine Out0.pure (.agg _ ((List.range m).map fun k => vals (off + k)) (by simp; omega) (fun k v c hv hc => ?_) (fun u hu => ?_)) hk (hrun _ _ _ hp (by simp) (fun k u hku => ?_))
      · rw [List.getElem?_map] at hv hc
        cases hd : ((ds.drop off).take m)[k]? with
        | none => rw [hd] at hv; cases hv
        | some y =>
          rw [hd] at hv; cases hv
          rw [List.getElem?_take] at hd
          split at hd
          · rename_i hkm
            rw [List.getElem?_drop] at hd
            simp [hkm] at hc; subst hc
            exact .d _ _ (hrep _ _ hd)
          · cases hd
      · simp at hu
        obtain ⟨k, hkm, rfl⟩ := hu
        exact (hrep (off + k) ds[off + k] (by simp)).one
      · rw [List.getElem?_map] at hku
        have hkm : k < m := by
          rcases Nat.lt_or_ge k m with h | h
          · exact h
          · simp [List.getElem?_eq_none (l := List.range m) (by simpa using h)] at hku
        simp [hkm] at hku
        subst hku
        rw [Nat.add_assoc]
        exact (hs.ro _ _ _ (hro (off + k) (by omega))).1
    · exact hk.elim

theorem snd_load (T : TypeId) (x : Operand) (g : Option Nat) (hop : o.op = .load T x) (ha : aggOf P T = some g) (hx : RepV M (ρV x) (ρ x)) (hs : Sim M h w) (hn : n ≤ h.length)
    (hk : step (.load g x) ρV h K) : Out n M h w K ((execOp ρ o).run P w) := by
  obtain ⟨cv, v, hr, hv, hK⟩ := load0 T x g hop ha hx hs hk
  exact Out.pure hs hn hv hK hr

end
end Go.Proofs.Ytdnefcjbcieecaa
