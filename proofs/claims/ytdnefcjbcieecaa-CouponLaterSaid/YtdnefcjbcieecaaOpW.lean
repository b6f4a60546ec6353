/- The arguments of the rows: companies, truths, ranges, numbers, lists. -/
import Derived.Test.YtdnefcjbcieecaaOpR
import Derived.Test.YtdnefcjbcieecaaProg
import Derived.KernelRfl
set_option linter.unusedVariables false
set_option linter.unusedSimpArgs false
namespace Go.Proofs.Ytdnefcjbcieecaa
open Go Go.ChangeShapes Go.WideShapes Go.ChangeAt Go.RowKit

def fieldAt (P : Program) (T : TypeId) (i : Nat) : Option (TypeId × Nat × Nat) := match P.underlying T with
  | some (.struct fs) => (fs[i]?).map fun f => (f.type, f.offset, P.cellsOf f.type)
  | _ => none
def isSlice (P : Program) (T e : TypeId) : Bool := match P.underlying T with
  | some (.slice t) => t == e
  | _ => false
noncomputable def isIntT (P : Program) (T : TypeId) : Nat := match P.underlying T with
  | some (.int k) => kn k + 1
  | _ => 0
theorem isSlice_eq {P : Program} {T e : TypeId} (h : isSlice P T e = true) : P.underlying T = some (.slice e) := by
  unfold isSlice at h
  split at h
  · rename_i hu; rw [hu, eq_of_beq h]
  · cases h
theorem isIntT_eq {P : Program} {T : TypeId} {k : IntKind} (h : isIntT P T = kn k + 1) : P.underlying T = some (.int k) := by
  unfold isIntT at h
  split at h
  · rename_i k' hu
    rw [hu]
    have h2 : kn k' = kn k := by omega
    have h3 : k' = k := kn_inj (by rw [h2]; exact Nat.beq_refl _)
    rw [h3]
  · omega
section
variable {H : Type} {enc : TypeId × Value → H} {w : World} {spare : Nat → Bool} {held : Bool}
theorem field_sound {P : Program} {T t : TypeId} {i off c fuel : Nat} {cs : List Value} {x : DataW H × List MemPlace} (hf : fieldAt P T i = some (t, off, c)) (hx : DataW.trod enc P w 0 spare held fuel T cs = some x) :
    cs.length = P.cellsOf T ∧ ∃ n y, DataW.trod enc P w 0 spare held n t ((cs.drop off).take c) = some y := by
  unfold fieldAt at hf
  split at hf
  · rename_i fs hu
    obtain ⟨xs, n, _, _, hl, hxl, h⟩ := DataW.trod_struct hu hx
    cases hi : fs[i]? with
    | none => rw [hi] at hf; cases hf
    | some f =>
      rw [hi] at hf
      simp only [Option.map_some, Option.some.injEq, Prod.mk.injEq] at hf
      obtain ⟨rfl, rfl, rfl⟩ := hf
      have h1 := h i f hi
      have hlt : i < xs.length := by rw [hxl]; exact (Array.getElem?_eq_some_iff.1 hi).1
      rw [List.getElem?_eq_getElem hlt] at h1
      exact ⟨hl, n, _, h1⟩
  · cases hf
theorem int_sound {P : Program} {T : TypeId} {k : IntKind} {fuel : Nat} {cs : List Value} {x : DataW H × List MemPlace} (hT : isIntT P T = kn k + 1) (hx : DataW.trod enc P w 0 spare held fuel T cs = some x) :
    ∃ n, cs = [.int k n] ∧ (Lit.int k n).wf = true := by
  obtain ⟨n, h1, _, h2⟩ := DataW.trod_int (isIntT_eq hT) hx
  exact ⟨n, h1, h2⟩
theorem cellAt {cs : List Value} {off : Nat} {v : Value} (h : (cs.drop off).take 1 = [v]) : cs[off]? = some v := by
  have : ((cs.drop off).take 1)[0]? = some v := by rw [h]; rfl
  simpa using this

theorem listI_sound {fuel : Nat} {cs : List Value} {x : DataW H × List MemPlace} (hx : DataW.trod enc Try.prog w 0 spare held fuel 22 cs = some x) :
    ∃ (l : List Int) (v : Value), cs = [v] ∧ RepD (memOf Try.prog w).ro (dsl eI l) v ∧ l.length ≤ maxLen := by
  obtain ⟨rows, v, h1, h2, h3, h4⟩ := slice_sound (ks := [.i64]) (m := 3) (isSlice_eq (e := 3) (by kernel_rfl)) (by kernel_rfl) (by kernel_rfl) (by decide) hx
  obtain ⟨l, hl, he⟩ := rows1 fun r hr => (h4 r hr).1
  exact ⟨l, v, h1, by unfold dsl; rw [hl, ← he]; exact h2, by omega⟩
theorem listR_sound {fuel : Nat} {cs : List Value} {x : DataW H × List MemPlace} (hx : DataW.trod enc Try.prog w 0 spare held fuel 26 cs = some x) :
    ∃ (l : List Rng) (v : Value), cs = [v] ∧ RepD (memOf Try.prog w).ro (dsl eR l) v ∧ l.length ≤ maxLen := by
  obtain ⟨rows, v, h1, h2, h3, h4⟩ := slice_sound (ks := [.i64, .i64]) (m := 3) (isSlice_eq (e := 73) (by kernel_rfl)) (by kernel_rfl) (by kernel_rfl) (by decide) hx
  obtain ⟨l, hl, he⟩ := rows2 fun r hr => (h4 r hr).1
  exact ⟨l, v, h1, by unfold dsl; rw [hl, ← he]; exact h2, by omega⟩
theorem listT_sound {e : TypeId} (he1 : isSlice Try.prog 23 e = true) (he2 : flatOf Try.prog 4 e = some [.i64, .i64, .i64, .i64, .i64, .i64, .i64]) (he3 : Try.prog.cellsOf e = 7) {fuel : Nat} {cs : List Value} {x : DataW H × List MemPlace} (hx : DataW.trod enc Try.prog w 0 spare held fuel 23 cs = some x) :
    ∃ (l : List Trd) (v : Value), cs = [v] ∧ RepD (memOf Try.prog w).ro (dsl eT l) v ∧ l.length ≤ maxLen := by
  obtain ⟨rows, v, h1, h2, h3, h4⟩ := slice_sound (m := 4) (isSlice_eq he1) he2 he3 (by decide) hx
  obtain ⟨l, hl, he⟩ := rows7 fun r hr => (h4 r hr).1
  exact ⟨l, v, h1, by unfold dsl; rw [hl, ← he]; exact h2, by omega⟩
theorem listV_sound {fuel : Nat} {cs : List Value} {x : DataW H × List MemPlace} (hx : DataW.trod enc Try.prog w 0 spare held fuel 24 cs = some x) :
    ∃ (l : List Dvd) (v : Value), cs = [v] ∧ RepD (memOf Try.prog w).ro (dsl eV l) v ∧ l.length ≤ maxLen := by
  obtain ⟨rows, v, h1, h2, h3, h4⟩ := slice_sound (ks := [.i64, .i64, .i64]) (m := 3) (isSlice_eq (e := 52) (by kernel_rfl)) (by kernel_rfl) (by kernel_rfl) (by decide) hx
  obtain ⟨l, hl, he⟩ := rows3V fun r hr => (h4 r hr).1
  exact ⟨l, v, h1, by unfold dsl; rw [hl, ← he]; exact h2, by omega⟩
theorem listS_sound {fuel : Nat} {cs : List Value} {x : DataW H × List MemPlace} (hx : DataW.trod enc Try.prog w 0 spare held fuel 25 cs = some x) :
    ∃ (l : List Spl) (v : Value), cs = [v] ∧ RepD (memOf Try.prog w).ro (dsl eS l) v ∧ l.length ≤ maxLen := by
  obtain ⟨rows, v, h1, h2, h3, h4⟩ := slice_sound (ks := [.i64, .i64, .i64]) (m := 3) (isSlice_eq (e := 79) (by kernel_rfl)) (by kernel_rfl) (by kernel_rfl) (by decide) hx
  obtain ⟨l, hl, he⟩ := rows3S fun r hr => (h4 r hr).1
  exact ⟨l, v, h1, by unfold dsl; rw [hl, ← he]; exact h2, by omega⟩

theorem rep_agg {M : Mem} {ds : List D} {cs : List Value} (hl : ds.length = cs.length) (h : ∀ (k : Nat) d v, ds[k]? = some d → cs[k]? = some v → RepD M.ro d v) : RepV M (.agg (ds.map .d)) (.agg cs.toArray) := by
  refine .agg _ _ (by simpa using hl) (fun k v c hv hc => ?_) (fun u hu => ?_)
  · rw [List.getElem?_map] at hv
    cases hd : ds[k]? with
    | none => rw [hd] at hv; cases hv
    | some d => rw [hd] at hv; cases hv; exact .d _ _ (h k d c hd hc)
  · obtain ⟨k, hk, rfl⟩ := List.getElem_of_mem hu
    exact (h k ds[k] cs[k] (by simp) (by simp)).one
/-- A company. -/
theorem company_sound {cs : Array Value} {fuel : Nat} {x : DataW H × List MemPlace} (hx : DataW.trod enc Try.prog w 0 spare held fuel 28 cs.toList = some x) : ∃ c : Cmp, RepV (memOf Try.prog w) (Cv c) (.agg cs) ∧ in64 c.houses ∧
    c.held.length ≤ maxLen ∧ c.trades.length ≤ maxLen ∧ c.divs.length ≤ maxLen ∧ c.splits.length ≤ maxLen ∧ c.closed.length ≤ maxLen := by
  obtain ⟨hl, n0, y0, h0⟩ := field_sound (i := 0) (t := 3) (off := 0) (c := 1) (by kernel_rfl) hx
  obtain ⟨_, n1, y1, h1⟩ := field_sound (i := 1) (t := 22) (off := 1) (c := 1) (by kernel_rfl) hx
  obtain ⟨_, n2, y2, h2⟩ := field_sound (i := 2) (t := 23) (off := 2) (c := 1) (by kernel_rfl) hx
  obtain ⟨_, n3, y3, h3⟩ := field_sound (i := 3) (t := 24) (off := 3) (c := 1) (by kernel_rfl) hx
  obtain ⟨_, n4, y4, h4⟩ := field_sound (i := 4) (t := 25) (off := 4) (c := 1) (by kernel_rfl) hx
  obtain ⟨_, n5, y5, h5⟩ := field_sound (i := 5) (t := 26) (off := 5) (c := 1) (by kernel_rfl) hx
  have hc : Try.prog.cellsOf 28 = 6 := by kernel_rfl
  rw [hc] at hl
  obtain ⟨hs, e0, hw⟩ := int_sound (k := .i64) (by kernel_rfl) h0
  obtain ⟨l1, v1, e1, r1, m1⟩ := listI_sound h1
  obtain ⟨l2, v2, e2, r2, m2⟩ := listT_sound (e := 99) (by kernel_rfl) (by kernel_rfl) (by kernel_rfl) h2
  obtain ⟨l3, v3, e3, r3, m3⟩ := listV_sound h3
  obtain ⟨l4, v4, e4, r4, m4⟩ := listS_sound h4
  obtain ⟨l5, v5, e5, r5, m5⟩ := listR_sound h5
  have c0 := cellAt e0; have c1 := cellAt e1; have c2 := cellAt e2; have c3 := cellAt e3; have c4 := cellAt e4; have c5 := cellAt e5
  refine ⟨⟨hs, l1, l2, l3, l4, l5⟩, ?_, bounds_i64 hw, m1, m2, m3, m4, m5⟩
  have := rep_agg (M := memOf Try.prog w) (ds := [.int .i64 hs, dsl eI l1, dsl eT l2, dsl eV l3, dsl eS l4, dsl eR l5]) (cs := cs.toList) (by rw [hl]; rfl) (fun k d v hd hv => by
    match k with
    | 0 => rw [c0] at hv; cases hd; cases hv; exact .int _ _
    | 1 => rw [c1] at hv; cases hd; cases hv; exact r1
    | 2 => rw [c2] at hv; cases hd; cases hv; exact r2
    | 3 => rw [c3] at hv; cases hd; cases hv; exact r3
    | 4 => rw [c4] at hv; cases hd; cases hv; exact r4
    | 5 => rw [c5] at hv; cases hd; cases hv; exact r5
    | k + 6 => simp at hd)
  simp only [Array.toArray_toList] at this
  exact this
/-- A truth. -/
theorem truth_sound {cs : Array Value} {fuel : Nat} {x : DataW H × List MemPlace} (hx : DataW.trod enc Try.prog w 0 spare held fuel 30 cs.toList = some x) : ∃ t : Tru, RepV (memOf Try.prog w) (Uv t) (.agg cs) ∧ t.sold.length ≤ maxLen ∧ t.deliv.length ≤ maxLen := by
  obtain ⟨hl, n0, y0, h0⟩ := field_sound (i := 0) (t := 22) (off := 0) (c := 1) (by kernel_rfl) hx
  obtain ⟨_, n1, y1, h1⟩ := field_sound (i := 1) (t := 22) (off := 1) (c := 1) (by kernel_rfl) hx
  have hc : Try.prog.cellsOf 30 = 2 := by kernel_rfl
  rw [hc] at hl
  obtain ⟨l0, v0, e0, r0, m0⟩ := listI_sound h0
  obtain ⟨l1, v1, e1, r1, m1⟩ := listI_sound h1
  have c0 := cellAt e0; have c1 := cellAt e1
  refine ⟨⟨l0, l1⟩, ?_, m0, m1⟩
  have := rep_agg (M := memOf Try.prog w) (ds := [dsl eI l0, dsl eI l1]) (cs := cs.toList) (by rw [hl]; rfl) (fun k d v hd hv => by
    match k with
    | 0 => rw [c0] at hv; cases hd; cases hv; exact r0
    | 1 => rw [c1] at hv; cases hd; cases hv; exact r1
    | k + 2 => simp at hd)
  simp only [Array.toArray_toList] at this
  exact this
/-- A range. -/
theorem range_sound {cs : Array Value} {fuel : Nat} {x : DataW H × List MemPlace} (hx : DataW.trod enc Try.prog w 0 spare held fuel 73 cs.toList = some x) : ∃ r : Rng, RepV (memOf Try.prog w) (Rv r) (.agg cs) ∧ in64 r.lo ∧ in64 r.hi := by
  obtain ⟨hl, n0, y0, h0⟩ := field_sound (i := 0) (t := 3) (off := 0) (c := 1) (by kernel_rfl) hx
  obtain ⟨_, n1, y1, h1⟩ := field_sound (i := 1) (t := 3) (off := 1) (c := 1) (by kernel_rfl) hx
  have hc : Try.prog.cellsOf 73 = 2 := by kernel_rfl
  rw [hc] at hl
  obtain ⟨a, e0, hw0⟩ := int_sound (k := .i64) (by kernel_rfl) h0
  obtain ⟨b, e1, hw1⟩ := int_sound (k := .i64) (by kernel_rfl) h1
  have c0 := cellAt e0; have c1 := cellAt e1
  refine ⟨⟨a, b⟩, ?_, bounds_i64 hw0, bounds_i64 hw1⟩
  have := rep_agg (M := memOf Try.prog w) (ds := [.int .i64 a, .int .i64 b]) (cs := cs.toList) (by rw [hl]; rfl) (fun k d v hd hv => by
    match k with
    | 0 => rw [c0] at hv; cases hd; cases hv; exact .int _ _
    | 1 => rw [c1] at hv; cases hd; cases hv; exact .int _ _
    | k + 2 => simp at hd)
  simp only [Array.toArray_toList] at this
  exact this
end
theorem isStruct_of {P : Program} {T : TypeId} {i : Nat} {t : TypeId} {off c : Nat} (h : fieldAt P T i = some (t, off, c)) : ∃ fs, P.underlying T = some (.struct fs) := by
  unfold fieldAt at h
  split at h
  · rename_i fs hu; exact ⟨fs, hu⟩
  · cases h

theorem keptBut_of_old {w w' : World} {may : MemPlace → Prop} (h1 : w'.os = w.os) (h2 : w'.output = w.output) (h3 : ∀ b, b < w.heap.size → w'.heap[b]? = w.heap[b]?) : w.keptBut w' may := by
  refine ⟨h1, h2, fun i hi => ?_⟩
  rw [h3 i hi]
  split
  · rename_i c t fr c' t' fr' e1 e2
    rw [e1] at e2; cases e2
    exact ⟨rfl, rfl, rfl, fun _ _ => rfl⟩
  · rename_i es k es' k' e1 e2
    rw [e1] at e2; cases e2
    exact .inr ⟨rfl, rfl⟩
  · rfl
theorem ownsNothing : ownKnob Try.prog.godebug = none := by kernel_rfl
theorem try_laid : laidOutB Try.prog = true := by kernel_rfl
theorem repL_nil (M : Mem) : RepL M [] [] := ⟨rfl, fun k v c h => by simp at h⟩
theorem repL_cons {M : Mem} {v : V} {c : Value} {vs : List V} {cs : List Value} (h : RepV M v c) (hs : RepL M vs cs) : RepL M (v :: vs) (c :: cs) := by
  refine ⟨by simp [hs.1], fun k a b ha hb => ?_⟩
  cases k with
  | zero => cases ha; cases hb; exact h
  | succ k => exact hs.2 k a b (by simpa using ha) (by simpa using hb)
theorem try_kids : Kids Try.prog (· < Try.prog.types.size) := kids_rows try_laid (by kernel_rfl)
theorem try_full : ∀ t e, t < Try.prog.types.size → Try.prog.underlying t = some (.slice e) → 0 < Try.prog.cellsOf e := slices_full_of Try.prog (by kernel_rfl)
theorem fa28 : fieldAt Try.prog 28 0 = some (3, 0, 1) := by kernel_rfl
theorem fa30 : fieldAt Try.prog 30 0 = some (22, 0, 1) := by kernel_rfl
theorem fa73 : fieldAt Try.prog 73 0 = some (3, 0, 1) := by kernel_rfl
theorem it3 : isIntT Try.prog 3 = kn .i64 + 1 := by kernel_rfl
theorem it5 : isIntT Try.prog 5 = kn .u8 + 1 := by kernel_rfl
theorem is22 : isSlice Try.prog 22 3 = true := by kernel_rfl
section
variable {H : Type} {enc : TypeId × Value → H} {W : World} {base : Nat}
set_option maxRecDepth 100000 in
theorem arg_company {v : Value} {d : DataW H} {p : List MemPlace} (hok : Value.okWide Try.prog W .any base 28 v) (ht : DataW.Trod enc Try.prog W 0 (fun _ => true) true 28 v d p) : ∃ c : Cmp, RepV (memOf Try.prog W) (Cv c) v ∧ in64 c.houses ∧
    c.held.length ≤ maxLen ∧ c.trades.length ≤ maxLen ∧ c.divs.length ≤ maxLen ∧ c.splits.length ≤ maxLen ∧ c.closed.length ≤ maxLen := by
  obtain ⟨fs, hfs⟩ := isStruct_of fa28
  obtain ⟨cs, rfl, _⟩ := okWide_struct hfs hok
  obtain ⟨fuel, hx⟩ := ht
  exact company_sound (cs := cs) hx
set_option maxRecDepth 100000 in
theorem arg_truth {v : Value} {d : DataW H} {p : List MemPlace} (hok : Value.okWide Try.prog W .any base 30 v) (ht : DataW.Trod enc Try.prog W 0 (fun _ => true) true 30 v d p) : ∃ t : Tru, RepV (memOf Try.prog W) (Uv t) v ∧ t.sold.length ≤ maxLen ∧ t.deliv.length ≤ maxLen := by
  obtain ⟨fs, hfs⟩ := isStruct_of fa30
  obtain ⟨cs, rfl, _⟩ := okWide_struct hfs hok
  obtain ⟨fuel, hx⟩ := ht
  exact truth_sound (cs := cs) hx
set_option maxRecDepth 100000 in
theorem arg_range {v : Value} {d : DataW H} {p : List MemPlace} (hok : Value.okWide Try.prog W .any base 73 v) (ht : DataW.Trod enc Try.prog W 0 (fun _ => true) true 73 v d p) : ∃ r : Rng, RepV (memOf Try.prog W) (Rv r) v ∧ in64 r.lo ∧ in64 r.hi := by
  obtain ⟨fs, hfs⟩ := isStruct_of fa73
  obtain ⟨cs, rfl, _⟩ := okWide_struct hfs hok
  obtain ⟨fuel, hx⟩ := ht
  exact range_sound (cs := cs) hx
set_option maxRecDepth 100000 in
theorem arg_int {v : Value} {d : DataW H} {p : List MemPlace} (hok : Value.okWide Try.prog W .any base 3 v) (ht : DataW.Trod enc Try.prog W 0 (fun _ => true) true 3 v d p) : ∃ n : Int, RepV (memOf Try.prog W) (vi n) v ∧ in64 n := by
  obtain ⟨n, rfl⟩ := okWide_int (isIntT_eq it3) hok
  obtain ⟨fuel, hx⟩ := ht
  obtain ⟨m, h1, h2⟩ := int_sound it3 hx
  cases h1
  exact ⟨n, .d _ _ (.int _ _), bounds_i64 h2⟩
set_option maxRecDepth 100000 in
theorem arg_u8 {v : Value} {d : DataW H} {p : List MemPlace} (hok : Value.okWide Try.prog W .any base 5 v) (ht : DataW.Trod enc Try.prog W 0 (fun _ => true) true 5 v d p) : ∃ n : Int, RepV (memOf Try.prog W) (.d (.int .u8 n)) v ∧ 0 ≤ n ∧ n ≤ 255 := by
  obtain ⟨n, rfl⟩ := okWide_int (isIntT_eq it5) hok
  obtain ⟨fuel, hx⟩ := ht
  obtain ⟨m, h1, h2⟩ := int_sound it5 hx
  cases h1
  exact ⟨n, .d _ _ (.int _ _), bounds_u8 h2⟩
set_option maxRecDepth 100000 in
theorem arg_ints {v : Value} {d : DataW H} {p : List MemPlace} (hok : Value.okWide Try.prog W .any base 22 v) (ht : DataW.Trod enc Try.prog W 0 (fun _ => true) true 22 v d p) : ∃ l : List Int, RepV (memOf Try.prog W) (vsl eI l) v ∧ l.length ≤ maxLen := by
  obtain ⟨a, len, cap, rfl⟩ := okWide_slice (isSlice_eq is22) hok
  obtain ⟨fuel, hx⟩ := ht
  obtain ⟨l, v, h1, h2, h3⟩ := listI_sound hx
  cases h1
  exact ⟨l, .d _ _ h2, h3⟩
end
end Go.Proofs.Ytdnefcjbcieecaa
