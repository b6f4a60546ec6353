/- Append and slice expressions; all operations together. -/
import Derived.Test.YtdnefcjbcieecaaCoreH
set_option linter.unusedVariables false
set_option linter.unusedSimpArgs false
namespace Go.Proofs.Ytdnefcjbcieecaa
open Go

section
variable {P : Program} {n : Nat} {o : Oper} {ρV : Operand → V} {ρ : Operand → Value} {M : Mem} {h : Heap} {w : World} {K : V → Heap → Prop}

theorem size_grown (z : Array Value) (sz a b c : Nat) (olds news : List Value) (h1 : olds.length = a * sz) (h2 : news.length = b * sz) (h3 : z.size = sz) (h4 : a + b ≤ c) :
    (olds.toArray ++ news.toArray ++ Builtin.zeroCells z (c - (a + b))).size = c * sz := by
  simp only [Array.size_append, List.size_toArray, size_zeroCells, h1, h2, h3, ← Nat.add_mul]
  congr 1; omega

theorem RepDs.append {a b : List D} {x y : List Value} (h1 : RepDs M a x) (h2 : RepDs M b y) : RepDs M (a ++ b) (x ++ y) := by
  refine ⟨by simp [h1.1, h2.1], fun k u c hu hc => ?_⟩
  rcases Nat.lt_or_ge k a.length with hl | hl
  · rw [List.getElem?_append_left hl] at hu
    rw [List.getElem?_append_left (by rw [← h1.1]; exact hl)] at hc
    exact h1.2 k u c hu hc
  · rw [List.getElem?_append_right hl] at hu
    rw [List.getElem?_append_right (by rw [← h1.1]; exact hl), ← h1.1] at hc
    exact h2.2 _ u c hu hc

theorem run_append_zero (t ty e : TypeId) (i : TypeInfo) (ht : P.underlying t = some (.slice e)) (hi : P.info? e = some i) {so xo : Option Addr} {sLen sCap c : Nat} (hle : sLen ≤ sCap)
    (hfn : (Builtin.firstCells i.size 0 (.slice xo 0 c)).run P w = .ok #[] w) :
    (Builtin.append_ #[t, t] ty #[.slice so sLen sCap, .slice xo 0 c]).run P w = .ok (.slice so sLen sCap) w := by
  cases so <;> simp [Builtin.append_, run_underlying ht, sizeOf, typeInfo, hi, Builtin.lenOf, hle, hfn, storeCells]

theorem exec_append (t : TypeId) (x y : Operand) (hop : o.op = .call { callee := .builtin .append, args := #[x, y], argTypes := #[t, t] }) {r : Value} {w' : World}
    (hr : (Builtin.append_ #[t, t] o.type #[ρ x, ρ y]).run P w = .ok r w') : (execOp ρ o).run P w = .ok (.value r) w' := by
  simp [execOp, hop, resolve, invoke, builtin, hr]

theorem take_grown (olds news : List Value) (z : Array Value) : (olds.toArray ++ news.toArray ++ z).toList.take (olds ++ news).length = olds ++ news := by
  simp only [Array.toList_append]
  rw [List.take_append_of_le_length (by simp)]
  simp [← List.length_append]

/-- What an append that makes a new array gives: read-only. -/
theorem append_new_ro (t e : TypeId) (i : TypeInfo) (z : Value) (x y : Operand) (hop : o.op = .call { callee := .builtin .append, args := #[x, y], argTypes := #[t, t] })
    (h1 : P.underlying t = some (.slice e)) (h2 : P.info? e = some i) (h3 : i.zero = some z) (h4 : z.cells.size = i.size)
    {so xo : Option Addr} {sLen m c : Nat} {olds news : List Value} {cs xs : List D} (hx : ρ x = .slice so sLen sLen) (hy : ρ y = .slice xo m c)
    (ho : RepDs M cs olds) (hcl : cs.length = sLen * i.size) (hnw : RepDs M xs news) (hxl : xs.length = m * i.size)
    (hfo : ∀ w' : World, w'.heap = w.heap → (Builtin.firstCells i.size sLen (.slice so sLen sLen)).run P w' = .ok olds.toArray w')
    (hfn : ∀ w' : World, w'.heap = w.heap → (Builtin.firstCells i.size m (.slice xo m c)).run P w' = .ok news.toArray w')
    (hself : ∀ cv, cv = .slice so sLen sLen → RepV M (.d (.sl false sLen cs)) cv)
    (hb1 : sLen + m ≤ 140737488355328) (hb2 : (sLen + m) * i.bytes ≤ 140737488355328)
    (hs : Sim M h w) (hn : n ≤ h.length) (hk : K (.d (.sl false (sLen + m) (cs ++ xs))) h) : Out n M h w K ((execOp ρ o).run P w) := by
  by_cases hm : m = 0
  · subst hm
    obtain rfl : xs = [] := List.eq_nil_of_length_eq_zero (by simpa using hxl)
    obtain rfl : news = [] := List.eq_nil_of_length_eq_zero (by rw [← hnw.1]; rfl)
    have := run_append_zero (P := P) (w := w) t o.type e i h1 h2 (so := so) (xo := xo) (c := c) (Nat.le_refl sLen) (hfn w rfl)
    rw [← hx, ← hy] at this
    refine Out.pure hs hn (hself _ hx) (by simpa using hk) (exec_append t x y hop this)
  · have hr := run_append_re (P := P) (w := w) t o.type e i z h1 h2 h3 (so := so) (xo := xo) (sLen := sLen) (sCap := sLen) (m := m) (c := c) (hfo w.drew rfl) (hfn w.drew rfl) (by omega) hb1 hb2
    rw [← hx, ← hy] at hr
    have hmax : sLen + m ≤ maxLen := by simp only [maxLen]; omega
    have hge := grownCap_ge w (sLen + m) sLen e
    have hcm := grownCap_le_maxLen w (sLen + m) sLen e hmax
    have hall := ho.append hnw
    have htk := take_grown olds news (Builtin.zeroCells z.cells (grownCap w (sLen + m) sLen e - (sLen + m)))
    generalize hA : (olds.toArray ++ news.toArray ++ Builtin.zeroCells z.cells (grownCap w (sLen + m) sLen e - (sLen + m))) = A at hr htk
    refine ⟨_, _, _, _, _, .inl (exec_append t x y hop hr), new_ro (e := e) (fz := (0, 0)) (arr := A) hs hn rfl rfl rfl rfl, fun y u hy => addRo_rep hs _ hy, ?_, hk⟩
    have hget : ∀ (k : Nat) u, (olds ++ news)[k]? = some u → A[k]? = some u := by
      intro k u hu
      have hlt := (List.getElem?_eq_some_iff.1 hu).1
      rw [← htk, List.getElem?_take] at hu
      simp only [hlt, if_true] at hu
      simpa using hu
    refine .d _ _ (.sl false _ _ _ _ w.heap.size 0 (fun k => A[k]?.getD undef) hge hcm (fun h => by cases h) (.inr rfl) (fun k hkl => ?_) (fun k c hc => ?_))
    · have hlt : k < (olds ++ news).length := by rw [← hall.1]; exact hkl
      have := hget k _ (List.getElem?_eq_getElem hlt)
      simp [Mem.addRo, this]
    · have hlt : k < (olds ++ news).length := by rw [← hall.1]; exact (List.getElem?_eq_some_iff.1 hc).1
      have h9 := hget k _ (List.getElem?_eq_getElem hlt)
      simp only [h9, Option.getD_some]
      exact (hall.2 k c _ hc (List.getElem?_eq_getElem hlt)).mono (addRo_ro hs _)

theorem snd_append_ro (t e : TypeId) (i : TypeInfo) (x y : Operand) (hop : o.op = .call { callee := .builtin .append, args := #[x, y], argTypes := #[t, t] })
    (h1 : P.underlying t = some (.slice e)) (h2 : P.info? e = some i) (h3 : (i.zero.map fun z => z.cells.size) = some i.size) (h4 : 0 < i.size)
    (hx : RepV M (ρV x) (ρ x)) (hy : RepV M (ρV y) (ρ y)) (hs : Sim M h w) (hn : n ≤ h.length)
    (hk : step (.append false e i.size i.bytes x y) ρV h K) : Out n M h w K ((execOp ρ o).run P w) := by
  cases hz : i.zero with
  | none => rw [hz] at h3; cases h3
  | some z =>
    rw [hz] at h3
    have h3 : z.cells.size = i.size := by simpa using h3
    obtain ⟨⟨m, xs⟩, hc, hxl, hk⟩ := hk
    simp only [appendV, onSl] at hxl hk
    obtain ⟨xo, c, news, hpy, hnr, hfn, hn1⟩ := conts_rep (P := P) (sz := i.size) hs hy hc hxl
    rw [hpy] at hfn
    split at hk
    · rename_i ex sLen cs e'
      obtain ⟨⟨hex', hcl, hb1, hb2⟩, hk⟩ := hk
      subst hex'
      have hx0 := hx
      rw [e'] at hx
      obtain ⟨so, cap, olds, hpx, hor, hfo, ho1⟩ := conts_rep (P := P) (sz := i.size) hs hx (by rfl : conts h (.d (.sl true sLen cs)) = some (sLen, cs)) hcl
      obtain ⟨cap', ao, b, off, vals, hp2, hle, hmx, hex, hao, hro, hrep⟩ := hx.slI
      rw [hp2] at hpx; cases hpx
      obtain rfl : cap = sLen := hex rfl
      rw [hp2] at hfo
      refine append_new_ro t e i z x y hop h1 h2 hz h3 hp2 hpy hor hcl hnr hxl hfo hfn (fun cv hcv => ?_) hb1 hb2 hs hn hk
      subst hcv
      exact .d _ _ (.sl false _ _ cs _ b off vals (Nat.le_refl _) hmx (fun h => by cases h) hao hro hrep)
    · exact hk.elim
    · rename_i e'
      obtain ⟨⟨hb1, hb2⟩, hk⟩ := hk
      rw [e'] at hx
      have hp : ρ x = .slice none 0 0 := by generalize ρ x = u at hx; cases hx with | d _ _ h => cases h; rfl
      refine append_new_ro (olds := []) (cs := []) t e i z x y hop h1 h2 hz h3 hp hpy ⟨rfl, fun k u c hu => by simp at hu⟩ (by simp) hnr hxl (fun w' _ => by simp [Builtin.firstCells]) hfn (fun cv hcv => ?_) (by omega) (by simpa using hb2) hs hn (by simpa using hk)
      subst hcv
      exact .d _ _ (.sl false 0 0 [] none 0 0 (fun _ => undef) (Nat.le_refl _) (Nat.zero_le _) (fun h => by cases h) (.inl rfl) (fun k hk => by simp at hk) (fun k c hk => by simp at hk))
    · exact hk.elim

theorem snd_append_nil (t e : TypeId) (i : TypeInfo) (x y : Operand) (hop : o.op = .call { callee := .builtin .append, args := #[x, y], argTypes := #[t, t] })
    (h1 : P.underlying t = some (.slice e)) (h2 : P.info? e = some i) (h3 : (i.zero.map fun z => z.cells.size) = some i.size) (h4 : 0 < i.size)
    (hx : RepV M (ρV x) (ρ x)) (hy : RepV M (ρV y) (ρ y)) (hs : Sim M h w) (hn : n ≤ h.length)
    (hk : step (.append true e i.size i.bytes x y) ρV h K) : Out n M h w K ((execOp ρ o).run P w) := by
  cases hz : i.zero with
  | none => rw [hz] at h3; cases h3
  | some z =>
    rw [hz] at h3
    have h3 : z.cells.size = i.size := by simpa using h3
    obtain ⟨⟨m, xs⟩, hc, hxl, hk⟩ := hk
    simp only [appendV, onSl] at hxl hk
    obtain ⟨xo, c, news, hpy, hnr, hfn, hn1⟩ := conts_rep (P := P) (sz := i.size) hs hy hc hxl
    rw [hpy] at hfn
    split at hk
    · rename_i ex n0 cs e'
      by_cases hm : m = 0
      · rw [if_pos hm] at hk
        subst hm
        rw [e'] at hx
        obtain ⟨cap, ao, b, off, vals, hp, hle, hmx, hex, hao, hro, hrep⟩ := hx.slI
        obtain rfl : xs = [] := List.eq_nil_of_length_eq_zero (by simpa using hxl)
        obtain rfl : news = [] := List.eq_nil_of_length_eq_zero (by rw [← hnr.1]; rfl)
        have := run_append_zero (P := P) (w := w) t o.type e i h1 h2 (so := ao) (xo := xo) (sLen := n0) (sCap := cap) (c := c) hle (hfn w rfl)
        rw [← hp, ← hpy] at this
        exact ⟨_, _, _, _, _, .inl (exec_append t x y hop this), .refl hs hn, fun _ _ h => h, hx, hk⟩
      · rw [if_neg hm] at hk
        obtain ⟨⟨rfl, hcl, hb1, hb2⟩, hk⟩ := hk
        rw [e'] at hx
        obtain ⟨so, cap, olds, hpx, hor, hfo, ho1⟩ := conts_rep (P := P) (sz := i.size) hs hx (by rfl : conts h (.d (.sl true n0 cs)) = some (n0, cs)) hcl
        obtain ⟨cap', ao, b, off, vals, hp, hle, hmx, hex, hao, hro, hrep⟩ := hx.slI
        rw [hp] at hpx; cases hpx
        obtain rfl : cap = n0 := hex rfl
        rw [hp] at hfo
        have hr := run_append_re (P := P) (w := w) t o.type e i z h1 h2 hz (so := _) (xo := xo) (sLen := cap) (sCap := cap) (m := m) (c := c) (hfo w.drew rfl) (hfn w.drew rfl) (by omega) (by omega) hb2
        rw [← hp, ← hpy] at hr
        have hmax : cap + m ≤ maxLen := by simp only [maxLen]; omega
        have hge := grownCap_ge w (cap + m) cap e
        have hcm := grownCap_le_maxLen w (cap + m) cap e hmax
        have htk := take_grown olds news (Builtin.zeroCells z.cells (grownCap w (cap + m) cap e - (cap + m)))
        have hsz := size_grown z.cells i.size cap m (grownCap w (cap + m) cap e) olds news (by rw [← hor.1]; exact hcl) (by rw [← hnr.1]; exact hxl) h3 hge
        generalize hA : (olds.toArray ++ news.toArray ++ Builtin.zeroCells z.cells (grownCap w (cap + m) cap e - (cap + m))) = A at hr htk hsz
        have hs' : Sim M h w.drew := hs.of_heap rfl
        obtain ⟨hpost, henv⟩ := alloc_row (n := n) (e := e) (arr := A) (cap := grownCap w (cap + m) cap e) (ds := cs ++ xs) (sz := i.size) hs' hn (by
          have hl : (cs ++ xs).length = (olds ++ news : List Value).length := by simp [hnr.1, hor.1]
          rw [hl, htk]; exact RepDs.append hor hnr) (by
          have := congrArg List.length htk
          have h9 := hnr.1
          have h10 := hor.1
          simp at this ⊢; omega) hsz hcm
        refine ⟨_, _, _, _, _, .inl (exec_append t x y hop hr), (Post.of_heap (w' := w.drew) hs hn rfl rfl rfl rfl).trans hpost, henv, ?_, hk⟩
        exact RepV.own (M := M.setMu h.length ⟨some w.heap.size, grownCap w (cap + m) cap e, 0⟩) h.length 0 (cap + m) _ _ _ (Mem.setMu_same _ _ _) (Nat.le_refl _) hge hcm (fun _ => ⟨rfl, rfl⟩)
    · exact hk.elim
    · rename_i e'
      obtain ⟨⟨hb1, hb2⟩, hk⟩ := hk
      rw [e'] at hx
      have hp : ρ x = .slice none 0 0 := by generalize ρ x = u at hx; cases hx with | d _ _ h => cases h; rfl
      by_cases hm : m = 0
      · subst hm
        obtain rfl : xs = [] := List.eq_nil_of_length_eq_zero (by simpa using hxl)
        obtain rfl : news = [] := List.eq_nil_of_length_eq_zero (by rw [← hnr.1]; rfl)
        have := run_append_zero (P := P) (w := w) t o.type e i h1 h2 (so := none) (xo := xo) (sLen := 0) (sCap := 0) (c := c) (Nat.le_refl _) (hfn w rfl)
        rw [← hp, ← hpy] at this
        obtain ⟨hpost, henv⟩ := ghost_row (n := n) e i.size hs hn
        refine ⟨_, _, _, _, _, .inl (exec_append t x y hop this), hpost, henv, ?_, hk⟩
        rw [hp]
        exact .own _ _ _ ⟨none, 0, 0⟩ _ _ (Mem.setMu_same _ _ _) (Nat.le_refl _) (Nat.le_refl _) (Nat.zero_le _) (fun _ => ⟨rfl, rfl⟩)
      · have hr := run_append_re (P := P) (w := w) t o.type e i z h1 h2 hz (so := none) (xo := xo) (sLen := 0) (sCap := 0) (m := m) (c := c) (olds := []) (by simp [Builtin.firstCells]) (hfn w.drew rfl) (by omega) (by omega) (by simpa using hb2)
        rw [← hp, ← hpy] at hr
        have hmax : 0 + m ≤ maxLen := by simp only [maxLen]; omega
        have hge := grownCap_ge w (0 + m) 0 e
        have hcm := grownCap_le_maxLen w (0 + m) 0 e hmax
        have htk := take_grown [] news (Builtin.zeroCells z.cells (grownCap w (0 + m) 0 e - (0 + m)))
        have hsz := size_grown z.cells i.size 0 m (grownCap w (0 + m) 0 e) [] news (by simp) (by rw [← hnr.1]; exact hxl) h3 hge
        generalize hA : (([] : List Value).toArray ++ news.toArray ++ Builtin.zeroCells z.cells (grownCap w (0 + m) 0 e - (0 + m))) = A at hr htk hsz
        have hs' : Sim M h w.drew := hs.of_heap rfl
        obtain ⟨hpost, henv⟩ := alloc_row (n := n) (e := e) (arr := A) (cap := grownCap w (0 + m) 0 e) (ds := xs) (sz := i.size) hs' hn (by
          have hl : xs.length = ([] ++ news : List Value).length := by simp [hnr.1]
          rw [hl, htk]; simpa using hnr) (by
          have := congrArg List.length htk
          have h9 := hnr.1
          simp at this ⊢; omega) hsz hcm
        refine ⟨_, _, _, _, _, .inl (exec_append t x y hop hr), (Post.of_heap (w' := w.drew) hs hn rfl rfl rfl rfl).trans hpost, henv, ?_, hk⟩
        have := RepV.own (M := M.setMu h.length ⟨some w.heap.size, grownCap w (0 + m) 0 e, 0⟩) h.length 0 (0 + m) _ _ _ (Mem.setMu_same _ _ _) (Nat.le_refl _) hge hcm (fun _ => ⟨rfl, rfl⟩)
        simpa using this
    · exact hk.elim

/-- An append within the capacity. -/
theorem run_append_in (t ty e : TypeId) (i : TypeInfo) (ht : P.underlying t = some (.slice e)) (hi : P.info? e = some i) {g sLen sCap m c : Nat} {cur : Array Value} {xo : Option Addr} {news : List Value}
    (hg : w.heap[g]? = some (.cells cur e (0, 0))) (hfn : (Builtin.firstCells i.size m (.slice xo m c)).run P w = .ok news.toArray w) (h1 : ∀ u ∈ news, u.oneCell' = true)
    (hroom : sLen + m ≤ sCap) (hfit : sLen * i.size + news.length ≤ cur.size) :
    (Builtin.append_ #[t, t] ty #[.slice (some ⟨g, 0, none⟩) sLen sCap, .slice xo m c]).run P w =
      .ok (.slice (some ⟨g, 0, none⟩) (sLen + m) sCap) (w.setRow g (putAt cur.toList (sLen * i.size) news).toArray) := by
  have hst := run_storeCells_at (P := P) g (sLen * i.size) e news 0 cur w hg (by simpa using hfit) h1
  simp only [Nat.add_zero] at hst
  simp [Builtin.append_, run_underlying ht, sizeOf, typeInfo, hi, Builtin.lenOf, hroom, hfn, Addr.add_lit, hst, putAt]

/-- An append to a row of the function's own: the row gets its next generation. -/
theorem snd_append_own (t e : TypeId) (i : TypeInfo) (x y : Operand) (hop : o.op = .call { callee := .builtin .append, args := #[x, y], argTypes := #[t, t] })
    (h1 : P.underlying t = some (.slice e)) (h2 : P.info? e = some i) (h3 : (i.zero.map fun z => z.cells.size) = some i.size) (h4 : 0 < i.size)
    (hx : RepV M (ρV x) (ρ x)) (hy : RepV M (ρV y) (ρ y)) (hs : Sim M h w) (hn : n ≤ h.length)
    {id g len m : Nat} {ds xs : List D} (hxv : ρV x = .own id g len) (hid : h[id]? = some (some (.row e i.size g ds))) (hdl : ds.length = len * i.size)
    (hc : conts h (ρV y) = some (m, xs)) (hxl : xs.length = m * i.size) (hb1 : len + m ≤ 140737488355328) (hb2 : (len + m) * i.bytes ≤ 140737488355328)
    (hk : K (.own id (g + 1) (len + m)) (h.set id (some (.row e i.size (g + 1) (ds ++ xs))))) : Out n M h w K ((execOp ρ o).run P w) := by
  cases hz : i.zero with
  | none => rw [hz] at h3; cases h3
  | some z =>
    rw [hz] at h3
    have h3 : z.cells.size = i.size := by simpa using h3
    obtain ⟨xo, c, news, hpy, hnr, hfn, hn1⟩ := conts_rep (P := P) (sz := i.size) hs hy hc hxl
    rw [hpy] at hfn
    rw [hxv] at hx
    obtain ⟨so, cap, olds, hpx, hor, hfo, ho1⟩ := conts_rep (P := P) (sz := i.size) hs hx (by simp [conts, hid] : conts h (.own id g len) = some (len, ds)) hdl
    rw [hpx] at hfo
    obtain ⟨r, ao', cap', hr, hgr, hp2, hle, hmx, hv⟩ := hx.ownI
    rw [hpx] at hp2
    simp only [Value.slice.injEq] at hp2
    obtain ⟨rfl, _, rfl⟩ := hp2
    obtain ⟨r', hr', hat⟩ := hs.blks id _ hid
    rw [hr] at hr'; cases hr'
    have hgen : r.gen = g := hat.1
    obtain ⟨hso, hcap⟩ := hv hgen
    have hmax : len + m ≤ maxLen := by simp only [maxLen]; omega
    have hrep : ∀ {M'}, MuLe M M' → M'.ro = M.ro → ∀ x u, RepV M x u → RepV M' x u := fun hle he x u hx => hx.mono (fun _ _ _ h => by rw [he]; exact h) hle
    have hbump : ∀ r' : Ref, r.gen < r'.gen → MuLe M (M.setMu id r') := fun r' hlt => MuLe.setMu (fun r0 h => by rw [hr] at h; cases h; exact hlt)
    by_cases hroom : len + m ≤ cap
    · by_cases hnil : r.blk = none
      · -- a nil row, and nothing new
        have hcz : r.cap = 0 := by
          rcases hat.2 with ⟨_, _, h0⟩ | ⟨b, _, e1, _⟩
          · exact h0
          · rw [hnil] at e1; cases e1
        have hm0 : m = 0 := by omega
        have hl0 : len = 0 := by omega
        subst hm0 hl0
        obtain rfl : xs = [] := List.eq_nil_of_length_eq_zero (by simpa using hxl)
        obtain rfl : ds = [] := List.eq_nil_of_length_eq_zero (by simpa using hdl)
        obtain rfl : news = [] := List.eq_nil_of_length_eq_zero (by rw [← hnr.1]; rfl)
        have hrun := run_append_zero (P := P) (w := w) t o.type e i h1 h2 (so := so) (xo := xo) (sLen := 0) (sCap := cap) (c := c) (by omega) (hfn w rfl)
        rw [← hpx, ← hpy] at hrun
        refine ⟨_, w, M.setMu id ⟨none, 0, g + 1⟩, _, _, .inl (exec_append t x y hop hrun), bump_block (r' := ⟨none, 0, g + 1⟩) (blk := .row e i.size (g + 1) []) hs hn hid hr (by show r.gen < g + 1; omega) (fun b h => by cases h) (Nat.le_refl _) (fun _ _ _ => rfl) rfl rfl rfl ⟨rfl, .inl ⟨rfl, rfl, rfl⟩⟩,
          hrep (hbump _ (by show r.gen < g + 1; omega)) rfl, ?_, by simpa using hk⟩
        rw [hpx]
        exact .own _ _ _ ⟨none, 0, g + 1⟩ _ _ (Mem.setMu_same _ _ _) (Nat.le_refl _) hroom hmx (fun _ => ⟨by rw [hso, hnil], by rw [hcap, hcz]⟩)
      · -- within the capacity
        rcases hat.2 with ⟨_, h0, _⟩ | ⟨b, arr, e1, e2, e3, e4, e5, e6⟩
        · exact absurd h0 hnil
        rw [e1] at hso
        have hso' : so = some ⟨b, 0, none⟩ := hso
        subst hso'
        have hfit : len * i.size + news.length ≤ arr.size := by
          rw [← hnr.1, hxl, e3, ← hcap, ← Nat.add_mul]
          exact Nat.mul_le_mul_right _ hroom
        have hrun := run_append_in (P := P) (w := w) t o.type e i h1 h2 (sLen := len) (sCap := cap) e2 (hfn w rfl) hn1 hroom hfit
        rw [← hpx, ← hpy] at hrun
        have hpl : (putAt arr.toList (len * i.size) news).length = arr.size := by rw [putAt_len _ _ _ (by simpa using hfit)]; simp
        have htk : (putAt arr.toList (len * i.size) news).take (ds ++ xs).length = arr.toList.take ds.length ++ news := by
          have hnl := hnr.1
          apply List.ext_getElem?
          intro k
          rw [List.getElem?_take, putAt_get _ _ _ (by simpa using hfit), ← hdl]
          by_cases hk1 : k < ds.length
          · rw [List.getElem?_append_left (by simp; omega), List.getElem?_take]
            simp only [hk1, if_true, List.length_append]
            rw [if_pos (by omega)]
          · rw [List.getElem?_append_right (by simp; omega)]
            have h8 : (arr.toList.take ds.length).length = ds.length := by simp; omega
            rw [h8]
            by_cases hk2 : k < (ds ++ xs).length
            · simp only [hk2, if_true, hk1, if_false]
              rw [if_pos (by simp at hk2; omega)]
            · simp only [hk2, if_false]
              rw [List.getElem?_eq_none (by simp at hk2; omega)]
        refine ⟨_, _, M.setMu id ⟨some b, cap, g + 1⟩, _, _, .inl (exec_append t x y hop hrun),
          bump_block (r' := ⟨some b, cap, g + 1⟩) (blk := .row e i.size (g + 1) (ds ++ xs)) hs hn hid hr (by show r.gen < g + 1; omega) (fun b' h => by cases h; exact .inl e1) (by simp [World.setRow]) (fun k _ hk => setRow_other _ _ _ _ (fun h => hk (by rw [e1, h]))) rfl rfl rfl
            ⟨rfl, .inr ⟨b, _, rfl, setRow_heap _ _ _ _ _ _ e2, by simp only [List.size_toArray, hpl]; rw [e3, hcap], by simp only; rw [hcap]; exact e4, by simp only [List.size_toArray, hpl, List.length_append, hdl, hnr.1]; exact hfit, by
              simp only [List.toList_toArray]
              rw [htk]
              exact e6.append hnr⟩⟩,
          hrep (hbump _ (by show r.gen < g + 1; omega)) rfl, ?_, hk⟩
        exact .own _ _ _ ⟨some b, cap, g + 1⟩ _ _ (Mem.setMu_same _ _ _) (Nat.le_refl _) hroom hmx (fun _ => ⟨rfl, rfl⟩)
    · -- a new array
      have hrun := run_append_re (P := P) (w := w) t o.type e i z h1 h2 hz (so := so) (xo := xo) (sLen := len) (sCap := cap) (m := m) (c := c) (hfo w.drew rfl) (hfn w.drew rfl) (by omega) hb1 hb2
      rw [← hpx, ← hpy] at hrun
      have hge := grownCap_ge w (len + m) cap e
      have hcm := grownCap_le_maxLen w (len + m) cap e hmax
      have htk := take_grown olds news (Builtin.zeroCells z.cells (grownCap w (len + m) cap e - (len + m)))
      have hsz := size_grown z.cells i.size len m (grownCap w (len + m) cap e) olds news (by rw [← hor.1]; exact hdl) (by rw [← hnr.1]; exact hxl) h3 hge
      have hall := hor.append hnr
      generalize hA : (olds.toArray ++ news.toArray ++ Builtin.zeroCells z.cells (grownCap w (len + m) cap e - (len + m))) = A at hrun htk hsz
      have hs' : Sim M h w.drew := hs.of_heap rfl
      refine ⟨_, _, M.setMu id ⟨some w.heap.size, grownCap w (len + m) cap e, g + 1⟩, _, _, .inl (exec_append t x y hop hrun),
        (Post.of_heap (w' := w.drew) hs hn rfl rfl rfl rfl).trans (bump_block (r' := ⟨some w.heap.size, grownCap w (len + m) cap e, g + 1⟩) (blk := .row e i.size (g + 1) (ds ++ xs)) hs' hn hid hr (by show r.gen < g + 1; omega)
          (fun b' h => by cases h; exact .inr (Nat.le_refl _)) (by simp) (fun k hk _ => heap_alloc_old w.drew _ hk) rfl rfl rfl
          ⟨rfl, .inr ⟨w.heap.size, A, rfl, heap_alloc_new w.drew _, hsz, hcm, ?_, ?_⟩⟩),
        hrep (hbump _ (by show r.gen < g + 1; omega)) rfl, .own _ _ _ _ _ _ (Mem.setMu_same _ _ _) (Nat.le_refl _) hge hcm (fun _ => ⟨rfl, rfl⟩), hk⟩
      · have h8 := congrArg List.length htk
        have h9 := hall.1
        simp only [List.length_take, Array.length_toList] at h8
        omega
      · rw [hall.1, htk]; exact hall

end
end Go.Proofs.Ytdnefcjbcieecaa
