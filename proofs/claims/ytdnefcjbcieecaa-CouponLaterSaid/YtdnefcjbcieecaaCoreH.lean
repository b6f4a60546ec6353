/- Stores, indexes, slices, append: they have the meaning of 'step'. -/
import Derived.Test.YtdnefcjbcieecaaCoreG
set_option linter.unusedVariables false
set_option linter.unusedSimpArgs false
namespace Go.Proofs.Ytdnefcjbcieecaa
open Go

theorem ghost_row {n : Nat} {M : Mem} {h : Heap} {w : World} (e sz : Nat) (hs : Sim M h w) (hn : n ≤ h.length) :
    Post n M h w (M.setMu h.length ⟨none, 0, 0⟩) (h ++ [some (.row e sz 0 [])]) w ∧ (∀ x u, RepV M x u → RepV (M.setMu h.length ⟨none, 0, 0⟩) x u) := by
  have hml : ∀ r0, M.mu h.length = some r0 → r0.gen < (⟨none, 0, 0⟩ : Ref).gen := fun r0 h => by rw [hs.mu_len] at h; cases h
  have hpre : ∀ (j : Nat) x, j ≠ h.length → (h ++ [some (.row e sz 0 [])])[j]? = some (some x) → h[j]? = some (some x) := by
    intro j x hj hx
    rcases Nat.lt_or_ge j h.length with hl | hl
    · rwa [List.getElem?_append_left hl] at hx
    · rw [List.getElem?_append_right hl] at hx
      cases hd : j - h.length with
      | zero => omega
      | succ m => rw [hd] at hx; simp at hx
  have hlive : ∀ k, liveBlk (M.setMu h.length ⟨none, 0, 0⟩) (h ++ [some (.row e sz 0 [])]) k → liveBlk M h k := by
    rintro k ⟨i, blk2, r2, hi2, hr2, hb2⟩
    by_cases hii : i = h.length
    · subst hii; rw [Mem.setMu_same] at hr2; cases hr2; cases hb2
    · rw [Mem.setMu_other _ _ hii] at hr2
      exact ⟨i, blk2, r2, hpre i _ hii hi2, hr2, hb2⟩
  refine ⟨⟨fun _ _ _ h => h, ⟨⟨fun _ h => h, fun _ _ h => h, fun _ _ _ _ h => .inl h⟩, rfl⟩, MuLe.setMu hml, by simp; omega, ⟨?_, ?_, ?_, ?_, ?_⟩, rfl, rfl, rfl, Nat.le_refl _, fun _ _ _ => rfl, fun k _ hl => hlive k hl⟩, fun x u hx => hx.setMu hml⟩
  · intro i blk2 hi2
    by_cases hii : i = h.length
    · subst hii
      simp at hi2; subst hi2
      exact ⟨_, Mem.setMu_same _ _ _, rfl, .inl ⟨rfl, rfl, rfl⟩⟩
    · obtain ⟨r2, hr2, hat2⟩ := hs.blks i blk2 (hpre i _ hii hi2)
      exact ⟨r2, by rw [Mem.setMu_other _ _ hii]; exact hr2, BlkAt.of_same rfl (M := M) (w := w) (fun _ _ _ h => h) (fun _ _ h => h.setMu hml) (fun k hk => rfl) hat2⟩
  · intro i j bi bj ri rj k hi2 hj2 hri hrj hbi hbj
    by_cases hii : i = h.length
    · subst hii; rw [Mem.setMu_same] at hri; cases hri; cases hbi
    · rw [Mem.setMu_other _ _ hii] at hri
      by_cases hjj : j = h.length
      · subst hjj; rw [Mem.setMu_same] at hrj; cases hrj; cases hbj
      · rw [Mem.setMu_other _ _ hjj] at hrj
        exact hs.inj i j bi bj ri rj k (hpre i _ hii hi2) (hpre j _ hjj hj2) hri hrj hbi hbj
  · intro k p v hv
    exact ⟨(hs.ro k p v hv).1, fun hl => (hs.ro k p v hv).2 (hlive k hl)⟩
  · intro i hi
    have : h.length < i := by simp at hi; omega
    rw [Mem.setMu_other _ _ (by omega)]
    exact hs.dom i (by omega)
  · intro k hk
    exact ⟨(hs.df k hk).1, fun hl => (hs.df k hk).2 (hlive k hl)⟩

section
variable {P : Program} {n : Nat} {o : Oper} {ρV : Operand → V} {ρ : Operand → Value} {M : Mem} {h : Heap} {w : World} {K : V → Heap → Prop}

theorem snd_store (T : TypeId) (x v : Operand) (i : TypeInfo) (hop : o.op = .store T x v) (hi : P.info? T = some i) (hx : RepV M (ρV x) (ρ x)) (hv : RepV M (ρV v) (ρ v)) (hs : Sim M h w) (hn : n ≤ h.length)
    (hk : step (.store i.size x v) ρV h K) : Out n M h w K ((execOp ρ o).run P w) := by
  simp only [step, onPtr] at hk
  split at hk
  · rename_i id g off e
    rw [e] at hx
    obtain ⟨r, b, hm, hg, hp, hpb⟩ := hx.ptrI
    obtain ⟨vs, hc, hl, h', hput, hk⟩ := hk
    obtain ⟨hrep, h1⟩ := cellsV_rep hv hc
    have hsz : (ρ v).cells.size = i.size := by have := hrep.1; simp at this; omega
    have fin : ∀ blk blk' (arr : Array Value) (T' : TypeId) (hat' : ∀ w', w'.heap[b]? = some (.cells (putAt arr.toList off (ρ v).cells.toList).toArray T' (0, 0)) → BlkAt M w' r blk'),
        h[id]? = some (some blk) → r.blk = some b → w.heap[b]? = some (.cells arr T' (0, 0)) → off + vs.length ≤ arr.size → h' = h.set id (some blk') → Out n M h w K ((execOp ρ o).run P w) := by
      intro blk blk' arr T' hat' hid hrb hb hle he
      subst he
      have hlen : (ρ v).cells.toList.length = vs.length := hrep.1.symm
      have hst := run_storeCells_at (P := P) b off T' (ρ v).cells.toList 0 arr w hb (by omega) h1
      have hputeq : (arr.toList.take (off + 0) ++ (ρ v).cells.toList ++ arr.toList.drop (off + 0 + (ρ v).cells.toList.length)).toArray = (putAt arr.toList off (ρ v).cells.toList).toArray := by
        simp [putAt]
      rw [hputeq] at hst
      have hrun : (execOp ρ o).run P w = .ok .skip (w.setRow b (putAt arr.toList off (ρ v).cells.toList).toArray) := by
        simp [execOp, hop, Instr.storeAt, Instr.sureAddr, hp, storeVar, sizeOf, typeInfo, hi, hsz, hst]
      refine ⟨undef, _, M, .any, _, .inr ⟨hrun, rfl⟩, upd_block hs hn hid hm hrb (by simp [World.setRow]) (fun k hk => setRow_other _ _ _ _ hk) rfl rfl rfl (hat' _ (setRow_heap _ _ _ _ _ _ hb)), fun _ _ h => h, .any _, hk⟩
    unfold Heap.put at hput
    split at hput
    · rename_i cs hid
      split at hput
      · rename_i hle
        cases hput
        obtain ⟨r', hr', hat⟩ := hs.blks id _ hid
        rw [hm] at hr'; cases hr'
        obtain ⟨hg0, b', arr, T', e1, e2, e3, e4⟩ := hat
        have hrb := hpb (by rw [hg0, hle.1])
        rw [hrb] at e1; cases e1
        refine fin _ (.box (putAt cs off vs)) arr T' (fun w' hw' => ⟨hg0, b, _, T', hrb, hw', ?_, fun u hu => ?_⟩) hid hrb e2 (by have := e3.1; have := hle.2; simp at *; omega) rfl
        · simpa using RepL.putAt e3 hrep hle.2
        · rcases putAt_mem (by simpa using hu) with hu | hu
          · exact e4 u hu
          · exact h1 u hu
      · cases hput
    · rename_i e' sz g' ds hid
      split at hput
      · rename_i xs hxs
        split at hput
        · rename_i hle
          cases hput
          obtain ⟨r', hr', hat⟩ := hs.blks id _ hid
          rw [hm] at hr'; cases hr'
          have hrb := hpb (by rw [hat.1, hle.1])
          rcases hat.2 with ⟨_, h0, _⟩ | ⟨b', arr, e1, e2, e3, e4, e5, e6⟩
          · rw [hrb] at h0; cases h0
          rw [hrb] at e1; cases e1
          have hxr := toDs_rep hrep hxs
          have hxl : xs.length = vs.length := by rw [hxr.1, ← hrep.1]
          have hlen : (ρ v).cells.toList.length = vs.length := hrep.1.symm
          have hle2 := hle.2
          have hpl : (putAt arr.toList off (ρ v).cells.toList).length = arr.size := by rw [putAt_len _ _ _ (by simp only [Array.length_toList]; omega)]; simp
          refine fin _ (.row e' sz g' (putAt ds off xs)) arr e' (fun w' hw' => ⟨hat.1, .inr ⟨b, _, hrb, hw', by simp only [List.size_toArray, hpl]; exact e3, e4, by rw [putAt_len _ _ _ (by omega)]; simp only [List.size_toArray, hpl]; exact e5, ?_⟩⟩) hid hrb e2 (by omega) rfl
          have hdl : (putAt ds off xs).length = ds.length := putAt_len _ _ _ (by omega)
          have h7 : (putAt arr.toList off (ρ v).cells.toList).take ds.length = putAt (arr.toList.take ds.length) off (ρ v).cells.toList := by
            apply List.ext_getElem?
            intro k
            rw [List.getElem?_take, putAt_get _ _ _ (by simp; omega), putAt_get _ _ _ (by simp; omega), List.getElem?_take]
            split <;> split <;> (try split) <;> first | rfl | omega
          rw [hdl]
          simp only [List.toList_toArray, h7]
          exact RepDs.putAt e6 hxr (by omega)
        · cases hput
      · cases hput
    · cases hput
  · exact hk.elim
  · exact hk.elim

theorem natI_spec {v : V} {u : Value} {K : Int → Prop} (h : natI v K) (hv : RepV M v u) : ∃ k i, u = .int k i ∧ K i := by
  unfold natI onInt at h
  split at h
  · exact ⟨_, _, hv.intI, h⟩
  · exact h.elim

theorem elemAt_some {cs e : List D} {sz i : Nat} (h : elemAt cs sz i = some e) : i * sz + sz ≤ cs.length ∧ e.length = sz ∧ ∀ (k : Nat) c, e[k]? = some c → k < sz ∧ cs[i * sz + k]? = some c := by
  unfold elemAt at h
  split at h
  · rename_i hle
    cases h
    refine ⟨hle, by simp; omega, fun k c hc => ?_⟩
    rw [List.getElem?_take] at hc
    split at hc
    · rename_i hk; rw [List.getElem?_drop] at hc; exact ⟨hk, hc⟩
    · cases hc
  · cases h

theorem snd_indexS (T e : TypeId) (x i : Operand) (inf : TypeInfo) (hop : o.op = .indexAddr T x i) (h1 : P.underlying T = some (.slice e)) (h2 : P.info? e = some inf) (h0 : inf.size ≠ 0)
    (hx : RepV M (ρV x) (ρ x)) (hi : RepV M (ρV i) (ρ i)) (hs : Sim M h w) (hn : n ≤ h.length)
    (hk : step (.indexS inf.size x i) ρV h K) : Out n M h w K ((execOp ρ o).run P w) := by
  simp only [step, onPtr, onAgg, onTup, onStr, onSl] at hk
  obtain ⟨k, j, hj, hk⟩ := natI_spec hk hi
  have hrun : ∀ (a : Addr) (len cap : Nat), ρ x = .slice (some a) len cap → 0 ≤ j ∧ j < len → (execOp ρ o).run P w = .ok (.value (.pointer (some (a.add (j.toNat * inf.size))))) w := by
    intro a len cap hp hb
    simp [execOp, hop, Instr.indexAt, hj, asIntOf, run_underlying h1, hp, hb, sizeOf, typeInfo, h2]
  split at hk
  · rename_i xx len cs e'
    rw [e'] at hx
    obtain ⟨cap, ao, b, off, vals, hp, _, _, _, hao, hro, hrep⟩ := hx.slI
    obtain ⟨hb, el, hel, hk⟩ := hk
    obtain ⟨e1, e2, e3⟩ := elemAt_some hel
    rcases hao with rfl | hao
    · simp at e1; omega
    · refine Out.pure hs hn (.rptr el 0 b (off + j.toNat * inf.size) (fun k => vals (j.toNat * inf.size + k)) (fun k hkl => ?_) (fun k c hc => hrep _ _ (e3 k c hc).2)) hk ?_
      · rw [Nat.add_assoc]; exact hro _ (by omega)
      · rw [hrun _ _ _ (by rw [hp, hao]) hb, Addr.add_lit]; rfl
  · rename_i id g len e'
    rw [e'] at hx
    obtain ⟨r, ao, cap, hr, hg, hp, hl, hm, hv⟩ := hx.ownI
    obtain ⟨hb, ⟨vs, hvs⟩, hk⟩ := hk
    obtain ⟨blk, cs, hid, hcs, hne, hgg⟩ : ∃ blk cs, h[id]? = some (some blk) ∧ blk.vs = some cs ∧ cs ≠ [] ∧ blk.gen = g := by
      unfold Heap.cells at hvs
      split at hvs
      · rename_i cs e
        split at hvs
        · rename_i hc; refine ⟨_, cs, e, rfl, ?_, hc.1.symm⟩; rintro rfl; have := hc.2; simp at this; omega
        · cases hvs
      · rename_i g' ds e
        split at hvs
        · rename_i hc; refine ⟨_, _, e, rfl, ?_, hc.1.symm⟩; intro h0; simp at h0; subst h0; have := hc.2; simp at this; omega
        · cases hvs
      · cases hvs
    obtain ⟨r', hr', hat⟩ := hs.blks id blk hid
    rw [hr] at hr'; cases hr'
    obtain ⟨b, arr, T', e1, e2, e3, e4⟩ := hat.cells hcs hne
    obtain ⟨hao, hcap⟩ := hv (by rw [hat.genEq, hgg])
    refine Out.pure hs hn (.ptr id g (j.toNat * inf.size) r b hr hg (fun _ => e1)) hk ?_
    rw [hrun ⟨b, 0, none⟩ len cap (by rw [hp, hao, e1]; rfl) hb, Addr.add_lit, Nat.zero_add]
  · exact hk.elim
  · exact hk.elim

theorem snd_indexA (T e : TypeId) (m : Nat) (x i : Operand) (inf : TypeInfo) (hop : o.op = .indexAddr T x i) (h1 : P.underlying T = some (.array m e)) (h2 : P.info? e = some inf)
    (hx : RepV M (ρV x) (ρ x)) (hi : RepV M (ρV i) (ρ i)) (hs : Sim M h w) (hn : n ≤ h.length)
    (hk : step (.indexA m inf.size x i) ρV h K) : Out n M h w K ((execOp ρ o).run P w) := by
  simp only [step, onPtr, onAgg, onTup, onStr, onSl] at hk
  obtain ⟨k, j, hj, hk⟩ := natI_spec hk hi
  have hrun : ∀ (a : Addr), ρ x = .pointer (some a) → 0 ≤ j ∧ j < m → (execOp ρ o).run P w = .ok (.value (.pointer (some (a.add (j.toNat * inf.size))))) w := by
    intro a hp hb
    simp [execOp, hop, Instr.indexAt, Instr.sureAddr, hj, asIntOf, run_underlying h1, hp, hb, sizeOf, typeInfo, h2]
  split at hk
  · rename_i id g off e'
    rw [e'] at hx
    obtain ⟨r, b, hm, hg, hp, hpb⟩ := hx.ptrI
    obtain ⟨hb, hk⟩ := hk
    exact Out.pure hs hn (.ptr id g _ r b hm hg hpb) hk (by rw [hrun _ hp hb, Addr.add_lit])
  · rename_i ds off e'
    rw [e'] at hx
    obtain ⟨b, o', vals, hp, hro, hrep⟩ := hx.rptrI
    obtain ⟨hb, hk⟩ := hk
    exact Out.pure hs hn (.rptr ds _ b o' vals hro hrep) hk (by rw [hrun _ hp hb, Addr.add_lit, Nat.add_assoc])
  · exact hk.elim

theorem snd_len (T e : TypeId) (x : Operand) (ts : Array TypeId) (hop : o.op = .call { callee := .builtin .len, args := #[x], argTypes := ts }) (ht : ts[0]? = some T)
    (h1 : P.underlying T = some (.slice e)) (hx : RepV M (ρV x) (ρ x)) (hs : Sim M h w) (hn : n ≤ h.length)
    (hk : step (.len x) ρV h K) : Out n M h w K ((execOp ρ o).run P w) := by
  have hsl : ∀ ao len cap, ρ x = .slice ao len cap → (execOp ρ o).run P w = .ok (.value (.int .i64 len)) w := by
    rintro ao len cap hp
    simp [execOp, hop, resolve, invoke, builtin, Builtin.len_, ht, run_underlying h1, hp, goInt]
  simp only [step, onPtr, onAgg, onTup, onStr, onSl] at hk
  split at hk
  · rename_i xx len cs e'
    rw [e'] at hx
    obtain ⟨cap, ao, b, off, vals, hp, _⟩ := hx.slI
    exact Out.pure hs hn (.d _ _ (.int _ _)) hk (hsl _ _ _ hp)
  · rename_i id g len e'
    rw [e'] at hx
    obtain ⟨r, ao, cap, hr, hg, hp, _⟩ := hx.ownI
    exact Out.pure hs hn (.d _ _ (.int _ _)) hk (hsl _ _ _ hp)
  · rename_i e'
    rw [e'] at hx
    have hp : ρ x = .slice none 0 0 := by generalize ρ x = u at hx; cases hx with | d _ _ h => cases h; rfl
    exact Out.pure hs hn (.d _ _ (.int _ _)) hk (hsl _ _ _ hp)
  · exact hk.elim

theorem snd_lenStr (T : TypeId) (x : Operand) (ts : Array TypeId) (hop : o.op = .call { callee := .builtin .len, args := #[x], argTypes := ts }) (ht : ts[0]? = some T)
    (h1 : P.underlying T = some .string) (hx : RepV M (ρV x) (ρ x)) (hs : Sim M h w) (hn : n ≤ h.length)
    (hk : step (.lenStr x) ρV h K) : Out n M h w K ((execOp ρ o).run P w) := by
  simp only [step, onPtr, onAgg, onTup, onStr, onSl] at hk
  split at hk
  · rename_i l e'
    rw [e'] at hx
    have hsz : (⟨l.toArray⟩ : ByteArray).size = l.length := by simp [ByteArray.size]
    have hst : ∀ s, ρ x = .string s → (execOp ρ o).run P w = .ok (.value (.int .i64 s.size)) w := by
      intro s hp
      simp [execOp, hop, resolve, invoke, builtin, Builtin.len_, ht, run_underlying h1, hp, goInt]
    exact Out.pure hs hn (.d _ _ (.int _ _)) hk (by rw [hst _ hx.strI, hsz])
  · exact hk.elim

theorem snd_lenArr (T e : TypeId) (m : Nat) (x : Operand) (ts : Array TypeId) (hop : o.op = .call { callee := .builtin .len, args := #[x], argTypes := ts }) (ht : ts[0]? = some T)
    (h1 : P.underlying T = some (.array m e)) (hs : Sim M h w) (hn : n ≤ h.length)
    (hk : K (.d (.int .i64 m)) h) : Out n M h w K ((execOp ρ o).run P w) := by
  refine Out.pure hs hn (.d _ _ (.int _ _)) hk ?_
  simp [execOp, hop, resolve, invoke, builtin, Builtin.len_, ht, run_underlying h1, goInt]

theorem intsV_rep : ∀ {xs : List Operand} {l : List Int}, (∀ x, RepV M (ρV x) (ρ x)) → intsV (xs.map ρV) = some l → xs.map ρ = l.map (Value.int .i64)
  | [], l, _, h => by cases h; rfl
  | x :: xs, l, hρ, h => by
    simp only [List.map_cons] at h
    unfold intsV at h
    split at h
    · rename_i e; cases e
    · rename_i m ys e
      simp only [List.cons.injEq] at e
      cases hy : intsV (xs.map ρV) with
      | none => rw [e.2] at hy; rw [hy] at h; cases h
      | some r =>
        have h9 := intsV_rep hρ hy
        rw [e.2] at hy; rw [hy] at h; cases h
        have := hρ x
        rw [e.1] at this
        simp [this.intI, h9]
    · cases h

theorem min_fold (w : World) : ∀ (xs : List Int) (x : Int), ((xs.map (Value.int .i64)).foldlM Builtin.min2 (Value.int .i64 x)).run P w = .ok (.int .i64 (xs.foldl (fun a b => if b < a then b else a) x)) w
  | [], x => rfl
  | y :: xs, x => by
    simp only [List.map_cons, List.foldlM_cons, Sem.run_bind, Builtin.min2, Sem.run_pure, Result.andThen_ok, List.foldl_cons]
    exact min_fold w xs _
theorem max_fold (w : World) : ∀ (xs : List Int) (x : Int), ((xs.map (Value.int .i64)).foldlM Builtin.max2 (Value.int .i64 x)).run P w = .ok (.int .i64 (xs.foldl (fun a b => if b > a then b else a) x)) w
  | [], x => rfl
  | y :: xs, x => by
    simp only [List.map_cons, List.foldlM_cons, Sem.run_bind, Builtin.max2, Sem.run_pure, Result.andThen_ok, List.foldl_cons]
    exact max_fold w xs _

theorem snd_min (xs : Array Operand) (ts : Array TypeId) (hop : o.op = .call { callee := .builtin .min, args := xs, argTypes := ts }) (hρ : ∀ x, RepV M (ρV x) (ρ x)) (hs : Sim M h w) (hn : n ≤ h.length)
    (hk : step (.min xs.toList) ρV h K) : Out n M h w K ((execOp ρ o).run P w) := by
  obtain ⟨l, hl, hk⟩ := hk
  have := intsV_rep hρ hl
  unfold minI at hk
  split at hk
  · exact hk.elim
  · rename_i x ys
    refine Out.pure hs hn (.d _ _ (.int _ _)) hk ?_
    have hm := min_fold (P := P) w ys x
    simp [execOp, hop, resolve, invoke, builtin, Builtin.min_, this, hm]
theorem snd_max (xs : Array Operand) (ts : Array TypeId) (hop : o.op = .call { callee := .builtin .max, args := xs, argTypes := ts }) (hρ : ∀ x, RepV M (ρV x) (ρ x)) (hs : Sim M h w) (hn : n ≤ h.length)
    (hk : step (.max xs.toList) ρV h K) : Out n M h w K ((execOp ρ o).run P w) := by
  obtain ⟨l, hl, hk⟩ := hk
  have := intsV_rep hρ hl
  unfold maxI at hk
  split at hk
  · exact hk.elim
  · rename_i x ys
    refine Out.pure hs hn (.d _ _ (.int _ _)) hk ?_
    have hm := max_fold (P := P) w ys x
    simp [execOp, hop, resolve, invoke, builtin, Builtin.max_, this, hm]

/-- What a slice operand reads as. -/
theorem conts_rep {yv : V} {cv : Value} {m sz : Nat} {xs : List D} (hs : Sim M h w) (hy : RepV M yv cv) (hc : conts h yv = some (m, xs)) (hl : xs.length = m * sz) :
    ∃ xo c, ∃ news : List Value, cv = .slice xo m c ∧ RepDs M xs news ∧ (∀ w' : World, w'.heap = w.heap → (Builtin.firstCells sz m cv).run P w' = .ok news.toArray w') ∧ ∀ u ∈ news, u.oneCell' = true := by
  have one : ∀ {ds : List D} {us : List Value}, RepDs M ds us → ∀ u ∈ us, u.oneCell' = true := by
    intro ds us hr u hu
    obtain ⟨k, hk⟩ := List.getElem?_of_mem hu
    have hlt := (List.getElem?_eq_some_iff.1 hk).1
    exact (hr.2 k (ds[k]'(by rw [hr.1]; exact hlt)) u (by simp) hk).one
  unfold conts at hc
  split at hc
  · rename_i xx m' cs
    cases hc
    obtain ⟨cap, ao, b, off, vals, rfl, _, _, _, hao, hro, hrep⟩ := hy.slI
    have hr : RepDs M xs ((List.range xs.length).map vals) := ⟨by simp, fun k x c hx hcc => by
      have hlt := (List.getElem?_eq_some_iff.1 hx).1
      simp [hlt] at hcc; subst hcc; exact hrep k x hx⟩
    refine ⟨ao, cap, _, rfl, hr, fun w' hw' => ?_, one hr⟩
    rcases hao with rfl | rfl
    · have hm0 : m * sz = 0 := by simpa using hl.symm
      cases ao with
      | none => simp [Builtin.firstCells]
      | some a => simp [Builtin.firstCells, loadCells, hm0, loadCellsFrom]
    · exact run_firstCells_some (P := P) w' sz m _ m cap _ (by simp [hl]) (fun j v hj => by
        rw [List.getElem?_map] at hj
        rcases Nat.lt_or_ge j xs.length with hlt | hge
        · simp [hlt] at hj; subst hj
          rw [Addr.add_lit]
          have := (hs.ro _ _ _ (hro j hlt)).1
          simpa [World.cell?, hw'] using this
        · simp [List.getElem?_eq_none (l := List.range xs.length) (by simpa using hge)] at hj)
  · cases hc
    obtain rfl : cv = .slice none 0 0 := by cases hy with | d _ _ h => cases h; rfl
    exact ⟨none, 0, [], rfl, ⟨rfl, fun k x c hx => by simp at hx⟩, fun w' _ => by simp [Builtin.firstCells], fun u hu => by simp at hu⟩
  · rename_i id g m'
    split at hc
    · rename_i e' sz' g' ds hid
      split at hc
      · rename_i hgg
        cases hc
        obtain ⟨r, ao, cap, hr, hg, rfl, hl', hm', hv⟩ := hy.ownI
        obtain ⟨r', hr', hat⟩ := hs.blks id _ hid
        rw [hr] at hr'; cases hr'
        obtain ⟨hao, hcap⟩ := hv (by rw [hat.1, hgg])
        rcases hat.2 with ⟨rfl, h0, h00⟩ | ⟨b, arr, e1, e2, e3, e4, e5, e6⟩
        · rw [h0] at hao
          subst hao
          exact ⟨none, cap, [], rfl, ⟨rfl, fun k x c hx => by simp at hx⟩, fun w' _ => by simp [Builtin.firstCells], fun u hu => by simp at hu⟩
        · rw [e1] at hao
          have hao : ao = some ⟨b, 0, none⟩ := hao
          subst hao
          refine ⟨some ⟨b, 0, none⟩, cap, _, rfl, e6, fun w' hw' => ?_, one e6⟩
          exact run_firstCells_some (P := P) w' sz m ⟨b, 0, none⟩ m cap _ (by simp; omega) (fun j v hj => by
            rw [Addr.add_lit, Nat.zero_add]
            rw [List.getElem?_take] at hj
            split at hj
            · simp [World.cell?, hw', e2]; simpa using hj
            · cases hj)
      · cases hc
    · cases hc
  · cases hc

/-- An append that finds no room. -/
theorem run_append_re (t ty e : TypeId) (i : TypeInfo) (z : Value) (ht : P.underlying t = some (.slice e)) (hi : P.info? e = some i) (hz : i.zero = some z)
    {so xo : Option Addr} {sLen sCap m c : Nat} {olds news : List Value}
    (hfo : (Builtin.firstCells i.size sLen (.slice so sLen sCap)).run P w.drew = .ok olds.toArray w.drew) (hfn : (Builtin.firstCells i.size m (.slice xo m c)).run P w.drew = .ok news.toArray w.drew)
    (hg : sCap < sLen + m) (h63 : sLen + m ≤ 140737488355328) (hb : (sLen + m) * i.bytes ≤ 140737488355328) :
    (Builtin.append_ #[t, t] ty #[.slice so sLen sCap, .slice xo m c]).run P w =
      .ok (.slice (some ⟨w.heap.size, 0, none⟩) (sLen + m) (grownCap w (sLen + m) sCap e))
        (w.drew.alloc (.cells (olds.toArray ++ news.toArray ++ Builtin.zeroCells z.cells (grownCap w (sLen + m) sCap e - (sLen + m))) e)) := by
  have hn : ¬ (sLen + m ≤ sCap) := by omega
  have h63' : ¬ (9223372036854775807 < ((sLen : Int) + (m : Int))) := by omega
  have h48 := growslice_fits (need := sLen + m) (old := sCap) (bytes := i.bytes) (by omega) hb
  have h48' : ¬ (281474976710656 < Builtin.nextslicecap (sLen + m) sCap * i.bytes) := by omega
  simp [Builtin.append_, run_underlying ht, sizeOf, typeInfo, zeroValue, hi, hz, Builtin.lenOf, hn, h63', h48', Question.forced, hfo, hfn, newRow, grownCap]
  simp only [← List.append_toArray, Array.append_assoc]

end
end Go.Proofs.Ytdnefcjbcieecaa
