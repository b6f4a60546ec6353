/- Structs compared; maps; made slices; slices of arrays: they have the meaning of 'step'. -/
import Derived.Test.YtdnefcjbcieecaaCoreI
import Derived.Laws.MakeOwn
import Derived.MapKept
import Derived.Laws.Cover3
import Derived.Laws.Pointers
set_option linter.unusedVariables false
set_option linter.unusedSimpArgs false
namespace Go.Proofs.Ytdnefcjbcieecaa
open Go

theorem map_some2 {α β : Type} {x : Option α} {f : α → β} {b : β} (h : x.map f = some b) : ∃ a, x = some a ∧ f a = b := by
  cases x with
  | none => cases h
  | some a => exact ⟨a, rfl, by simpa using h⟩

/-- What matches a shape is the value itself. -/
theorem matchS_val {ro : Nat → Nat → Option Value} {s : SK} {x : D} {u : Value} (hm : matchS s x = true) (h : RepD ro x u) : u = valD x := by
  cases h <;> first | rfl | (cases s <;> simp [matchS] at hm)
theorem matchSs_vals {M : Mem} : ∀ {sh : List SK} {ds : List D} {us : List Value}, matchSs sh ds = true → RepDs M ds us → us = ds.map valD
  | [], [], us, _, h => by
    have := h.1
    exact List.eq_nil_of_length_eq_zero (by simpa using this.symm)
  | s :: sh, d :: ds, us, hm, h => by
    simp only [matchSs, Bool.and_eq_true] at hm
    cases us with
    | nil => have := h.1; simp at this
    | cons u us =>
      have h1 := matchS_val hm.1 (h.2 0 d u rfl rfl)
      have h2 := matchSs_vals (us := us) hm.2 ⟨by simpa using h.1, fun k x c hx hc => h.2 (k + 1) x c (by simpa using hx) (by simpa using hc)⟩
      rw [h1, h2]; rfl
  | [], _ :: _, _, hm, _ => by cases hm
  | _ :: _, [], _, hm, _ => by cases hm

section
variable {P : Program} {n : Nat} {o : Oper} {ρV : Operand → V} {ρ : Operand → Value} {M : Mem} {h : Heap} {w : World} {K : V → Heap → Prop}

theorem keyD_val {T : TypeId} {sh : List SK} {v : V} {u : Value} {ds : List D} (hk : keyD (aggT P T) v = some ds) (hm : matchSs sh ds = true) (h : RepV M v u) : u = wrapT P T (ds.map valD) := by
  unfold keyD at hk
  split at hk
  · rename_i cs ha
    obtain ⟨arr, rfl, hr⟩ := h.aggI
    have hrep := toDs_rep hr hk
    simp only [wrapT, ha, if_true]
    rw [matchSs_vals hm hrep]
  · rename_i x ha
    cases hk
    have hr := h.dI
    cases sh with
    | nil => cases hm
    | cons s sh =>
      simp only [matchSs, Bool.and_eq_true] at hm
      simp [wrapT, ha, matchS_val hm.1 hr]
  · cases hk

theorem run_equalS {T : TypeId} {sh : List SK} (hs : shapeOf P 8 T = some sh) {ds es : List D} (h1 : matchSs sh ds = true) (h2 : matchSs sh es = true) :
    (Op.equalIn 10000 T (wrapT P T (ds.map valD)) (wrapT P T (es.map valD))).run P w = .ok (eqDs ds es) w :=
  (run_eqS w 8 9992 T sh hs ds es h1 h2).2.2

theorem snd_eqA (op : BinOp) (T T' : TypeId) (x y : Operand) (c : COp) (hop : o.op = .binOp op T x y T') (ha : aggT P T = true) (hc : eqAOf P op T x y = some c) (hx : RepV M (ρV x) (ρ x)) (hy : RepV M (ρV y) (ρ y)) (hs : Sim M h w) (hn : n ≤ h.length)
    (hk : step c ρV h K) : Out n M h w K ((execOp ρ o).run P w) := by
  unfold eqAOf at hc
  split at hc
  · cases hc
  · rename_i hg
    have hg : P.eqGuardType P.depth T = false := by simpa using hg
    have key : ∀ (neg : Bool) (sh : List SK), shapeOf P 8 T = some sh → step (.eqA neg sh x y) ρV h K →
        ∃ xs ys : Array Value, ∃ r : Bool, ρ x = .agg xs ∧ ρ y = .agg ys ∧ (Op.equalIn 10000 T (.agg xs) (.agg ys)).run P w = .ok r w ∧ K (.d (.bool (if neg then !r else r))) h := by
      intro neg sh hsh hk
      obtain ⟨v, hv, hK⟩ := hk
      unfold evEqA at hv
      split at hv
      · rename_i cs cs' e1 e2
        split at hv
        · rename_i ds es hd1 hd2
          split at hv
          · rename_i hm
            simp only [Bool.and_eq_true] at hm
            cases hv
            rw [e1] at hx
            rw [e2] at hy
            obtain ⟨a1, hp1, hr1⟩ := hx.aggI
            obtain ⟨a2, hp2, hr2⟩ := hy.aggI
            have h1 := matchSs_vals hm.1 (toDs_rep hr1 hd1)
            have h2 := matchSs_vals hm.2 (toDs_rep hr2 hd2)
            have := run_equalS (w := w) hsh hm.1 hm.2
            simp only [wrapT, ha, if_true, ← h1, ← h2] at this
            exact ⟨_, _, _, hp1, hp2, this, hK⟩
          · cases hv
        · cases hv
      · cases hv
    split at hc
    · rename_i sh hsh
      cases hc
      obtain ⟨xs, ys, r, h1, h2, h3, h4⟩ := key false sh hsh hk
      refine Out.pure hs hn (.d _ _ (.bool r)) h4 ?_
      simp only [execOp, hop, h1, h2]
      simp [run_eqGuard_agg w _ T x y xs ys hg, run_eql_struct, h3]
    · rename_i sh hsh
      cases hc
      obtain ⟨xs, ys, r, h1, h2, h3, h4⟩ := key true sh hsh hk
      refine Out.pure hs hn (.d _ _ (.bool (!r))) h4 ?_
      simp only [execOp, hop, h1, h2]
      simp [run_eqGuard_agg w _ T x y xs ys hg, run_neq_struct, h3]
    · cases hc

theorem snd_mkmap (t : TypeId) (hop : o.op = .makeMap t none) (hs : Sim M h w) (hn : n ≤ h.length) (hk : step .mkmap ρV h K) : Out n M h w K ((execOp ρ o).run P w) := by
  have hml := hs.mu_len
  have hp : Post n M h w (M.setMu h.length ⟨some w.heap.size, 0, 0⟩) (h ++ [some (.map [])]) (w.alloc (.map #[] 0)) := by
    refine new_block (blk := .map []) (o := .map #[] 0) hs (by simp; omega) hml (by simp) (fun j x hj hx => ?_) (by simp) rfl rfl rfl rfl ⟨rfl, _, #[], 0, rfl, by show (w.heap.push _)[w.heap.size]? = _; simp, rfl, fun k e x he => by simp at he⟩
    rcases Nat.lt_or_ge j h.length with hl | hl
    · rwa [List.getElem?_append_left hl] at hx
    · rw [List.getElem?_append_right hl] at hx
      cases hd : j - h.length with
      | zero => omega
      | succ m => rw [hd] at hx; simp at hx
  refine ⟨.map (some w.heap.size), _, _, _, _, .inl ?_, hp, fun x u hx => hx.setMu (fun r0 h => by rw [hml] at h; cases h), .mp _ _ _ (Mem.setMu_same _ _ _) (fun _ => rfl), hk⟩
  simp [execOp, hop, Instr.makeMap]

/-- What the model's look-up finds. -/
theorem run_findS {T : TypeId} {sh : List SK} (hsh : shapeOf P 8 T = some sh) {ds : List D} (hm : matchSs sh ds = true) : ∀ (es : List (V × V)) (xs : List MapEntry) (i : Nat) (r : Option Nat),
    es.length = xs.length → (∀ (k : Nat) e x, es[k]? = some e → xs[k]? = some x → RepV M e.1 x.key ∧ RepV M e.2 x.val) → findE (aggT P T) sh ds es i = some r →
    ((∀ kd, P.underlying T = some kd → (Instr.findNow kd (wrapT P T (ds.map valD)) xs i = none ∧ aggT P T = true) ∨ Instr.findNow kd (wrapT P T (ds.map valD)) xs i = some (r.bind fun j => (xs[j - i]?).map fun x => (j, x.val)))) ∧
    (Instr.findAsking T (wrapT P T (ds.map valD)) xs i).run P w = .ok (r.bind fun j => (xs[j - i]?).map fun x => (j, x.val)) w ∧ (∀ j, r = some j → i ≤ j ∧ j - i < xs.length ∧ ∃ x, xs[j - i]? = some x ∧ x.key = wrapT P T (ds.map valD))
  | [], xs, i, r, hl, hrep, hf => by
    obtain rfl : xs = [] := List.eq_nil_of_length_eq_zero (by simpa using hl.symm)
    cases hf
    exact ⟨fun kd _ => .inr rfl, by simp [Instr.findAsking], fun j h => by cases h⟩
  | e :: es, xs, i, r, hl, hrep, hf => by
    cases xs with
    | nil => simp at hl
    | cons x xs =>
      have hx := (hrep 0 e x rfl rfl).1
      unfold findE at hf
      split at hf
      · rename_i ds' hk
        split at hf
        · rename_i hm'
          have hkey := keyD_val (P := P) (T := T) hk hm' hx
          have heq := run_equalS (w := w) (P := P) hsh hm hm'
          have heqn : ∀ kd, P.underlying T = some kd → (Instr.sameNow kd (wrapT P T (ds.map valD)) x.key = none ∧ aggT P T = true) ∨ Instr.sameNow kd (wrapT P T (ds.map valD)) x.key = some (eqDs ds ds') := by
            intro kd hkd
            rw [hkey]
            have hag : ∀ {b}, aggT P T = b → aggT P T = b := id
            unfold shapeOf at hsh
            rw [hkd] at hsh
            have scal : ∀ k, matchSs [k] ds = true → matchSs [k] ds' = true → ∃ a b, ds = [a] ∧ ds' = [b] ∧ matchS k a = true ∧ matchS k b = true := by
              intro k h1 h2
              cases ds with
              | nil => cases h1
              | cons a ds =>
                cases ds with
                | cons _ _ => simp [matchSs] at h1
                | nil =>
                  cases ds' with
                  | nil => cases h2
                  | cons b es =>
                    cases es with
                    | cons _ _ => simp [matchSs] at h2
                    | nil => exact ⟨a, b, rfl, rfl, by simpa [matchSs] using h1, by simpa [matchSs] using h2⟩
            split at hsh
            · rename_i e1; cases e1; cases hsh
              obtain ⟨a, b, rfl, rfl, k1, k2⟩ := scal _ hm hm'
              have ha : aggT P T = false := by simp [aggT, hkd]
              cases a <;> simp [matchS] at k1
              cases b <;> simp [matchS] at k2
              right; simp [wrapT, ha, valD, Instr.sameNow, eqDs, eqD]
            · rename_i k e1; cases e1; cases hsh
              obtain ⟨a, b, rfl, rfl, k1, k2⟩ := scal _ hm hm'
              have ha : aggT P T = false := by simp [aggT, hkd]
              cases a <;> simp [matchS] at k1
              cases b <;> simp [matchS] at k2
              subst k1 k2
              right; simp [wrapT, ha, valD, Instr.sameNow, eqDs, eqD]
            · rename_i e1; cases e1; cases hsh
              obtain ⟨a, b, rfl, rfl, k1, k2⟩ := scal _ hm hm'
              have ha : aggT P T = false := by simp [aggT, hkd]
              cases a <;> simp [matchS] at k1
              cases b <;> simp [matchS] at k2
              right; simp [wrapT, ha, valD, Instr.sameNow, eqDs, eqD, beq_toListBytes, ByteArray.toList_eq]
            · rename_i e1; cases e1
              exact .inl ⟨by simp [Instr.sameNow], by simp [aggT, hkd]⟩
            · rename_i e1; cases e1
              exact .inl ⟨by simp [Instr.sameNow], by simp [aggT, hkd]⟩
            · cases hsh
          have hask : (Op.equal T (wrapT P T (ds.map valD)) x.key).run P w = .ok (eqDs ds ds') w := by rw [hkey]; exact heq
          split at hf
          · rename_i he
            cases hf
            refine ⟨fun kd hkd => ?_, ?_, fun j hj => ?_⟩
            · rcases heqn kd hkd with ⟨h1, h2⟩ | h1
              · exact .inl ⟨by simp [Instr.findNow, h1], h2⟩
              · right; simp [Instr.findNow, h1, he]
            · simp [Instr.findAsking, hask, he]
            · cases hj
              refine ⟨Nat.le_refl _, by simp, x, by simp, ?_⟩
              rw [hkey]
              have hval : ∀ (sh : List SK) (as bs : List D), matchSs sh as = true → matchSs sh bs = true → eqDs as bs = true → as = bs := by
                intro sh
                induction sh with
                | nil => intro as bs h1 h2 _; cases as <;> cases bs <;> simp_all [matchSs]
                | cons s sh ih =>
                  intro as bs h1 h2 h3
                  cases as with
                  | nil => cases h1
                  | cons a as =>
                    cases bs with
                    | nil => cases h2
                    | cons b bs =>
                      simp only [matchSs, eqDs, Bool.and_eq_true] at h1 h2 h3
                      rw [ih as bs h1.2 h2.2 h3.2]
                      congr 1
                      cases s <;> cases a <;> simp [matchS] at h1 <;> cases b <;> simp_all [matchS, eqD]
              rw [hval sh ds ds' hm hm' he]
          · rename_i he
            have he : eqDs ds ds' = false := by simpa using he
            obtain ⟨h1, h2, h3⟩ := run_findS hsh hm es xs (i + 1) r (by simpa using hl) (fun k a b ha hb => hrep (k + 1) a b (by simpa using ha) (by simpa using hb)) hf
            have hshift : ∀ j, r = some j → (x :: xs)[j - i]? = xs[j - (i + 1)]? := fun j hj => by
              have := (h3 j hj).1
              rw [show j - i = (j - (i + 1)) + 1 by omega, List.getElem?_cons_succ]
            have hb : (r.bind fun j => ((x :: xs)[j - i]?).map fun x => (j, x.val)) = (r.bind fun j => (xs[j - (i + 1)]?).map fun x => (j, x.val)) := by
              cases r with
              | none => rfl
              | some j => simp only [Option.bind_some]; rw [hshift j rfl]
            refine ⟨fun kd hkd => ?_, ?_, fun j hj => ?_⟩
            · rcases heqn kd hkd with ⟨h4, h5⟩ | h4
              · exact .inl ⟨by simp [Instr.findNow, h4], h5⟩
              · rcases h1 kd hkd with ⟨h6, h7⟩ | h6
                · exact .inl ⟨by simp [Instr.findNow, h4, he, h6], h7⟩
                · right; rw [hb]; simp [Instr.findNow, h4, he, h6]
            · rw [hb]; simp [Instr.findAsking, hask, he, h2]
            · obtain ⟨k1, k2, y, k3, k4⟩ := h3 j hj
              refine ⟨by omega, ?_, y, by rw [hshift j hj]; exact k3, k4⟩
              simp only [List.length_cons]; omega
        · cases hf
      · cases hf

theorem run_findKeyS {T : TypeId} {sh : List SK} (hsh : shapeOf P 8 T = some sh) {ds : List D} (hm : matchSs sh ds = true) {es : List (V × V)} {arr : Array MapEntry} {r : Option Nat} (hent : EntsAt M es arr) (hf : findE (aggT P T) sh ds es 0 = some r) :
    (Instr.findKey T (wrapT P T (ds.map valD)) arr.toList).run P w = .ok (r.bind fun j => (arr[j]?).map fun x => (j, x.val)) w ∧ (∀ j, r = some j → ∃ x, arr[j]? = some x ∧ x.key = wrapT P T (ds.map valD)) := by
  obtain ⟨h1, h2, h3⟩ := run_findS (w := w) hsh hm es arr.toList 0 r (by simpa using hent.1) (fun k e x he hx => hent.2 k e x he (by simpa using hx)) hf
  obtain ⟨kd, hkd⟩ := (run_eqS w 8 0 T sh hsh ds ds hm hm).2.1
  refine ⟨?_, fun j hj => ?_⟩
  · unfold Instr.findKey
    simp only [Sem.run_bind, run_underlying hkd, Result.andThen_ok]
    rcases h1 kd hkd with ⟨h4, _⟩ | h4
    · rw [h4]; simpa using h2
    · rw [h4]; simp
  · obtain ⟨_, _, x, hx, hk⟩ := h3 j hj
    exact ⟨x, by simpa using hx, hk⟩

theorem mapAt (hs : Sim M h w) {id : Nat} {es : List (V × V)} {u : Value} (hi : h[id]? = some (some (.map es))) (hv : RepV M (.mp id) u) :
    ∃ b arr clock r, u = .map (some b) ∧ M.mu id = some r ∧ r.blk = some b ∧ r.gen = 0 ∧ w.heap[b]? = some (.map arr clock) ∧ EntsAt M es arr := by
  obtain ⟨r, hr, h0, b, arr, clk, hb, hw, he⟩ := hs.blks id _ hi
  cases hv with
  | mp _ r' b' h1 h2 =>
    rw [hr] at h1; cases h1
    rw [h2 h0] at hb; cases hb
    exact ⟨_, arr, clk, r, rfl, hr, h2 h0, h0, hw, he⟩

theorem snd_lookup (t kt et : TypeId) (x k : Operand) (ok : Bool) (sh : List SK) (z : Value) (hop : o.op = .lookup t x k ok) (hu : P.underlying t = some (.map kt et)) (hsh : shapeOf P 8 kt = some sh) (hz : (P.info? et).bind (·.zero) = some z)
    (hx : RepV M (ρV x) (ρ x)) (hky : RepV M (ρV k) (ρ k)) (hs : Sim M h w) (hn : n ≤ h.length)
    (hk : step (.lookup (aggT P kt) sh (constV z) ok x k) ρV h K) : Out n M h w K ((execOp ρ o).run P w) := by
  obtain ⟨v, hv, hK⟩ := hk
  unfold evLk at hv
  split at hv
  · rename_i id e1
    split at hv
    · rename_i es ds hi hd
      split at hv
      · rename_i hm
        rw [e1] at hx
        obtain ⟨b, arr, clk, r, hxe, _, _, _, hw, hent⟩ := mapAt hs hi hx
        have hkv := keyD_val (P := P) (T := kt) hd hm hky
        have hck : (Instr.checkKey arr.toList.isEmpty 10000 kt (wrapT P kt (ds.map valD))).run P w = .ok () w := run_checkS w _ 8 9992 kt sh hsh ds hm
        have hzv : (zeroValue et).run P w = .ok z w := by
          cases hi2 : P.info? et with
          | none => rw [hi2] at hz; cases hz
          | some i2 => rw [hi2] at hz; simp only [Option.bind_some] at hz; simp [zeroValue, typeInfo, hi2, hz]
        have fin : ∀ (fv : Option (Nat × Value)) (v' : V) (u : Value) (bb : Bool), (Instr.findKey kt (wrapT P kt (ds.map valD)) arr.toList).run P w = .ok fv w →
            (match fv with | some (_, v) => (v, true) | none => (z, false)) = (u, bb) → RepV M v' u → K (okV ok v' bb) h → Out n M h w K ((execOp ρ o).run P w) := by
          intro fv v' u bb hfk hres hrep hK
          have hrun : (execOp ρ o).run P w = .ok (.value (if ok then .tuple #[u, .bool bb] else u)) w := by
            have hck' := hck
            simp only [execOp, hop, Instr.lookup, hxe, hkv]
            simp only [Sem.run_bind, run_underlying hu, Result.andThen_ok, Go.MapKept.run_getObj_map hw, Sem.run_pure]
            have e2 : arr.isEmpty = arr.toList.isEmpty := by cases arr; simp
            rw [e2, hck]
            simp only [Result.andThen_ok, hfk]
            cases fv with
            | none => cases hres; simp [hzv]
            | some q => obtain ⟨j, uu⟩ := q; cases hres; simp
          refine Out.pure hs hn ?_ hK hrun
          unfold okV
          cases ok with
          | false => exact hrep
          | true =>
            refine .tup _ [u, .bool bb] rfl (fun k a c ha hc => ?_)
            cases k with
            | zero => cases ha; cases hc; exact hrep
            | succ k =>
              cases k with
              | zero => cases ha; cases hc; exact .d _ _ (.bool bb)
              | succ k => simp at ha
        split at hv
        · rename_i j hj
          obtain ⟨e, he, rfl⟩ := map_some2 hv
          obtain ⟨h1, h2⟩ := run_findKeyS (w := w) hsh hm hent hj
          obtain ⟨y, hy, _⟩ := h2 j rfl
          simp only [Option.bind_some, hy, Option.map_some] at h1
          exact fin _ _ _ true h1 rfl (hent.2 j e y he hy).2 hK
        · rename_i hj
          cases hv
          obtain ⟨h1, _⟩ := run_findKeyS (w := w) hsh hm hent hj
          exact fin none _ z false h1 rfl (constV_rep M z) hK
        · cases hv
      · cases hv
    · cases hv
  · cases hv

theorem sameBits_vals : ∀ (sh : List SK) (ds : List D), matchSs sh ds = true → ∀ (m : Nat), ((ds.map valD).zip (ds.map valD)).all (fun (x, y) => Instr.sameBits m x y) = true
  | [], [], _, _ => rfl
  | s :: sh, d :: ds, h, m => by
    simp only [matchSs, Bool.and_eq_true] at h
    have := sameBits_vals sh ds h.2 m
    simp only [List.map_cons, List.zip_cons_cons, List.all_cons, this, Bool.and_true]
    cases s <;> cases d <;> simp [matchS] at h <;> simp [valD, Instr.sameBits, beq_toListBytes]
  | [], _ :: _, h, _ => by cases h
  | _ :: _, [], h, _ => by cases h

theorem run_keyStays {T : TypeId} {sh : List SK} (hsh : shapeOf P 8 T = some sh) {ds : List D} (hm : matchSs sh ds = true) : (Instr.keyThatStays (wrapT P T (ds.map valD)) (wrapT P T (ds.map valD))).run P w = .ok (wrapT P T (ds.map valD)) w := by
  have : Instr.sameBits 10000 (wrapT P T (ds.map valD)) (wrapT P T (ds.map valD)) = true := by
    unfold wrapT
    cases ha : aggT P T with
    | true =>
      have := sameBits_vals sh ds hm 9999
      simp only [if_true, Instr.sameBits, Bool.and_eq_true]
      exact ⟨by simp, by simpa using this⟩
    | false =>
      have h1 := (run_eqS w 8 0 T sh hsh ds ds hm hm).1 ha
      have h2 := matchSs_len hm
      rw [h1] at h2
      cases ds with
      | nil => simp at h2
      | cons d ds =>
        cases ds with
        | cons _ _ => simp at h2
        | nil =>
          have := sameBits_vals sh [d] hm 10000
          simpa using this
  simp [Instr.keyThatStays, this]

theorem snd_mupd (t kt et : TypeId) (x k v : Operand) (sh : List SK) (hop : o.op = .mapUpdate t x k v ∨ o.op = .insert t x k v) (hu : P.underlying t = some (.map kt et)) (hsh : shapeOf P 8 kt = some sh)
    (hx : RepV M (ρV x) (ρ x)) (hky : RepV M (ρV k) (ρ k)) (hvl : RepV M (ρV v) (ρ v)) (hs : Sim M h w) (hn : n ≤ h.length)
    (hk : step (.mupd (aggT P kt) sh x k v) ρV h K) : Out n M h w K ((execOp ρ o).run P w) := by
  obtain ⟨h', hv, hK⟩ := hk
  unfold evUp at hv
  split at hv
  · rename_i id e1
    split at hv
    · rename_i es ds hi hd
      split at hv
      · rename_i hm
        rw [e1] at hx
        obtain ⟨b, arr, clk, r, hxe, hr, hb, h0, hw, hent⟩ := mapAt hs hi hx
        have hkv := keyD_val (P := P) (T := kt) hd hm hky
        have hck : (Instr.checkKey false 10000 kt (wrapT P kt (ds.map valD))).run P w = .ok () w := run_checkS w _ 8 9992 kt sh hsh ds hm
        have hlt := (Array.getElem?_eq_some_iff.1 hw).1
        have hpost : ∀ (es' : List (V × V)) (arr' : Array MapEntry) (clk' : Nat), EntsAt M es' arr' → Post n M h w M (h.set id (some (.map es'))) { w with heap := w.heap.setIfInBounds b (.map arr' clk') } := by
          intro es' arr' clk' he
          refine upd_block hs hn hi hr hb (by simp) (fun j hj => by simp [Array.getElem?_setIfInBounds_ne (Ne.symm hj)]) rfl rfl rfl ⟨h0, b, arr', clk', hb, by simp [hlt], he⟩
        have fin : ∀ (w' : World), (Instr.mapUpdate t (.map (some b)) (wrapT P kt (ds.map valD)) (ρ v)).run P w = .ok () w' → (execOp ρ o).run P w = .ok .skip w' := by
          intro w' hr
          rcases hop with hop | hop <;> simp [execOp, hop, hxe, hkv, hr]
        split at hv
        · rename_i j hj
          cases hv
          obtain ⟨h1, h2⟩ := run_findKeyS (w := w) hsh hm hent hj
          obtain ⟨y, hy, hyk⟩ := h2 j rfl
          simp only [Option.bind_some, hy, Option.map_some] at h1
          refine ⟨undef, _, M, .any, _, .inr ⟨fin _ ?_, rfl⟩, hpost _ (arr.modify j fun e => { e with key := wrapT P kt (ds.map valD), val := ρ v }) clk ⟨by simpa using hent.1, fun i e x he hx => ?_⟩, fun _ _ h => h, .any _, hK⟩
          · simp only [Instr.mapUpdate, Sem.run_bind, run_underlying hu, Result.andThen_ok, Go.MapKept.run_getObj_map hw, hck, h1, hy, Option.map_some, Option.getD_some, hyk, run_keyStays hsh hm]
            exact Go.MapKept.run_setObj_map _ hw
          · by_cases hij : j = i
            · subst hij
              rw [List.getElem?_set] at he
              simp only [if_true] at he
              split at he
              · cases he
                rw [Array.getElem?_modify, if_pos rfl, hy] at hx
                cases hx
                exact ⟨by rw [← hkv]; exact hky, hvl⟩
              · cases he
            · rw [List.getElem?_set_ne hij] at he
              rw [Array.getElem?_modify, if_neg hij] at hx
              exact hent.2 i e x he hx
        · rename_i hj
          cases hv
          obtain ⟨h1, _⟩ := run_findKeyS (w := w) hsh hm hent hj
          refine ⟨undef, _, M, .any, _, .inr ⟨fin _ ?_, rfl⟩, hpost _ (arr.push { key := wrapT P kt (ds.map valD), val := ρ v, born := clk }) (clk + 1) ⟨by simp [hent.1], fun i e x he hx => ?_⟩, fun _ _ h => h, .any _, hK⟩
          · simp only [Instr.mapUpdate, Sem.run_bind, run_underlying hu, Result.andThen_ok, Go.MapKept.run_getObj_map hw, hck, h1, Option.bind_none]
            exact Go.MapKept.run_setObj_map _ hw
          · rcases Nat.lt_or_ge i es.length with hl | hl
            · rw [List.getElem?_append_left hl] at he
              rw [Array.getElem?_push, if_neg (by rw [← hent.1]; omega)] at hx
              exact hent.2 i e x he hx
            · rw [List.getElem?_append_right hl] at he
              cases hd2 : i - es.length with
              | zero =>
                rw [hd2] at he
                cases he
                have : i = arr.size := by rw [← hent.1]; omega
                rw [Array.getElem?_push, if_pos this] at hx
                cases hx
                exact ⟨by rw [← hkv]; exact hky, hvl⟩
              | succ q => rw [hd2] at he; simp at he
        · cases hv
      · cases hv
    · cases hv
  · cases hv

theorem snd_mkslice (t e : TypeId) (l c : Operand) (i : TypeInfo) (z : List D) (hop : o.op = .makeSlice t l c) (hu : P.underlying t = some (.slice e)) (hi : P.info? e = some i) (hz : zeroCells? P e = some z) (hzl : z.length = i.size) (hpos : 0 < i.size)
    (hl : RepV M (ρV l) (ρ l)) (hc : RepV M (ρV c) (ρ c)) (hs : Sim M h w) (hn : n ≤ h.length) (hk : step (.mkslice e i.size i.bytes z l c) ρV h K) : Out n M h w K ((execOp ρ o).run P w) := by
  obtain ⟨⟨v, h'⟩, hv, hK⟩ := hk
  unfold evMk at hv
  split at hv
  · rename_i k1 a k2 b e1 e2
    split at hv
    · rename_i hcnd
      cases hv
      obtain ⟨c1, c2, c3, c4⟩ := hcnd
      rw [e1] at hl
      rw [e2] at hc
      obtain ⟨i', zv, hi', hzv, _, hrep, hone⟩ := zeroCells_spec (M := M) (w := w) hz
      rw [hi] at hi'; cases hi'
      have hb' : (i.bytes : Int) * b ≤ 281474976710656 := by
        have : ((i.bytes * b.toNat : Nat) : Int) ≤ 281474976710656 := by omega
        rw [Int.natCast_mul, Int.toNat_of_nonneg (by omega)] at this
        exact this
      have hrun := run_make (P := P) w t e i zv hu hi hzv k1 k2 a b c1 c2 hb' (by omega)
      have hzs : zv.cells.size = i.size := by have := hrep.1; rw [hzl] at this; simpa using this.symm
      have hsz : (madeCells zv.cells (b.toNat * i.size)).size = b.toNat * i.size := size_madeCells _ _
      have hle : a.toNat * i.size ≤ b.toNat * i.size := Nat.mul_le_mul_right _ (by omega)
      have hab : a.toNat ≤ b.toNat := by omega
      have hbm : b.toNat ≤ maxLen := by simp only [maxLen]; omega
      obtain ⟨hp, henv⟩ := alloc_row (n := n) (e := e) (arr := madeCells zv.cells (b.toNat * i.size)) (cap := b.toNat) (ds := (List.range (a.toNat * i.size)).map fun k => z.getD (k % i.size) .any) (sz := i.size) hs hn (by
        refine ⟨by simp only [List.length_map, List.length_range, List.length_take, Array.length_toList, hsz]; omega, fun k x u hx hu => ?_⟩
        simp only [List.length_map, List.length_range] at hu
        have hk : k < a.toNat * i.size := by have := (List.getElem?_eq_some_iff.1 hx).1; simpa using this
        rw [List.getElem?_map, List.getElem?_range hk] at hx
        cases hx
        rw [List.getElem?_take, if_pos hk] at hu
        have hm : k % i.size < i.size := Nat.mod_lt _ hpos
        have hge : (madeCells zv.cells (b.toNat * i.size)).toList[k]? = some (zv.cells[k % zv.cells.size]!) := by
          simp [madeCells, show k < b.toNat * i.size by omega]
        rw [hge] at hu
        cases hu
        refine hrep.2 (k % i.size) _ _ ?_ ?_
        · have h8 : k % i.size < z.length := by omega
          show z[k % i.size]? = some (z.getD (k % i.size) .any)
          rw [List.getD_eq_getElem?_getD, List.getElem?_eq_getElem h8]; rfl
        · rw [hzs]
          have : k % i.size < zv.cells.size := by omega
          simp [this]) (by simp only [List.length_map, List.length_range, hsz]; omega) hsz hbm
      refine ⟨_, _, _, _, _, .inl ?_, hp, henv, .own h.length 0 a.toNat _ _ _ (Mem.setMu_same _ _ _) (Nat.le_refl _) hab hbm (fun _ => ⟨rfl, rfl⟩), hK⟩
      simp only [execOp, hop, hl.intI, hc.intI]
      simp [hrun]
    · cases hv
  · cases hv

theorem snd_sliceA (t arr e : TypeId) (m : Nat) (x : Operand) (lo hi : Option Operand) (inf : TypeInfo) (hop : o.op = .slice t x lo hi none) (h12 : P.underlying t = some (.array m e) ∨ (P.underlying t = some (.pointer arr) ∧ P.underlying arr = some (.array m e))) (h3 : P.info? e = some inf) (hm : m ≤ 1048576)
    (hρ : ∀ x, RepV M (ρV x) (ρ x)) (hs : Sim M h w) (hn : n ≤ h.length)
    (hk : step (.sliceA m inf.size x lo hi) ρV h K) : Out n M h w K ((execOp ρ o).run P w) := by
  obtain ⟨v, hv, hK⟩ := hk
  unfold evSlA at hv
  split at hv
  · rename_i ds off kl l kt tt e1 e2 e3
    split at hv
    · rename_i hc
      cases hv
      obtain ⟨c1, c2, c3, c4⟩ := hc
      have hx := hρ x
      rw [e1] at hx
      obtain ⟨b, bo, vals, hxe, hro, hrep⟩ := hx.rptrI
      have hlo : ∀ (w : World), lo = none ∧ l = 0 ∨ ∃ y, lo = some y ∧ ρ y = .int kl l := by
        intro w
        cases lo with
        | none => left; simp at e2; exact ⟨rfl, e2.2.symm⟩
        | some y => right; have := hρ y; simp at e2; rw [e2] at this; exact ⟨y, rfl, this.intI⟩
      have hhi : ∀ (w : World), hi = none ∧ tt = m ∨ ∃ y, hi = some y ∧ ρ y = .int kt tt := by
        intro w
        cases hi with
        | none => left; simp at e3; exact ⟨rfl, e3.2.symm⟩
        | some y => right; have := hρ y; simp at e3; rw [e3] at this; exact ⟨y, rfl, this.intI⟩
      have hb : (Instr.sliceBounds false m m (lo.map ρ) (hi.map ρ) none).run P w = .ok (l.toNat, tt.toNat, m) w := by
        have ht : 0 ≤ tt ∧ tt ≤ m := ⟨by omega, c3⟩
        rcases hlo w with ⟨rfl, rfl⟩ | ⟨y, rfl, hy⟩ <;> rcases hhi w with ⟨rfl, rfl⟩ | ⟨y', rfl, hy'⟩
        · simp [Instr.sliceBounds]
        · simp [Instr.sliceBounds, Instr.sliceBound, hy', asIntOf, ht]
        · simp [Instr.sliceBounds, Instr.sliceBound, hy, asIntOf, c1, c2]
        · have h5 : 0 ≤ l ∧ l ≤ ((tt.toNat : Nat) : Int) := ⟨c1, by omega⟩
          simp [Instr.sliceBounds, Instr.sliceBound, hy, hy', asIntOf, ht, h5]
          intro hh; exfalso; omega
      have hrun : (execOp ρ o).run P w = .ok (.value (.slice (some (if m = l.toNat then ⟨b, bo + off, none⟩ else ⟨b, bo + off + l.toNat * inf.size, none⟩)) (tt.toNat - l.toNat) (m - l.toNat))) w := by
        simp only [execOp, hop, hxe]
        have hadd : (if m = l.toNat then ({ block := b, off := bo + off } : Addr) else if l.toNat * inf.size = 0 then { block := b, off := bo + off } else { block := b, off := bo + off + l.toNat * inf.size }) =
            if m = l.toNat then { block := b, off := bo + off } else { block := b, off := bo + off + l.toNat * inf.size } := by
          split
          · rfl
          · split
            · rename_i h0; rw [h0]; rfl
            · rfl
        rcases h12 with h1 | ⟨h1, h2⟩
        · simp [Instr.sliceAt, run_underlying h1, Instr.sureAddr, hb, sizeOf, typeInfo, h3, Addr.add, hadd]
        · simp [Instr.sliceAt, Instr.slice, run_underlying h1, run_underlying h2, asAddr, hb, sizeOf, typeInfo, h3, Addr.add]
          exact hadd
      refine Out.pure hs hn ?_ hK hrun
      refine .d _ _ ?_
      have hlen : ((ds.drop (off + l.toNat * inf.size)).take ((tt.toNat - l.toNat) * inf.size)).length = (tt.toNat - l.toNat) * inf.size := by
        have h6 : l.toNat * inf.size + (tt.toNat - l.toNat) * inf.size = tt.toNat * inf.size := by rw [← Nat.add_mul]; congr 1; omega
        have h7 : tt.toNat * inf.size ≤ m * inf.size := Nat.mul_le_mul_right _ (by omega)
        simp; omega
      by_cases hml : m = l.toNat
      · have h0 : tt.toNat - l.toNat = 0 := by omega
        rw [h0]
        simp only [Nat.zero_mul, List.take_zero]
        exact .sl false 0 _ [] _ 0 0 (fun _ => undef) (Nat.zero_le _) (by simp only [maxLen]; omega) (fun h => by cases h) (.inl rfl) (fun k hk => by simp at hk) (fun k c hk => by simp at hk)
      · rw [if_neg hml]
        refine .sl false _ _ _ _ b (bo + off + l.toNat * inf.size) (fun k => vals (off + l.toNat * inf.size + k)) (by omega) (by simp only [maxLen]; omega) (fun h => by cases h) (.inr rfl) (fun k hk => ?_) (fun k c hk => ?_)
        · rw [hlen] at hk
          have h6 : l.toNat * inf.size + (tt.toNat - l.toNat) * inf.size = tt.toNat * inf.size := by rw [← Nat.add_mul]; congr 1; omega
          have h7 : tt.toNat * inf.size ≤ m * inf.size := Nat.mul_le_mul_right _ (by omega)
          have := hro (off + l.toNat * inf.size + k) (by omega)
          rw [show bo + off + l.toNat * inf.size + k = bo + (off + l.toNat * inf.size + k) by omega]
          exact this
        · rw [List.getElem?_take] at hk
          split at hk
          · rw [List.getElem?_drop] at hk
            exact hrep _ c hk
          · cases hk
    · cases hv
  · cases hv

theorem snd_nil (op : BinOp) (T T' : TypeId) (x y : Operand) (c : COp) (hop : o.op = .binOp op T x y T') (hc : nilOf P op T x y = some c) (hx : RepV M (ρV x) (ρ x)) (hy : RepV M (ρV y) (ρ y)) (hyc : ∀ v, y = .const v → ρ y = v) (hs : Sim M h w) (hn : n ≤ h.length)
    (hk : step c ρV h K) : Out n M h w K ((execOp ρ o).run P w) := by
  have fin : ∀ (neg b : Bool) (a z : Value), (op = .eql ∧ neg = false ∨ op = .neq ∧ neg = true) → ρ x = a → ρ y = z → (∀ op', (op' = .eql ∨ op' = .neq) → binOp op' T a z = (if op' matches .neq then do pure (.bool (!(← Op.equal T a z))) else do pure (.bool (← Op.equal T a z)))) → (Op.equal T a z).run P w = .ok b w →
      (∀ op', (eqGuard op' T x y a z).run P w = .ok () w) → K (.d (.bool (if neg then !b else b))) h → Out n M h w K ((execOp ρ o).run P w) := by
    intro neg b a z hneg ha hz h1 h2 h3 hK
    refine Out.pure hs hn (.d _ _ (.bool _)) hK ?_
    simp only [execOp, hop, ha, hz]
    rcases hneg with ⟨rfl, rfl⟩ | ⟨rfl, rfl⟩
    · simp [h3, h1 .eql (.inl rfl), h2]
    · simp [h3, h1 .neq (.inr rfl), h2]
  have gp : ∀ op' (a : Option Addr) z, (eqGuard op' T x y (.pointer a) z).run P w = .ok () w := fun op' a z => by cases op' <;> simp [eqGuard]
  have gs : ∀ op' (a : Option Addr) l c z, (eqGuard op' T x y (.slice a l c) z).run P w = .ok () w := fun op' a l c z => by cases op' <;> simp [eqGuard]
  have gm : ∀ op' (a : Option Nat) z, (eqGuard op' T x y (.map a) z).run P w = .ok () w := fun op' a z => by cases op' <;> simp [eqGuard]
  have gf : ∀ op' f a c z, (eqGuard op' T x y (.func f a c) z).run P w = .ok () w := fun op' f a c z => by cases op' <;> simp [eqGuard]
  have gn : ∀ op' z, (eqGuard op' T x y .nilFunc z).run P w = .ok () w := fun op' z => by cases op' <;> simp [eqGuard]
  unfold nilOf at hc
  split at hc
  · rename_i e hu
    have hyv := hyc _ rfl
    have go : ∀ (neg : Bool), (op = .eql ∧ neg = false ∨ op = .neq ∧ neg = true) → step (.isNil 0 neg x) ρV h K → Out n M h w K ((execOp ρ o).run P w) := by
      rintro neg hneg ⟨b, hb, hK⟩
      have key : ∀ a l c, ρ x = .slice a l c → a.isNone = b → Out n M h w K ((execOp ρ o).run P w) := fun a l c hp hab =>
        fin neg b _ _ hneg hp hyv (fun op' h => by rcases h with rfl | rfl <;> simp [binOp]) (by rw [← hab]; exact run_equal_slice_nil w T e a l c hu) (fun op' => gs op' a l c _) hK
      replace hb : evNilS (ρV x) h = some b := hb
      unfold evNilS at hb
      split at hb
      · rename_i e1; rw [e1] at hx; cases hb
        refine key none 0 0 ?_ rfl
        generalize ρ x = u at hx; cases hx with | d _ _ h => cases h; rfl
      · rename_i xx len cs e1
        rw [e1] at hx
        split at hb
        · cases hb
        · rename_i hne
          cases hb
          obtain ⟨cap, ao, bb, off, vals, hp, hle, hmx, hex, hao, hro, hrep⟩ := hx.slI
          have hao : ao = some ⟨bb, off, none⟩ := hao.resolve_left (fun h => hne (by rw [h]; rfl))
          exact key _ _ _ hp (by rw [hao]; rfl)
      · rename_i id g len e1
        rw [e1] at hx
        split at hb
        · rename_i e1 e2 g' ds hb2
          split at hb
          · rename_i hg
            cases hb
            obtain ⟨r, ao, cap, hr, hgr, hp, hle, hmx, hv⟩ := hx.ownI
            obtain ⟨r', hr', hat⟩ := hs.blks id _ hb2
            rw [hr] at hr'; cases hr'
            have hgen : r.gen = g := by rw [hg.1]; exact hat.1
            obtain ⟨hao, _⟩ := hv hgen
            rcases hat.2 with ⟨h0, _⟩ | ⟨bb, arr, h1, _⟩
            · rw [h0] at hg; simp at hg
            · exact key _ _ _ hp (by rw [hao, h1]; rfl)
          · cases hb
        · cases hb
      · cases hb
    split at hc
    · cases hc; exact go false (.inl ⟨rfl, rfl⟩) hk
    · cases hc; exact go true (.inr ⟨rfl, rfl⟩) hk
    · cases hc
  · rename_i e hu
    have hyv := hyc _ rfl
    have hu' : P.underlying T = some (.pointer (P.pointee T)) := by rw [hu]; simp [Program.pointee, hu]
    have go : ∀ (neg : Bool), (op = .eql ∧ neg = false ∨ op = .neq ∧ neg = true) → step (.isNil 1 neg x) ρV h K → Out n M h w K ((execOp ρ o).run P w) := by
      rintro neg hneg ⟨b, hb, hK⟩
      have key : ∀ a, ρ x = .pointer a → a.isNone = b → Out n M h w K ((execOp ρ o).run P w) := fun a hp hab =>
        fin neg b _ _ hneg hp hyv (fun op' h => by rcases h with rfl | rfl <;> simp [binOp]) (by rw [← hab]; exact run_equal_pointer_nil w T a hu') (fun op' => gp op' a _) hK
      replace hb : evNilP (ρV x) = some b := hb
      unfold evNilP at hb
      split at hb
      · rename_i e1; rw [e1] at hx; cases hb
        refine key none ?_ rfl
        generalize ρ x = u at hx; cases hx with | d _ _ h => cases h; rfl
      · rename_i e1; rw [e1] at hx; cases hb
        obtain ⟨r, b, _, _, hp, _⟩ := hx.ptrI
        exact key _ hp rfl
      · rename_i e1; rw [e1] at hx; cases hb
        obtain ⟨b, o, vals, hp, _⟩ := hx.rptrI
        exact key _ hp rfl
      · cases hb
    split at hc
    · cases hc; exact go false (.inl ⟨rfl, rfl⟩) hk
    · cases hc; exact go true (.inr ⟨rfl, rfl⟩) hk
    · cases hc
  · rename_i kk e hu
    have hyv := hyc _ rfl
    have go : ∀ (neg : Bool), (op = .eql ∧ neg = false ∨ op = .neq ∧ neg = true) → step (.isNil 2 neg x) ρV h K → Out n M h w K ((execOp ρ o).run P w) := by
      rintro neg hneg ⟨b, hb, hK⟩
      have key : ∀ a, ρ x = .map a → a.isNone = b → Out n M h w K ((execOp ρ o).run P w) := fun a hp hab =>
        fin neg b _ _ hneg hp hyv (fun op' h => by rcases h with rfl | rfl <;> simp [binOp]) (by rw [← hab]; exact run_equal_map_nil w T kk e a hu) (fun op' => gm op' a _) hK
      replace hb : evNilM (ρV x) = some b := hb
      unfold evNilM at hb
      split at hb
      · rename_i e1; rw [e1] at hx; cases hb; generalize hux : ρ x = u at hx; cases hx; exact key _ hux rfl
      · cases hb
    split at hc
    · cases hc; exact go false (.inl ⟨rfl, rfl⟩) hk
    · cases hc; exact go true (.inr ⟨rfl, rfl⟩) hk
    · cases hc
  · rename_i a1 a2 a3 hu
    have hyv := hyc _ rfl
    have en : ∀ d, (Op.equalIn (d + 1) T .nilFunc .nilFunc).run P w = .ok true w := fun d => by simp [Op.equalIn, run_underlying hu]
    have ef : ∀ d f a c, (Op.equalIn (d + 1) T (.func f a c) .nilFunc).run P w = .ok false w := fun d f a c => by simp [Op.equalIn, run_underlying hu]
    have go : ∀ (neg : Bool), (op = .eql ∧ neg = false ∨ op = .neq ∧ neg = true) → step (.isNil 3 neg x) ρV h K → Out n M h w K ((execOp ρ o).run P w) := by
      rintro neg hneg ⟨b, hb, hK⟩
      have keyn : ρ x = .nilFunc → b = true → Out n M h w K ((execOp ρ o).run P w) := fun hp hab =>
        fin neg b _ _ hneg hp hyv (fun op' h => by rcases h with rfl | rfl <;> simp [binOp]) (by rw [hab]; exact en 9999) (fun op' => gn op' _) hK
      have keyf : ∀ f a c, ρ x = .func f a c → b = false → Out n M h w K ((execOp ρ o).run P w) := fun f a c hp hab =>
        fin neg b _ _ hneg hp hyv (fun op' h => by rcases h with rfl | rfl <;> simp [binOp]) (by rw [hab]; exact ef 9999 f a c) (fun op' => gf op' f a c _) hK
      replace hb : evNilF (ρV x) = some b := hb
      unfold evNilF at hb
      split at hb
      · rename_i e1; rw [e1] at hx; cases hb; generalize hux : ρ x = u at hx; cases hx with | d _ _ h => cases h; exact keyn hux rfl
      · rename_i f e1; rw [e1] at hx; cases hb; generalize hux : ρ x = u at hx; cases hx with | d _ _ h => cases h; exact keyf _ _ _ hux rfl
      · rename_i e1; rw [e1] at hx; cases hb; generalize hux : ρ x = u at hx; cases hx; exact keyf _ _ _ hux rfl
      · cases hb
    split at hc
    · cases hc; exact go false (.inl ⟨rfl, rfl⟩) hk
    · cases hc; exact go true (.inr ⟨rfl, rfl⟩) hk
    · cases hc
  · rename_i y _ _ hu
    have go : ∀ (neg : Bool), (op = .eql ∧ neg = false ∨ op = .neq ∧ neg = true) → step (.binB neg x y) ρV h K → Out n M h w K ((execOp ρ o).run P w) := by
      rintro neg hneg ⟨v, hv, hK⟩
      unfold evBinB at hv
      split at hv
      · rename_i a b e1 e2
        cases hv
        rw [e1] at hx
        rw [e2] at hy
        exact fin neg (a == b) _ _ hneg hx.boolI hy.boolI (fun op' h => by rcases h with rfl | rfl <;> simp [binOp]) (run_equal_bool w T a b hu) (fun op' => by cases op' <;> simp [eqGuard]) hK
      · cases hv
    split at hc
    · cases hc; exact go false (.inl ⟨rfl, rfl⟩) hk
    · cases hc; exact go true (.inr ⟨rfl, rfl⟩) hk
    · cases hc
  · rename_i y _ _ hu
    cases hc
    obtain ⟨v, hv, hK⟩ := hk
    unfold evBinS at hv
    split at hv
    · rename_i a b e1 e2
      rw [e1] at hx
      rw [e2] at hy
      have hrun : ∀ u, (Op.stringOp op ⟨a.toArray⟩ ⟨b.toArray⟩).run P w = .ok u w → (execOp ρ o).run P w = .ok (.value u) w := by
        intro u hu
        simp only [execOp, hop, hx.strI, hy.strI]
        have hg : (eqGuard op T x y (.string ⟨a.toArray⟩) (.string ⟨b.toArray⟩)).run P w = .ok () w := by cases op <;> simp [eqGuard]
        have hb : binOp op T (.string ⟨a.toArray⟩) (.string ⟨b.toArray⟩) = Op.stringOp op ⟨a.toArray⟩ ⟨b.toArray⟩ := by cases op <;> rfl
        simp [hg, hb, hu]
      split at hv
      · cases hv; exact Out.pure hs hn (.d _ _ (.bool _)) hK (hrun _ (by simp [Op.stringOp, ByteArray.toList_eq]))
      · cases hv; exact Out.pure hs hn (.d _ _ (.bool _)) hK (hrun _ (by simp [Op.stringOp, ByteArray.toList_eq]))
      · cases hv; exact Out.pure hs hn (.d _ _ (.bool _)) hK (hrun _ (by simp [Op.stringOp, ByteArray.toList_eq]))
      · cases hv; exact Out.pure hs hn (.d _ _ (.bool _)) hK (hrun _ (by simp [Op.stringOp, ByteArray.toList_eq]))
      · cases hv; exact Out.pure hs hn (.d _ _ (.bool _)) hK (hrun _ (by simp [Op.stringOp, ByteArray.toList_eq]))
      · cases hv; exact Out.pure hs hn (.d _ _ (.bool _)) hK (hrun _ (by simp [Op.stringOp, ByteArray.toList_eq]))
      · split at hv
        · rename_i hl
          cases hv
          refine Out.pure hs hn (.d _ _ (.str _)) hK (hrun _ ?_)
          have h9 : ¬ (IntKind.i64.max < ((a.length + b.length : Nat) : Int)) := by
            have : IntKind.i64.max = 9223372036854775807 := rfl
            omega
          have hsz : (⟨a.toArray⟩ : ByteArray).size + (⟨b.toArray⟩ : ByteArray).size = a.length + b.length := by simp [ByteArray.size]
          have hap : (⟨a.toArray⟩ ++ ⟨b.toArray⟩ : ByteArray) = ⟨(a ++ b).toArray⟩ := by
            apply ByteArray.ext
            simp [ByteArray.data_append]
          simp only [Op.stringOp, hsz, gt_iff_lt, h9, if_false, hap]
          rfl
        · cases hv
      · cases hv
    · cases hv
  · cases hc
end
end Go.Proofs.Ytdnefcjbcieecaa
