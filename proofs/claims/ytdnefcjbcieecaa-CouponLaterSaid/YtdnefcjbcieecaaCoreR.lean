/- Draw regions: one order stands for all. -/
import Derived.Test.YtdnefcjbcieecaaCoreQ
set_option linter.unusedVariables false
set_option linter.unusedSimpArgs false
namespace Go.Proofs.Ytdnefcjbcieecaa
open Go

section
variable (md : Region.Mode) (P : Program) (n : Nat) (ops : Array Oper) (rs : List ROp) (K : Env → Heap → Prop)
def runI (i : Nat) (K : Env → Heap → Prop) (env : Env) (h : Heap) : Prop :=
  match rs[i]? with
  | none => K env h
  | some r => runG P n r K env h
def SAll : Nat → Array Bool → Env → Heap → Prop
  | 0, listed, env, h => Region.ready md ops listed = [] ∧ K env h
  | fuel + 1, listed, env, h => (Region.ready md ops listed = [] → K env h) ∧ ∀ i ∈ Region.ready md ops listed, runI P n rs i (SAll fuel (listed.setIfInBounds i true)) env h
def runT : OT → Env → Heap → Prop
  | .leaf, env, h => K env h
  | .node i t, env, h => runI P n rs i (runT t) env h
  | .alt a b, env, h => runT a env h ∧ runT b env h

/-- An operation that may be taken first. -/
def eager (listed : Array Bool) (i : Nat) : Bool :=
  match rs[i]? with
  | none => false
  | some r => decide (kindR r.op ≤ 1) && eagerL md ops rs listed i r
def treeR : Nat → Array Bool → Option OT
  | 0, listed => match Region.ready md ops listed with
    | [] => some .leaf
    | _ => none
  | fuel + 1, listed => match Region.ready md ops listed with
    | [] => some .leaf
    | i :: is => match (i :: is).find? (eager md ops rs listed) with
      | some j => (treeR fuel (listed.setIfInBounds j true)).map (.node j)
      | none => altR (fun j => treeR fuel (listed.setIfInBounds j true)) (i :: is)
end

section
variable {md : Region.Mode} {P : Program} {n : Nat} {ops : Array Oper} {rs : List ROp} {K : Env → Heap → Prop}

theorem runI_mono {i : Nat} {env : Env} {h : Heap} {K K' : Env → Heap → Prop} (hk : ∀ env h, K env h → K' env h) (hy : runI P n rs i K env h) : runI P n rs i K' env h := by
  unfold runI at *
  split
  · rename_i e; rw [e] at hy; exact hk _ _ hy
  · rename_i r e; rw [e] at hy; exact runG_mono hk hy

/-- Equal frames. -/
theorem get_put_eq {env env' : Env} (he : ∀ k, env.get k = env'.get k) (d : Option Nat) (v : V) (k : Nat) : (env.put d v).get k = (env'.put d v).get k := by
  cases d with
  | none => exact he k
  | some d =>
    by_cases hk : k = d
    · subst hk; rw [Env.get_put_same, Env.get_put_same]
    · rw [Env.get_put_other _ _ hk, Env.get_put_other _ _ hk]; exact he k
theorem runG_eq {r : ROp} {env env' : Env} {h : Heap} {K K' : Env → Heap → Prop} (he : ∀ k, env.get k = env'.get k) (hK : ∀ e e' h, (∀ k, e.get k = e'.get k) → K e h → K' e' h) (hy : runG P n r K env h) : runG P n r K' env' h := by
  unfold runG at *
  rw [guard_same (r := r) (env := env) (env' := env') (fun t _ => he t)] at hy
  refine guardV_imp hy (fun hx => ?_) (hK _ _ _ (get_put_eq he _ _))
  exact runK2_congr (opnd_same fun t _ => he t) (runK2_mono hx fun v h' _ => hK _ _ _ (get_put_eq he _ _))
theorem runI_eq {i : Nat} {env env' : Env} {h : Heap} {K K' : Env → Heap → Prop} (he : ∀ k, env.get k = env'.get k) (hK : ∀ e e' h, (∀ k, e.get k = e'.get k) → K e h → K' e' h) (hy : runI P n rs i K env h) : runI P n rs i K' env' h := by
  unfold runI at *
  split
  · rename_i e; rw [e] at hy; exact hK _ _ _ he hy
  · rename_i r e; rw [e] at hy; exact runG_eq he hK hy

theorem SAll_eq (hK : ∀ e e' h, (∀ k, e.get k = e'.get k) → K e h → K e' h) : ∀ (f : Nat) (listed : Array Bool) (env env' : Env) (h : Heap), (∀ k, env.get k = env'.get k) → SAll md P n ops rs K f listed env h → SAll md P n ops rs K f listed env' h
  | 0, listed, env, env', h, he, hs => ⟨hs.1, hK _ _ _ he hs.2⟩
  | f + 1, listed, env, env', h, he, hs => ⟨fun h0 => hK _ _ _ he (hs.1 h0), fun i hi => runI_eq he (fun e e' h hh => SAll_eq hK f _ e e' h hh) (hs.2 i hi)⟩

/-- What is listed has what it stands behind listed. -/
def DC (md : Region.Mode) (ops : Array Oper) (listed : Array Bool) : Prop := ∀ j, listed.getD j false = true → ∀ o, ops[j]? = some o → ∀ e ∈ o.after, Region.binds md e = true → listed.getD e.on false = true

theorem DC.set {listed : Array Bool} {i : Nat} (h : DC md ops listed) (hi : i ∈ Region.ready md ops listed) : DC md ops (listed.setIfInBounds i true) := by
  intro j hj o ho e he hb
  by_cases hji : i = j
  · subst hji
    obtain ⟨_, o', ho', hall⟩ := mem_ready.1 hi
    rw [ho] at ho'
    cases ho'
    exact getD_set_true (hall e he hb)
  · rw [getD_set_ne false hji] at hj
    exact getD_set_true (h j hj o ho e he hb)

theorem behind_not {listed : Array Bool} {i : Nat} (h : DC md ops listed) (hi : listed.getD i false = false) (j : Nat) (hj : ∀ o, ops[j]? = some o → ∀ e ∈ o.after, Region.binds md e = true → listed.getD e.on false = true) : behindB md ops i j = false := by
  have hd : directB md ops i j = false := by
    rw [Bool.eq_false_iff]
    intro hd
    unfold directB at hd
    split at hd
    · cases hd
    · rename_i o ho
      obtain ⟨e, he, hb⟩ := Array.any_eq_true'.1 hd
      simp only [Bool.and_eq_true, beq_iff_eq] at hb
      have := hj o ho e he hb.2
      rw [hb.1, hi] at this
      cases this
  unfold behindB
  rw [hd, Bool.false_or]
  have key : ∀ (l acc : List Nat), (∀ j ∈ acc, ¬ ∀ o, ops[j]? = some o → ∀ e ∈ o.after, Region.binds md e = true → listed.getD e.on false = true) →
      ∀ j ∈ l.foldl (behindS md ops i) acc, ¬ ∀ o, ops[j]? = some o → ∀ e ∈ o.after, Region.binds md e = true → listed.getD e.on false = true := by
    intro l
    induction l with
    | nil => intro acc ha; exact ha
    | cons k l ih =>
      intro acc ha
      refine ih _ ?_
      unfold behindS
      split
      · exact ha
      · rename_i o ho
        split
        · rename_i hb
          intro j hj
          rcases List.mem_cons.1 hj with rfl | hj
          · intro hall
            obtain ⟨e, he, hb⟩ := Array.any_eq_true'.1 hb
            simp only [Bool.and_eq_true, Bool.or_eq_true, beq_iff_eq, List.contains_iff_mem] at hb
            have hl := hall o ho e he hb.1
            rcases hb.2 with hb | hb
            · rw [hb, hi] at hl; cases hl
            · exact ha _ hb (h _ hl)
          · exact ha j hj
        · exact ha
  rw [Bool.eq_false_iff]
  intro hc
  rw [List.contains_iff_mem] at hc
  exact key _ [] (by simp) j hc hj

theorem ready_not {i : Nat} {listed : Array Bool} (hi : i ∈ Region.ready md ops listed) : listed.getD i false = false := by
  have h0 := (mem_ready.1 hi).1
  rcases Nat.lt_or_ge i listed.size with h' | h'
  · simp [h'] at h0 ⊢; exact h0
  · simp [Array.getElem?_eq_none h']

theorem eager_spec {listed : Array Bool} {i : Nat} (h : eager md ops rs listed i = true) : ∃ r, rs[i]? = some r ∧ kindR r.op ≤ 1 ∧
    ∀ j q, rs[j]? = some q → j ≠ i → listed.getD j true = false → behindB md ops i j = false → apartR r q = true ∧ (kindR r.op = 0 ∨ kindR q.op ≠ 3) := by
  unfold eager at h
  split at h
  · cases h
  · rename_i r hr
    simp only [Bool.and_eq_true, decide_eq_true_eq] at h
    refine ⟨r, hr, h.1, fun j q hq hj hl hb => ?_⟩
    have := List.all_eq_true.1 (by have := h.2; unfold eagerL at this; exact this) j (List.mem_range.2 (List.getElem?_eq_some_iff.1 hq).1)
    unfold behindB at hb
    rw [Bool.or_eq_false_iff] at hb
    simp only [hq, hb.1, hb.2, hl, Bool.or_eq_true, beq_iff_eq, hj, false_or, Bool.false_eq_true, Bool.and_eq_true, or_false, bne_iff_ne, ne_eq] at this
    exact this

theorem apartR_spec {x y : ROp} (h : apartR x y = true) : (∀ d, x.dst = some d → d ∉ looksR y) ∧ (∀ d, x.dst = some d → y.dst ≠ some d) ∧ (∀ d, y.dst = some d → d ∉ looksR x) := by
  refine ⟨fun d hd => ?_, fun d hd => ?_, fun d hd => ?_⟩ <;> simp [apartR, hd] at h
  · exact h.1.1
  · exact h.1.2
  · exact h.2

theorem get_put_not {env : Env} {d : Option Nat} {v : V} {t : Nat} (h : ∀ x, d = some x → x ≠ t) : (env.put d v).get t = env.get t := by
  cases d with
  | none => rfl
  | some d => exact Env.get_put_other _ _ (Ne.symm (h d rfl))

theorem put_put {env : Env} {x y : Option Nat} (u v : V) (h : ∀ d, x = some d → y ≠ some d) (k : Nat) : ((env.put x u).put y v).get k = ((env.put y v).put x u).get k := by
  by_cases hx : x = some k
  · have hy : ∀ d, y = some d → d ≠ k := fun d hd e => h k hx (by rw [hd, e])
    rw [get_put_not (d := y) (fun d hd => hy d hd)]
    subst hx
    rw [Env.get_put_same, Env.get_put_same]
  · have hx' : ∀ d, x = some d → d ≠ k := fun d hd e => hx (by rw [hd, e])
    rw [get_put_not (env := env.put y v) (d := x) hx']
    by_cases hy : y = some k
    · subst hy; rw [Env.get_put_same, Env.get_put_same]
    · have hy' : ∀ d, y = some d → d ≠ k := fun d hd e => hy (by rw [hd, e])
      rw [get_put_not (d := y) hy', get_put_not (d := x) hx', get_put_not (d := y) hy']

/-- Another operation first, the reading one behind it. -/
theorem runG_swap {r q : ROp} {u : V} {env : Env} {h : Heap} {K' : Env → Heap → Prop} (hap : apartR r q = true) (hkr : kindR r.op ≤ 1) (hk : kindR r.op = 0 ∨ kindR q.op ≠ 3)
    (hK : ∀ e e' h, (∀ k, e.get k = e'.get k) → K' e h → K' e' h) (hy : YA r u env h) (hq : runG P n q K' (env.put r.dst u) h) :
    runG P n q (fun env' h' => YA r u env' h' ∧ K' (env'.put r.dst u) h') env h := by
  obtain ⟨h1, h2, h3⟩ := apartR_spec hap
  have hlq : ∀ t ∈ looksR q, (env.put r.dst u).get t = env.get t := fun t ht => get_put_not fun x hx e => h1 x hx (e ▸ ht)
  have keep : ∀ v h', (kindR q.op = 3 ∨ HLe h h') → YA r u (env.put q.dst v) h' := fun v h' hh =>
    YA_same (fun t ht => (get_put_not fun x hx e => h3 x hx (e ▸ ht)).symm) (by
      rcases hk with hk | hk
      · exact .inl hk
      · exact .inr ⟨hkr, hh.resolve_left hk⟩) hy
  unfold runG at *
  rw [guard_same hlq] at hq
  refine guardV_imp hq (fun hx => ?_) (fun hx => ⟨keep _ _ (.inr (HLe.refl _)), hK _ _ _ (put_put _ _ h2) hx⟩)
  exact runK2_congr (opnd_same hlq) (runK2_mono hx fun v h' hh hx => ⟨keep v h' hh, hK _ _ _ (put_put _ _ h2) hx⟩)

theorem SAll_first {i : Nat} {r : ROp} {u : V} (hi : rs[i]? = some r) (hk : kindR r.op ≤ 1) (hK : ∀ e e' h, (∀ k, e.get k = e'.get k) → K e h → K e' h) :
    ∀ (f : Nat) (listed : Array Bool) (env : Env) (h : Heap), DC md ops listed →
      (∀ j q, rs[j]? = some q → j ≠ i → listed.getD j true = false → behindB md ops i j = false → apartR r q = true ∧ (kindR r.op = 0 ∨ kindR q.op ≠ 3)) →
      i ∈ Region.ready md ops listed → YA r u env h → SAll md P n ops rs K f (listed.setIfInBounds i true) (env.put r.dst u) h → SAll md P n ops rs K (f + 1) listed env h := by
  intro f
  have own : ∀ {f : Nat} {listed : Array Bool} {env : Env} {h : Heap}, YA r u env h → SAll md P n ops rs K f (listed.setIfInBounds i true) (env.put r.dst u) h → runI P n rs i (SAll md P n ops rs K f (listed.setIfInBounds i true)) env h := by
    intro f listed env h hy H
    unfold runI
    rw [hi]
    exact YA_elim hy H
  induction f with
  | zero =>
    intro listed env h _ _ hr hy H
    refine ⟨fun h => (by rw [h] at hr; cases hr), fun j hj => ?_⟩
    by_cases hji : j = i
    · subst hji; exact own hy H
    · have := ready_mono hj hji
      rw [H.1] at this
      cases this
  | succ f ih =>
    intro listed env h hdc hfree hr hy H
    refine ⟨fun h => (by rw [h] at hr; cases hr), fun j hj => ?_⟩
    by_cases hji : j = i
    · subst hji; exact own hy H
    · have h1 := H.2 j (ready_mono hj hji)
      obtain ⟨hjun, oj, hoj, hall⟩ := mem_ready.1 hj
      have hfree' : ∀ k q, rs[k]? = some q → k ≠ i → (listed.setIfInBounds j true).getD k true = false → behindB md ops i k = false → apartR r q = true ∧ (kindR r.op = 0 ∨ kindR q.op ≠ 3) := fun k q hq hki hun hb => by
        refine hfree k q hq hki ?_ hb
        by_cases hjk : j = k
        · subst hjk; exact hjun
        · rw [getD_set_ne true hjk] at hun; exact hun
      have hbj : behindB md ops i j = false := behind_not hdc (ready_not hr) _ (fun o ho e he hb => by
        rw [hoj] at ho; cases ho; exact hall e he hb)
      unfold runI at h1 ⊢
      split at h1
      · rename_i hq
        rw [Array.setIfInBounds_comm _ _ (Ne.symm hji)] at h1
        exact ih _ env h (hdc.set hj) hfree' (ready_mono hr (Ne.symm hji)) hy h1
      · rename_i q hq
        have hap := hfree j q hq hji hjun hbj
        refine runG_mono (fun env' h' hh => ?_) (runG_swap hap.1 hk hap.2 (fun e e' h he => SAll_eq hK _ _ e e' h he) hy h1)
        refine ih _ env' h' (hdc.set hj) hfree' (ready_mono hr (Ne.symm hji)) hh.1 ?_
        rw [Array.setIfInBounds_comm _ _ hji]
        exact hh.2

theorem altR_sound {f : Nat → Option OT} : ∀ {l : List Nat} {t : OT} {env : Env} {h : Heap}, altR f l = some t → runT P n rs K t env h → ∀ j ∈ l, ∃ tj, f j = some tj ∧ runI P n rs j (runT P n rs K tj) env h
  | [], t, env, h, ho, hr => fun j hj => by cases hj
  | [i], t, env, h, ho, hr => fun j hj => by
    obtain ⟨ti, hti, rfl⟩ := map_some' ho
    obtain rfl : j = i := by simpa using hj
    exact ⟨ti, hti, hr⟩
  | i :: i2 :: is, t, env, h, ho, hr => fun j hj => by
    unfold altR at ho
    split at ho
    · rename_i ti r h1 h2
      cases ho
      rcases List.mem_cons.1 hj with rfl | hj
      · exact ⟨ti, h1, hr.1⟩
      · exact altR_sound h2 hr.2 j hj
    · cases ho

theorem treeR_sound (hK : ∀ e e' h, (∀ k, e.get k = e'.get k) → K e h → K e' h) : ∀ (f : Nat) (listed : Array Bool) (t : OT) (env : Env) (h : Heap), treeR md ops rs f listed = some t → DC md ops listed → runT P n rs K t env h →
    SAll md P n ops rs K f listed env h
  | 0, listed, t, env, h, ho, hdc, hr => by
    unfold treeR at ho
    split at ho
    · rename_i e; cases ho; exact ⟨e, hr⟩
    · cases ho
  | f + 1, listed, t, env, h, ho, hdc, hr => by
    unfold treeR at ho
    split at ho
    · rename_i e; cases ho; exact ⟨fun _ => hr, fun i hi => by rw [e] at hi; cases hi⟩
    · rename_i i is e
      split at ho
      · rename_i j hf
        obtain ⟨t', hl, rfl⟩ := map_some' ho
        have hmem : j ∈ Region.ready md ops listed := by rw [e]; exact List.mem_of_find?_eq_some hf
        obtain ⟨r, hri, hkr, hfree⟩ := eager_spec (List.find?_some hf)
        unfold runT runI at hr
        rw [hri] at hr
        obtain ⟨u, hy, hr⟩ := YA_intro hkr hr
        exact SAll_first hri hkr hK f listed env h hdc hfree hmem hy (treeR_sound hK f _ t' _ _ hl (hdc.set hmem) hr)
      · refine ⟨fun h0 => (by rw [h0] at e; cases e), fun j hj => ?_⟩
        have hj' := hj
        rw [e] at hj
        obtain ⟨tj, htj, hrj⟩ := altR_sound ho hr j hj
        exact runI_mono (fun env h hh => treeR_sound hK f _ tj env h htj (hdc.set hj') hh) hrj

end

/-! The same, with what is listed as the bits of a number: the kernel is quick with these. -/
section
variable {md : Region.Mode} {P : Program} {n : Nat} {ops : Array Oper} {rs : List ROp} {K : Env → Heap → Prop}
def Rl (ops : Array Oper) (listed : Array Bool) (done : Nat) : Prop := listed.size = ops.size ∧ ∀ i, listed.getD i false = done.testBit i

theorem getD_true_of {listed : Array Bool} {i : Nat} (h : i < listed.size) : listed.getD i true = listed.getD i false := by simp [h]

theorem Rl.ready {listed : Array Bool} {done : Nat} (h : Rl ops listed done) : Region.ready md ops listed = readyF md ops done := by
  unfold Region.ready readyF
  refine List.filter_congr fun i hi => ?_
  have hlt : i < listed.size := by rw [h.1]; exact List.mem_range.1 hi
  rw [getD_true_of hlt, h.2 i]
  simp only [h.2]

theorem Rl.set {listed : Array Bool} {done i : Nat} (h : Rl ops listed done) (hi : i < ops.size) : Rl ops (listed.setIfInBounds i true) (done ||| 1 <<< i) := by
  refine ⟨by simpa using h.1, fun j => ?_⟩
  have hlt : i < listed.size := by rw [h.1]; exact hi
  rw [Nat.testBit_or, ← h.2 j, Nat.one_shiftLeft, Nat.testBit_two_pow]
  by_cases hij : i = j
  · subst hij; simp [hlt]
  · rw [getD_set_ne false hij]; simp [hij]

theorem eagerF_eager {listed : Array Bool} {done i : Nat} (h : Rl ops listed done) (he : eagerF md ops rs done i = true) : eager md ops rs listed i = true := by
  unfold eagerF at he
  unfold eager
  split at he
  · cases he
  · rename_i r hr
    simp only [hr]
    simp only [Bool.and_eq_true] at he ⊢
    refine ⟨he.1, ?_⟩
    unfold eagerL
    rw [List.all_eq_true] at he ⊢
    intro j hj
    have := he.2 j hj
    simp only [Bool.or_eq_true] at this ⊢
    rcases this with (((h1 | h1) | h1) | h1) | h1
    · refine .inl (.inl (.inl (.inr ?_)))
      rw [← h.2 j] at h1
      rcases Nat.lt_or_ge j listed.size with hl | hl
      · rw [getD_true_of hl]; exact h1
      · simp [Array.getElem?_eq_none hl]
    · exact .inl (.inl (.inl (.inl h1)))
    · exact .inl (.inl (.inr h1))
    · exact .inl (.inr h1)
    · exact .inr h1

theorem ready_lt {i : Nat} {listed : Array Bool} (hi : i ∈ Region.ready md ops listed) : i < ops.size := by
  obtain ⟨_, o, ho, _⟩ := mem_ready.1 hi
  exact (Array.getElem?_eq_some_iff.1 ho).1

theorem treeF_sound (hK : ∀ e e' h, (∀ k, e.get k = e'.get k) → K e h → K e' h) : ∀ (f : Nat) (done : Nat) (listed : Array Bool) (t : OT) (env : Env) (h : Heap), treeF md ops rs f done = some t → Rl ops listed done → DC md ops listed → runT P n rs K t env h →
    SAll md P n ops rs K f listed env h
  | 0, done, listed, t, env, h, ho, hrl, hdc, hr => by
    unfold treeF at ho
    rw [← hrl.ready] at ho
    split at ho
    · rename_i e; cases ho; exact ⟨e, hr⟩
    · cases ho
  | f + 1, done, listed, t, env, h, ho, hrl, hdc, hr => by
    unfold treeF at ho
    rw [← hrl.ready] at ho
    split at ho
    · rename_i e; cases ho; exact ⟨fun _ => hr, fun i hi => by rw [e] at hi; cases hi⟩
    · rename_i i is e
      split at ho
      · rename_i j hf
        obtain ⟨t', hl, rfl⟩ := map_some' ho
        have hmem : j ∈ Region.ready md ops listed := by rw [e]; exact List.mem_of_find?_eq_some hf
        obtain ⟨r, hri, hkr, hfree⟩ := eager_spec (eagerF_eager hrl (List.find?_some hf))
        unfold runT runI at hr
        rw [hri] at hr
        obtain ⟨u, hy, hr⟩ := YA_intro hkr hr
        exact SAll_first hri hkr hK f listed env h hdc hfree hmem hy (treeF_sound hK f _ _ t' _ _ hl (hrl.set (ready_lt hmem)) (hdc.set hmem) hr)
      · refine ⟨fun h0 => (by rw [h0] at e; cases e), fun j hj => ?_⟩
        have hj' := hj
        rw [e] at hj
        obtain ⟨tj, htj, hrj⟩ := altR_sound ho hr j hj
        exact runI_mono (fun env h hh => treeF_sound hK f _ _ tj env h htj (hrl.set (ready_lt hj')) (hdc.set hj') hh) hrj

end
end Go.Proofs.Ytdnefcjbcieecaa
