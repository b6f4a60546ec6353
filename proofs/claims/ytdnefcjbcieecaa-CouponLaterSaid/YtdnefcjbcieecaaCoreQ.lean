/- Draw regions: all schedules of the abstract operations. -/
import Derived.Test.YtdnefcjbcieecaaCoreP
set_option linter.unusedVariables false
set_option linter.unusedSimpArgs false
namespace Go.Proofs.Ytdnefcjbcieecaa
open Go

def runK2 (P : Program) (n : Nat) (op : RKind) (ρ : Operand → V) (h : Heap) (K : V → Heap → Prop) : Prop :=
  match op with
  | .simple (.pick c a b) => brV (ρ c) (K (ρ a) h) (K (ρ b) h)
  | .simple c => match evOp c ρ h with
    | some (p, v, h') => p.P ∧ K v h'
    | none => False
  | .call f args => callV P (ρ f) (args.map ρ) h K
  | .callx f args => callV P (ρ f) (args.map ρ) h fun v h' => HLe h h' ∧ K v h'
  | .app e sz bytes x y => match ρ x with
    | .own id g len => match rowOf h id g, conts h (ρ y) with
      | some q, some p => (q.1 = e ∧ q.2.1 = sz ∧ q.2.2.length = len * sz ∧ p.2.length = p.1 * sz ∧ len + p.1 ≤ 140737488355328 ∧ (len + p.1) * bytes ≤ 140737488355328) ∧
          K (.own id (g + 1) (len + p.1)) (h.set id (some (.row e sz (g + 1) (q.2.2 ++ p.2))))
      | _, _ => False
    | .d x => match evApp true e sz bytes (.d x) (ρ y) h with
      | some (p, v, h') => p.P ∧ K v h'
      | none => False
    | _ => False
def runG (P : Program) (n : Nat) (r : ROp) (K : Env → Heap → Prop) (env : Env) (h : Heap) : Prop :=
  guardV env r.guard (runK2 P n r.op (opnd env) h fun v h' => K (env.put r.dst v) h') (K (env.put r.dst (.tup [])) h)

section
variable {P : Program} {n : Nat}

theorem runK2_simple {c : COp} {ρ : Operand → V} {h : Heap} {K : V → Heap → Prop} (hc : ∀ x y z, c ≠ .pick x y z) :
    runK2 P n (.simple c) ρ h K = match evOp c ρ h with
      | some (p, v, h') => p.P ∧ K v h'
      | none => False := by
  unfold runK2
  cases c <;> first | rfl | exact absurd rfl (hc _ _ _)

theorem runOps2_cons (r : ROp) (rs : List ROp) (env : Env) (h : Heap) (K : Env → Heap → Prop) :
    runOps2 P n (r :: rs) env h K = runG P n r (fun env h => runOps2 P n rs env h K) env h := by
  rw [runOps2]
  unfold runG
  congr 1

theorem runK2_mono {op : RKind} {ρ : Operand → V} {h : Heap} {K K' : V → Heap → Prop} (hy : runK2 P n op ρ h K) (hk : ∀ v h', (kindR op = 3 ∨ HLe h h') → K v h' → K' v h') :
    runK2 P n op ρ h K' := by
  cases op with
  | simple c =>
    by_cases hc : ∃ x y z, c = .pick x y z
    · obtain ⟨x, y, z, rfl⟩ := hc
      exact brV_imp hy (hk _ _ (.inr (HLe.refl h))) (hk _ _ (.inr (HLe.refl h)))
    · have hc' : ∀ x y z, c ≠ .pick x y z := fun x y z e => hc ⟨x, y, z, e⟩
      rw [runK2_simple hc'] at hy ⊢
      split at hy
      · rename_i p v h' e
        refine ⟨hy.1, hk _ _ ?_ hy.2⟩
        rcases Nat.lt_or_ge 2 (kindC c) with hl | hl
        · refine .inl ?_
          show kindC c = 3
          have : kindC c ≤ 3 := by
            unfold kindC
            split <;> decide
          omega
        · exact .inr ((evOp_kind e).2 hl)
      · exact hy
  | call f args => exact callV_mono hy (fun v h' hK => hk _ _ (.inl rfl) hK)
  | callx f args => exact callV_mono hy (fun v h' hK => ⟨hK.1, hk _ _ (.inr hK.1) hK.2⟩)
  | app e sz bytes x y =>
    unfold runK2 at *
    simp only at hy ⊢
    split at hy
    · split at hy
      · exact ⟨hy.1, hk _ _ (.inl rfl) hy.2⟩
      · exact hy
    · split at hy
      · exact ⟨hy.1, hk _ _ (.inl rfl) hy.2⟩
      · exact hy
    · exact hy

theorem runK2_congr {op : RKind} {ρ ρ' : Operand → V} {h : Heap} {K : V → Heap → Prop} (hx : ∀ x ∈ opsK op, ρ x = ρ' x) (hy : runK2 P n op ρ h K) : runK2 P n op ρ' h K := by
  cases op with
  | simple c =>
    by_cases hc : ∃ x y z, c = .pick x y z
    · obtain ⟨x, y, z, rfl⟩ := hc
      unfold runK2 at *
      simp only at hy ⊢
      rw [← hx x (by simp [opsK, opsC]), ← hx y (by simp [opsK, opsC]), ← hx z (by simp [opsK, opsC])]
      exact hy
    · have hc' : ∀ x y z, c ≠ .pick x y z := fun x y z e => hc ⟨x, y, z, e⟩
      rw [runK2_simple hc'] at hy ⊢
      rw [← evOp_congr h hx]
      exact hy
  | call f args =>
    have h1 : args.map ρ = args.map ρ' := List.map_congr_left fun x hm => hx x (by simp [opsK, hm])
    unfold runK2 at *
    simp only [← h1, ← hx f (by simp [opsK])]
    exact hy
  | callx f args =>
    have h1 : args.map ρ = args.map ρ' := List.map_congr_left fun x hm => hx x (by simp [opsK, hm])
    unfold runK2 at *
    simp only [← h1, ← hx f (by simp [opsK])]
    exact hy
  | app e sz bytes x y =>
    unfold runK2 at *
    simp only [← hx x (by simp [opsK]), ← hx y (by simp [opsK])]
    exact hy

theorem runG_mono {r : ROp} {env : Env} {h : Heap} {K K' : Env → Heap → Prop} (hk : ∀ env h, K env h → K' env h) (hy : runG P n r K env h) : runG P n r K' env h :=
  guardV_imp hy (fun hx => runK2_mono hx fun _ _ _ => hk _ _) (hk _ _)

/-! What a reading operation yields. -/
def RD (op : RKind) (ρ : Operand → V) (h : Heap) (u : V) : Prop :=
  match op with
  | .simple (.pick c a b) => (ρ c = .d (.bool true) ∧ u = ρ a) ∨ (ρ c = .d (.bool false) ∧ u = ρ b)
  | .simple c => ∃ p, evOp c ρ h = some (p, u, h) ∧ p.P
  | _ => False
theorem RD_simple {c : COp} {ρ : Operand → V} {h : Heap} {u : V} (hc : ∀ x y z, c ≠ .pick x y z) : RD (.simple c) ρ h u = ∃ p, evOp c ρ h = some (p, u, h) ∧ p.P := by
  unfold RD
  cases c <;> first | rfl | exact absurd rfl (hc _ _ _)

theorem RD_intro {op : RKind} {ρ : Operand → V} {h : Heap} {K : V → Heap → Prop} (hk : kindR op ≤ 1) (hy : runK2 P n op ρ h K) : ∃ u, RD op ρ h u ∧ K u h := by
  cases op with
  | simple c =>
    by_cases hc : ∃ x y z, c = .pick x y z
    · obtain ⟨x, y, z, rfl⟩ := hc
      unfold runK2 brV at hy
      simp only at hy
      split at hy
      · rename_i b e
        cases b with
        | true => exact ⟨ρ y, .inl ⟨e, rfl⟩, hy.1 rfl⟩
        | false => exact ⟨ρ z, .inr ⟨e, rfl⟩, hy.2 rfl⟩
      · exact hy.elim
    · have hc' : ∀ x y z, c ≠ .pick x y z := fun x y z e => hc ⟨x, y, z, e⟩
      rw [runK2_simple hc'] at hy
      split at hy
      · rename_i p v h' e
        obtain rfl := (evOp_kind e).1 hk
        exact ⟨v, by rw [RD_simple hc']; exact ⟨p, e, hy.1⟩, hy.2⟩
      · exact hy.elim
  | call f args => simp [kindR] at hk
  | callx f args => simp [kindR] at hk
  | app e sz bytes x y => simp [kindR] at hk

theorem RD_elim {op : RKind} {ρ : Operand → V} {h : Heap} {u : V} {K : V → Heap → Prop} (hr : RD op ρ h u) (hk : K u h) : runK2 P n op ρ h K := by
  cases op with
  | simple c =>
    by_cases hc : ∃ x y z, c = .pick x y z
    · obtain ⟨x, y, z, rfl⟩ := hc
      unfold runK2 brV
      rcases hr with ⟨e, rfl⟩ | ⟨e, rfl⟩
      · simp only [e]; exact ⟨fun _ => hk, fun e => by cases e⟩
      · simp only [e]; exact ⟨fun e => by simp at e, fun _ => hk⟩
    · have hc' : ∀ x y z, c ≠ .pick x y z := fun x y z e => hc ⟨x, y, z, e⟩
      rw [RD_simple hc'] at hr
      obtain ⟨p, e, hp⟩ := hr
      rw [runK2_simple hc', e]
      exact ⟨hp, hk⟩
  | call f args => exact hr.elim
  | callx f args => exact hr.elim
  | app e sz bytes x y => exact hr.elim

theorem RD_congr {op : RKind} {ρ ρ' : Operand → V} {h : Heap} {u : V} (hx : ∀ x ∈ opsK op, ρ x = ρ' x) (hr : RD op ρ h u) : RD op ρ' h u := by
  cases op with
  | simple c =>
    by_cases hc : ∃ x y z, c = .pick x y z
    · obtain ⟨x, y, z, rfl⟩ := hc
      unfold RD at *
      simp only at hr ⊢
      rw [← hx x (by simp [opsK, opsC]), ← hx y (by simp [opsK, opsC]), ← hx z (by simp [opsK, opsC])]
      exact hr
    · have hc' : ∀ x y z, c ≠ .pick x y z := fun x y z e => hc ⟨x, y, z, e⟩
      rw [RD_simple hc'] at hr ⊢
      rw [← evOp_congr h hx]
      exact hr
  | _ => exact hr.elim

theorem RD_heap {op : RKind} {ρ : Operand → V} {h h' : Heap} {u : V} (hk : kindR op = 0 ∨ (kindR op ≤ 1 ∧ HLe h h')) (hr : RD op ρ h u) : RD op ρ h' u := by
  cases op with
  | simple c =>
    by_cases hc : ∃ x y z, c = .pick x y z
    · obtain ⟨x, y, z, rfl⟩ := hc
      exact hr
    · have hc' : ∀ x y z, c ≠ .pick x y z := fun x y z e => hc ⟨x, y, z, e⟩
      rw [RD_simple hc'] at hr ⊢
      obtain ⟨p, e, hp⟩ := hr
      exact evOp_heap e hp hk
  | _ => exact hr.elim

/-! Guards. -/
theorem guardV_cases {env : Env} {g : Option (Nat × Bool)} {a b : Prop} (h : guardV env g a b) : (guardV env g True False ∧ a) ∨ (guardV env g False True ∧ b) := by
  unfold guardV at *
  cases g with
  | none => exact .inl ⟨trivial, h⟩
  | some p =>
    obtain ⟨t, w⟩ := p
    simp only [guardB] at *
    split at h
    · rename_i e; exact .inr ⟨trivial, h⟩
    · rename_i v hne
      have fin : ∀ {x y : Prop}, brV (env.get t) x y → (brV (env.get t) True False ∧ x) ∨ (brV (env.get t) False True ∧ y) := by
        intro x y hh
        unfold brV at *
        split at hh
        · rename_i b e
          cases b with
          | true => exact .inl ⟨⟨fun _ => trivial, fun e => by cases e⟩, hh.1 rfl⟩
          | false => exact .inr ⟨⟨fun e => (by cases e), fun _ => trivial⟩, hh.2 rfl⟩
        · exact hh.elim
      cases w with
      | true => exact fin h
      | false => exact (fin h).symm
theorem guardV_yes {env : Env} {g : Option (Nat × Bool)} {a b : Prop} (h : guardV env g True False) (ha : a) : guardV env g a b := guardV_imp h (fun _ => ha) (fun h => h.elim)
theorem guardV_no {env : Env} {g : Option (Nat × Bool)} {a b : Prop} (h : guardV env g False True) (hb : b) : guardV env g a b := guardV_imp h (fun h => h.elim) (fun _ => hb)

/-- What a reading operation, with its guard, yields. -/
def YA (r : ROp) (u : V) (env : Env) (h : Heap) : Prop := (guardV env r.guard True False ∧ RD r.op (opnd env) h u) ∨ (guardV env r.guard False True ∧ u = .tup [])

theorem YA_intro {r : ROp} {env : Env} {h : Heap} {K : Env → Heap → Prop} (hk : kindR r.op ≤ 1) (hy : runG P n r K env h) : ∃ u, YA r u env h ∧ K (env.put r.dst u) h := by
  rcases guardV_cases hy with ⟨hg, hy⟩ | ⟨hg, hy⟩
  · obtain ⟨u, hu, hK⟩ := RD_intro hk hy
    exact ⟨u, .inl ⟨hg, hu⟩, hK⟩
  · exact ⟨_, .inr ⟨hg, rfl⟩, hy⟩
theorem YA_elim {r : ROp} {u : V} {env : Env} {h : Heap} {K : Env → Heap → Prop} (hy : YA r u env h) (hk : K (env.put r.dst u) h) : runG P n r K env h := by
  rcases hy with ⟨hg, hy⟩ | ⟨hg, rfl⟩
  · exact guardV_yes hg (RD_elim hy hk)
  · exact guardV_no hg hk

theorem opnd_same {r : ROp} {env env' : Env} (h : ∀ t ∈ looksR r, env.get t = env'.get t) : ∀ x ∈ opsK r.op, opnd env x = opnd env' x := by
  intro x hx
  cases x with
  | tmp t => exact h t (by unfold looksR; exact List.mem_append_left _ (List.mem_filterMap.2 ⟨.tmp t, hx, rfl⟩))
  | _ => rfl
theorem guard_same {r : ROp} {env env' : Env} (h : ∀ t ∈ looksR r, env.get t = env'.get t) {a b : Prop} : guardV env r.guard a b = guardV env' r.guard a b := by
  unfold guardV
  cases hg : r.guard with
  | none => rfl
  | some p =>
    obtain ⟨t, w⟩ := p
    simp only
    rw [h t (by unfold looksR; rw [hg]; exact List.mem_append_right _ (by simp))]
theorem YA_same {r : ROp} {u : V} {env env' : Env} {h h' : Heap} (hl : ∀ t ∈ looksR r, env.get t = env'.get t) (hk : kindR r.op = 0 ∨ (kindR r.op ≤ 1 ∧ HLe h h')) (hy : YA r u env h) : YA r u env' h' := by
  unfold YA at *
  rw [guard_same hl, guard_same hl] at hy
  exact hy.imp (fun h => ⟨h.1, RD_congr (opnd_same hl) (RD_heap hk h.2)⟩) id

end
end Go.Proofs.Ytdnefcjbcieecaa
