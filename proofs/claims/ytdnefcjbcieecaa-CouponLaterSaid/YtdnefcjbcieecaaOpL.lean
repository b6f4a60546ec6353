/- Loops on the symbolic run: what a state may be taken for, and what a round leaves behind is forgotten. -/
import Derived.Test.YtdnefcjbcieecaaOpV
set_option linter.unusedVariables false
set_option linter.unusedSimpArgs false
namespace Go.Proofs.Ytdnefcjbcieecaa
open Go

/-- One state may be taken for another one. -/
def StLe (n sz : Nat) (env : Env) (h : Heap) (env' : Env) (h' : Heap) : Prop :=
  ∀ M w a, Sim M h w → n ≤ h.length → RepE sz M env a → ∃ M', Post n M h w M' h' w ∧ RepE sz M' env' a
theorem StLe.refl {n sz : Nat} (env : Env) (h : Heap) : StLe n sz env h env h := fun M _ _ hs hn hE => ⟨M, .refl hs hn, hE⟩
theorem StLe.trans {n sz : Nat} {e1 e2 e3 : Env} {h1 h2 h3 : Heap} (a : StLe n sz e1 h1 e2 h2) (b : StLe n sz e2 h2 e3 h3) : StLe n sz e1 h1 e3 h3 := fun M w c hs hn hE => by
  obtain ⟨M1, p1, hE1⟩ := a M w c hs hn hE
  obtain ⟨M2, p2, hE2⟩ := b M1 w c p1.sim p1.len hE1
  exact ⟨M2, p1.trans p2, hE2⟩

theorem setMu_ne {M : Mem} {i j : Nat} {r : Ref} (h : j ≠ i) : (M.setMu i r).mu j = M.mu j := Mem.setMu_other _ _ h
theorem own_ghost {M : Mem} {k : Nat} (hk : M.mu k = some ⟨none, 0, 0⟩) {v : Value} (h : RepV M (.d .nils) v) : RepV M (.own k 0 0) v := by
  cases h with
  | d x v h => cases h; exact .own k 0 0 ⟨none, 0, 0⟩ none 0 hk (Nat.le_refl _) (Nat.le_refl _) (by decide) (fun _ => ⟨rfl, rfl⟩)
theorem Sim.reb {M : Mem} {h : Heap} {w : World} (hs : Sim M h w) {id : Nat} {cs cs' : List V} (hi : h[id]? = some (some (.box cs))) (hl : cs'.length = cs.length)
    (hv : ∀ (k : Nat) x y v, cs[k]? = some x → cs'[k]? = some y → RepV M x v → RepV M y v) : Sim M (h.set id (some (.box cs'))) w := by
  have hlt : id < h.length := (List.getElem?_eq_some_iff.1 hi).1
  have hex : ∀ (j : Nat) x, (h.set id (some (.box cs')))[j]? = some (some x) → ∃ y, h[j]? = some (some y) := fun j x hx => by
    by_cases hj : j = id
    · subst hj; exact ⟨_, hi⟩
    · rw [List.getElem?_set_ne (Ne.symm hj)] at hx; exact ⟨_, hx⟩
  have hlive : ∀ b, liveBlk M (h.set id (some (.box cs'))) b → liveBlk M h b := fun b ⟨j, blk, r, hj, hr, hb⟩ => by
    obtain ⟨y, hy⟩ := hex j _ hj
    exact ⟨j, y, r, hy, hr, hb⟩
  refine ⟨fun j blk hj => ?_, fun i j bi bj ri rj b hbi hbj hri hrj h1 h2 => ?_, fun b o v hv => ⟨(hs.ro b o v hv).1, fun hl => (hs.ro b o v hv).2 (hlive b hl)⟩, fun i hi => hs.dom i (by simpa using hi), fun b hb => ⟨(hs.df b hb).1, fun hl => (hs.df b hb).2 (hlive b hl)⟩⟩
  · by_cases hj' : j = id
    · subst hj'
      rw [List.getElem?_set_self hlt] at hj
      cases hj
      obtain ⟨r, hr, h0, b, arr, T, h1, h2, h3, h4⟩ := hs.blks j _ hi
      refine ⟨r, hr, h0, b, arr, T, h1, h2, ⟨by rw [hl]; exact h3.1, fun k y c hy hc => ?_⟩, h4⟩
      have hk : k < cs.length := by rw [← hl]; exact (List.getElem?_eq_some_iff.1 hy).1
      exact hv k cs[k] y c (by simp [hk]) hy (h3.2 k cs[k] c (by simp [hk]) hc)
    · rw [List.getElem?_set_ne (Ne.symm hj')] at hj
      exact hs.blks j blk hj
  · obtain ⟨y, hy⟩ := hex i _ hbi
    obtain ⟨z, hz⟩ := hex j _ hbj
    exact hs.inj i j y z ri rj b hy hz hri hrj h1 h2
/-- A nil slice in a cell is an own row of no elements. -/
theorem StLe.ghostBox {n sz : Nat} {env : Env} {h : Heap} {id off : Nat} {cs : List V} (e es : Nat) (hi : h[id]? = some (some (.box cs))) (hc : cs[off]? = some (.d .nils)) :
    StLe n sz env h env ((h.set id (some (.box (cs.set off (.own h.length 0 0))))) ++ [some (.row e es 0 [])]) := by
  intro M w a hs hn hE
  obtain ⟨p, hm⟩ := ghost_row (n := n) e es hs hn
  have hlt : id < h.length := (List.getElem?_eq_some_iff.1 hi).1
  have hi' : (h ++ [some (.row e es 0 [])])[id]? = some (some (.box cs)) := by rw [List.getElem?_append_left hlt]; exact hi
  have hset : ((h.set id (some (.box (cs.set off (.own h.length 0 0))))) ++ [some (.row e es 0 [])]) = (h ++ [some (Blk.row e es 0 [])]).set id (some (.box (cs.set off (.own h.length 0 0)))) := by
    rw [List.set_append_left _ _ hlt]
  have hmu : (M.setMu h.length ⟨none, 0, 0⟩).mu h.length = some ⟨none, 0, 0⟩ := Mem.setMu_same _ _ _
  have hs2 := Sim.reb (M := M.setMu h.length ⟨none, 0, 0⟩) p.sim (cs' := cs.set off (.own h.length 0 0)) hi' (by simp) (fun k x y v hx hy hr => by
    by_cases hk : off = k
    · subst hk
      rw [hc] at hx; cases hx
      have : off < cs.length := (List.getElem?_eq_some_iff.1 hc).1
      rw [List.getElem?_set_self this] at hy
      cases hy
      exact own_ghost hmu hr
    · rw [List.getElem?_set_ne hk, hx] at hy
      cases hy; exact hr)
  rw [hset]
  have hlive : ∀ b, liveBlk (M.setMu h.length ⟨none, 0, 0⟩) ((h ++ [some (Blk.row e es 0 [])]).set id (some (.box (cs.set off (.own h.length 0 0))))) b → liveBlk (M.setMu h.length ⟨none, 0, 0⟩) (h ++ [some (.row e es 0 [])]) b := fun b ⟨j, blk, r, hj, hr, hb⟩ => by
    by_cases hj' : j = id
    · subst hj'; exact ⟨j, _, r, hi', hr, hb⟩
    · rw [List.getElem?_set_ne (Ne.symm hj')] at hj; exact ⟨j, blk, r, hj, hr, hb⟩
  exact ⟨_, ⟨p.ro, p.dc, p.le, by simp; omega, hs2, p.os, p.tape, p.output, p.size, p.keep, fun b hb hl => p.live b hb (hlive b hl)⟩, hE.1, hE.2.1, fun k => hm _ _ (hE.2.2 k)⟩
def Env.sub (env : Env) (t : Nat) (v : V) : Env := env.map fun p => (p.1, if p.1 = t then v else p.2)
theorem Env.get_sub (env : Env) (t k : Nat) (v : V) : (env.sub t v).get k = env.get k ∨ (k = t ∧ (env.sub t v).get k = v) := by
  induction env with
  | nil => exact .inl rfl
  | cons p r ih =>
    obtain ⟨j, u⟩ := p
    show (if k = j then (if j = t then v else u) else (Env.sub r t v).get k) = (if k = j then u else Env.get r k) ∨ _ ∧ (if k = j then (if j = t then v else u) else (Env.sub r t v).get k) = v
    by_cases hk : k = j
    · rw [if_pos hk, if_pos hk]
      by_cases hj : j = t
      · rw [if_pos hj]; exact .inr ⟨hk.trans hj, rfl⟩
      · rw [if_neg hj]; exact .inl rfl
    · rw [if_neg hk, if_neg hk]; exact ih
/-- A nil slice in a register is an own row of no elements. -/
theorem StLe.ghostTmp {n sz : Nat} {env : Env} {h : Heap} {t : Nat} (e es : Nat) (hc : env.get t = .d .nils) : StLe n sz env h (env.sub t (.own h.length 0 0)) (h ++ [some (.row e es 0 [])]) := by
  intro M w a hs hn hE
  obtain ⟨p, hm⟩ := ghost_row (n := n) e es hs hn
  refine ⟨_, p, hE.1, hE.2.1, fun k => ?_⟩
  rcases env.get_sub t k (.own h.length 0 0) with h1 | ⟨rfl, h1⟩
  · rw [h1]; exact hm _ _ (hE.2.2 k)
  · rw [h1]
    have := hm _ _ (hE.2.2 k)
    rw [hc] at this
    exact own_ghost (Mem.setMu_same _ _ _) this

section
variable {P : Program} {G : Cfg} {n : Nat} {Q : CExit → Env → Heap → Prop}
theorem QQ.mono_n {n' : Nat} {sz : Nat} {M : Mem} {h : Heap} {w : World} (hn : n ≤ n') {e : Exit} {a : Act} {w' : World} (hq : QQ n' sz M h w Q e a w') : QQ n sz M h w Q e a w' := by
  obtain ⟨M', env', h', p, hE, hk⟩ := hq
  exact ⟨M', env', h', p.mono hn, hE, hk⟩
theorem LoopP.state {c : CCode} {env env' : Env} {h h' : Heap} (hs : StLe n G.sz env h env' h') (hl : LoopP P G n c Q env' h') : LoopP P G n c Q env h := by
  intro g hg ro M w a hro hm hsim hn hE
  obtain ⟨M1, p1, hE1⟩ := hs M w a hsim hn hE
  refine wpIn_mono (hl g hg ro M1 w a hro (p1.cc hm) p1.sim p1.len hE1) fun e a' w' hq => ?_
  obtain ⟨M2, env2, h2, p2, hE2, hk⟩ := hq
  exact ⟨M2, env2, h2, p1.trans p2, hE2, hk⟩

/-- A LOOP: an invariant with a measure; what a round has allocated is forgotten at its end. -/
theorem loop_cut {c : CCode} (I : Nat → Env → Heap → Prop) {m0 : Nat} {env : Env} {h : Heap} (h0 : I m0 env h)
    (hstep : ∀ m env1 h1, I m env1 h1 → wpc P G h.length c (fun e env' h' => match e with
      | .normal => ∃ m', m' < m ∧ env'.all (fun p => bel2 h.length p.2) = true ∧ (h'.take h.length).all (blkBel h.length) = true ∧ I m' env' (h'.take h.length)
      | .exit id => Q (.exit id) env' h'
      | .ret => Q .ret env' h') env1 h1) : LoopP P G n c Q env h := by
  intro g hg ro M w a hro hm hs hn hE
  intro b k cs hro' hb hroom
  have main : ∀ m, ∀ env1 h1 M1 w1 a1, I m env1 h1 → Post h.length M h w M1 h1 w1 → RepE G.sz M1 env1 a1 →
      ∃ e a' w', QQ n G.sz M h w Q e a' w' ∧ ArrivesIn (Machine.fenced P (fw ro)) P (lone (b.atR a1 (.code g :: .inLoop g :: k)) cs w1) b k cs e a' w' := by
    intro m
    induction m using Nat.strongRecOn with
    | _ m ih =>
      intro env1 h1 M1 w1 a1 hI hp hE1
      obtain ⟨e, a2, w2, hq, harr⟩ := wpc_sound g c _ env1 h1 hg (hstep m env1 h1 hI) ro M1 w1 a1 hro (hp.cc hm) hp.sim hp.len hE1 b (.inLoop g :: k) cs hro' hb hroom
      obtain ⟨M2, env2, h2, hp2, hE2, hK⟩ := hq
      cases e with
      | normal =>
        obtain ⟨m', hlt, hb1, hb2, hI'⟩ := hK
        have hp3 := (hp.trans hp2).cut hs hb2
        have hE3 : RepE G.sz (M2.cut h.length) env2 a2 := ⟨hE2.1, hE2.2.1, fun k => (hE2.2.2 k).bel2 (env_bel hb1 k)⟩
        obtain ⟨e3, a3, w3, hq3, harr3⟩ := ih m' hlt env2 _ _ w2 a2 hI' hp3 hE3
        exact ⟨e3, a3, w3, hq3, .of_steps (StepsIn.trans harr (.one (fenced_calm hb hroom rfl) stepR_inLoop)) harr3⟩
      | exit id => exact ⟨_, a2, w2, ⟨M2, env2, h2, (hp.trans hp2).mono hn, hE2, hK⟩, .pass (x := .inLoop g) rfl (fun _ _ => .inl (by simp)) harr⟩
      | ret => exact ⟨_, a2, w2, ⟨M2, env2, h2, (hp.trans hp2).mono hn, hE2, hK⟩, .pass (x := .inLoop g) rfl (fun _ _ => .inl (by simp)) harr⟩
      | goto l => exact hK.elim
      | panic c => exact hK.elim
      | outgrown => exact hK.elim
  obtain ⟨e, a', w', hq, harr⟩ := main m0 env h M w a h0 (.refl hs (Nat.le_refl _)) hE
  exact ⟨e, a', w', hq, .of_steps (.one (fenced_calm hb hroom rfl) stepR_loop) harr⟩

/-- A counting loop by its body's tree. -/
theorem lp_count {X : Sx} (hX : SpOk P X.sp) {c : CCode} {s : List Fr} {env : Env} {h : Heap} (N : Nat) (A : Nat → Prop) (E : Nat → Env) (H : Nat → Heap) (he : env = E 0) (hh : h = H 0) (hA : A 0)
    (hb : ∀ k, k ≤ N → (H k).length = h.length ∧ (E k).all (fun p => bel2 h.length p.2) = true ∧ (H k).all (blkBel h.length) = true)
    (hstep : ∀ k, k ≤ N → A k → ∀ Q', (∀ J, k < N → A (k + 1) → Q' .normal (E (k + 1)) (H (k + 1) ++ J)) → (∀ id env' h', retS P G n (.exit id) s Q env' h' → Q' (.exit id) env' h') → (∀ env' h', retS P G n .ret s Q env' h' → Q' .ret env' h') →
      holds P G h.length Q' (fun _ _ => True) (sx X c [] leafK (E k) [] (H k))) : lpS P G n c s Q env h := by
  refine loop_cut (I := fun m env h => ∃ k, k ≤ N ∧ m = N - k ∧ A k ∧ env = E k ∧ h = H k) (m0 := N) ⟨0, Nat.zero_le _, rfl, hA, he, hh⟩ ?_
  rintro m env1 h1 ⟨k, hk, rfl, hAk, rfl, rfl⟩
  refine sx_sound hX c [] leafK (E k) [] (H k) leafK_ok (.nil _) (hstep k hk hAk _ (fun J hlt hA1 => ?_) (fun id env' h' hr => hr) (fun env' h' hr => hr))
  obtain ⟨b1, b2, b3⟩ := hb (k + 1) hlt
  have hj : (H (k + 1) ++ J).take h.length = H (k + 1) := by rw [← b1, List.take_left]
  exact ⟨N - (k + 1), by omega, b2, by rw [hj]; exact b3, k + 1, hlt, rfl, hA1, rfl, hj⟩

/-- A loop by its body's tree, over states of any kind. -/
theorem lp_state {S : Type} {X : Sx} (hX : SpOk P X.sp) {c : CCode} {s : List Fr} {env : Env} {h : Heap} (μ : S → Nat) (A : S → Prop) (E : S → Env) (H : S → Heap) (s0 : S) (he : env = E s0) (hh : h = H s0) (hA : A s0)
    (hb : ∀ k, A k → (H k).length = h.length ∧ (E k).all (fun p => bel2 h.length p.2) = true ∧ (H k).all (blkBel h.length) = true)
    (hstep : ∀ k, A k → ∀ Q', (∀ k' J, A k' → μ k' < μ k → Q' .normal (E k') (H k' ++ J)) → (∀ id env' h', retS P G n (.exit id) s Q env' h' → Q' (.exit id) env' h') → (∀ env' h', retS P G n .ret s Q env' h' → Q' .ret env' h') →
      holds P G h.length Q' (fun _ _ => True) (sx X c [] leafK (E k) [] (H k))) : lpS P G n c s Q env h := by
  refine loop_cut (I := fun m env h => ∃ k, m = μ k ∧ A k ∧ env = E k ∧ h = H k) (m0 := μ s0) ⟨s0, rfl, hA, he, hh⟩ ?_
  rintro m env1 h1 ⟨k, rfl, hAk, rfl, rfl⟩
  refine sx_sound hX c [] leafK (E k) [] (H k) leafK_ok (.nil _) (hstep k hAk _ (fun k' J hA1 hlt => ?_) (fun id env' h' hr => hr) (fun env' h' hr => hr))
  obtain ⟨b1, b2, b3⟩ := hb k' hA1
  have hj : (H k' ++ J).take h.length = H k' := by rw [← b1, List.take_left]
  exact ⟨μ k', hlt, b2, by rw [hj]; exact b3, k', rfl, hA1, rfl, hj⟩

/-! Loops of functions that give back plain values. -/
noncomputable def bodyK (cr : List CRes) : CT := fun e env _ h => match e with
  | .ret => resT (fun _ => 0) env h cr fun vs => .done (oneT vs) []
  | e => .leaf e env h
noncomputable def bodyF (m : Nat) (cr : List CRes) : CT := fun e env _ h => match e with
  | .ret => resT (fun _ => 0) env h cr fun vs => .done (finX m (oneT vs) h).1 []
  | e => .leaf e env h
theorem stkQ_ret (s : List Fr) (env : Env) (h : Heap) : stkQ P G n s Q .ret env h = Q .ret env h := by
  induction s with
  | nil => rfl
  | cons f s ih => cases f <;> exact ih
theorem bodyK_ok {cr : List CRes} {R : V → Prop} {Q' : CExit → Env → Heap → Prop} (hr : ∀ env h, resV env h cr (fun vs => R (oneV vs)) → Q' .ret env h) : ContOk P G n Q' (fun v _ => R v) [] (bodyK cr) := by
  intro e env tg h ht hh
  cases e with
  | exit i => exact hh
  | normal => exact hh
  | ret => exact hr _ _ (resT_sound (fun _ => rfl) cr (fun vs hv => by rw [← oneT_eq]; exact hv) hh)
theorem bodyF_ok {m : Nat} {cr : List CRes} {R : V → Prop} {Q' : CExit → Env → Heap → Prop} (hr : ∀ env h, resV env h cr (fun vs => R (finX m (oneV vs) h).1) → Q' .ret env h) : ContOk P G n Q' (fun v _ => R v) [] (bodyF m cr) := by
  intro e env tg h ht hh
  cases e with
  | exit i => exact hh
  | normal => exact hh
  | ret => exact hr _ _ (resT_sound (K := fun vs => .done (finX m (oneT vs) h).1 []) (fun _ => rfl) cr (fun vs hv => by rw [← oneT_eq]; exact hv) hh)
theorem lp_countK {X : Sx} (hX : SpOk P X.sp) {c : CCode} {s : List Fr} {env : Env} {h : Heap} {cr : List CRes} {R : V → Prop} (hQ : Q = retQ cr fun v _ => R v) (N : Nat) (A : Nat → Prop) (E : Nat → Env) (H : Nat → Heap) (he : env = E 0) (hh : h = H 0) (hA : A 0)
    (hb : ∀ k, k ≤ N → (H k).length = h.length ∧ (E k).all (fun p => bel2 h.length p.2) = true ∧ (H k).all (blkBel h.length) = true)
    (hstep : ∀ k, k ≤ N → A k → ∀ Q', (∀ J, k < N → A (k + 1) → Q' .normal (E (k + 1)) (H (k + 1) ++ J)) → (∀ id env' h', retS P G n (.exit id) s Q env' h' → Q' (.exit id) env' h') →
      holds P G h.length Q' (fun v _ => R v) (sx X c [] (bodyK cr) (E k) [] (H k))) : lpS P G n c s Q env h := by
  refine loop_cut (I := fun m env h => ∃ k, k ≤ N ∧ m = N - k ∧ A k ∧ env = E k ∧ h = H k) (m0 := N) ⟨0, Nat.zero_le _, rfl, hA, he, hh⟩ ?_
  rintro m env1 h1 ⟨k, hk, rfl, hAk, rfl, rfl⟩
  refine sx_sound hX c [] (bodyK cr) (E k) [] (H k) (bodyK_ok (R := R) fun env h hres => ?_) (.nil _) (hstep k hk hAk _ (fun J hlt hA1 => ?_) (fun id env' h' hr => hr))
  · show stkQ P G n s Q .ret env h
    rw [stkQ_ret, hQ]
    exact hres
  · obtain ⟨b1, b2, b3⟩ := hb (k + 1) hlt
    have hj : (H (k + 1) ++ J).take h.length = H (k + 1) := by rw [← b1, List.take_left]
    exact ⟨N - (k + 1), by omega, b2, by rw [hj]; exact b3, k + 1, hlt, rfl, hA1, rfl, hj⟩
theorem lp_countF {X : Sx} (hX : SpOk P X.sp) {c : CCode} {s : List Fr} {env : Env} {h : Heap} {cr : List CRes} {R : V → Prop} {m : Nat} (hQ : Q = retQ cr fun v h => R (finX m v h).1) (N : Nat) (A : Nat → Prop) (E : Nat → Env) (H : Nat → Heap) (he : env = E 0) (hh : h = H 0) (hA : A 0)
    (hb : ∀ k, k ≤ N → (H k).length = h.length ∧ (E k).all (fun p => bel2 h.length p.2) = true ∧ (H k).all (blkBel h.length) = true)
    (hstep : ∀ k, k ≤ N → A k → ∀ Q', (∀ J, k < N → A (k + 1) → Q' .normal (E (k + 1)) (H (k + 1) ++ J)) → (∀ id env' h', retS P G n (.exit id) s Q env' h' → Q' (.exit id) env' h') →
      holds P G h.length Q' (fun v _ => R v) (sx X c [] (bodyF m cr) (E k) [] (H k))) : lpS P G n c s Q env h := by
  refine loop_cut (I := fun m env h => ∃ k, k ≤ N ∧ m = N - k ∧ A k ∧ env = E k ∧ h = H k) (m0 := N) ⟨0, Nat.zero_le _, rfl, hA, he, hh⟩ ?_
  rintro m env1 h1 ⟨k, hk, rfl, hAk, rfl, rfl⟩
  refine sx_sound hX c [] (bodyF _ cr) (E k) [] (H k) (bodyF_ok (R := R) fun env h hres => ?_) (.nil _) (hstep k hk hAk _ (fun J hlt hA1 => ?_) (fun id env' h' hr => hr))
  · show stkQ P G n s Q .ret env h
    rw [stkQ_ret, hQ]
    exact hres
  · obtain ⟨b1, b2, b3⟩ := hb (k + 1) hlt
    have hj : (H (k + 1) ++ J).take h.length = H (k + 1) := by rw [← b1, List.take_left]
    exact ⟨N - (k + 1), by omega, b2, by rw [hj]; exact b3, k + 1, hlt, rfl, hA1, rfl, hj⟩
end
end Go.Proofs.Ytdnefcjbcieecaa
