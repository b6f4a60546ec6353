/- A part of the proof. -/
import Derived.Test.YtdnefcjbcieecaaPart6
import Derived.Test.YtdnefcjbcieecaaProg
import Derived.KernelRfl
set_option linter.unusedVariables false
set_option linter.unusedSimpArgs false
namespace Go.Proofs.Ytdnefcjbcieecaa
open Go
def StLe (n sz : Nat) (env : Env) (h : Heap) (env' : Env) (h' : Heap) : Prop :=
  ∀ M w a, Sim M h w → n ≤ h.length → RepE sz M env a → ∃ M', Post n M h w M' h' w ∧ RepE sz M' env' a
theorem StLe.refl {n sz : Nat} (env : Env) (h : Heap) : StLe n sz env h env h := fun M _ _ hs hn hE => ⟨M, .refl hs hn, hE⟩
theorem StLe.trans {n sz : Nat} {e1 e2 e3 : Env} {h1 h2 h3 : Heap} (a : StLe n sz e1 h1 e2 h2) (b : StLe n sz e2 h2 e3 h3) : StLe n sz e1 h1 e3 h3 := fun M w c hs hn hE => by
  obtain ⟨M1, p1, hE1⟩ := a M w c hs hn hE
  obtain ⟨M2, p2, hE2⟩ := b M1 w c p1.sim p1.len hE1
  exact ⟨M2, p1.trans p2, hE2⟩
theorem own_ghost {M : Mem} {k : Nat} (hk : M.mu k = some ⟨none, 0, 0⟩) {v : Value} (h : RepV M (.d .nils) v) : RepV M (.own k 0 0) v := by
  cases h with
  | d x v h => cases h; exact .own k 0 0 ⟨none, 0, 0⟩ none 0 hk (Nat.le_refl _) (Nat.le_refl _) (by decide) (fun _ => ⟨rfl, rfl⟩)
theorem Sim.reb {M : Mem} {h : Heap} {w : World} (hs : Sim M h w) {id : Nat} {cs cs' : List V} (hi : h[id]? = some (some (.box cs))) (hl : cs'.length = cs.length)
    (hv : ∀ (k : Nat) x y v, cs[k]? = some x → cs'[k]? = some y → RepV M x v → RepV M y v) : Sim M (h.set id (some (.box cs'))) w := by
  have hlt : id < h.length := (List.getElem?_eq_some_iff.1 hi).1
  have hex : ∀ (j : Nat) x, (h.set id (some (.box cs')))[j]? = some (some x) → ∃ y, h[j]? = some (some y) := fun j x hx => by
    by_cases hj : j = id
    · subst hj; exact ⟨_, hi⟩
    · rw [List.getElem?_set_ne (Ne.symm hj)] at hx; exact ⟨_, hx⟩
  have hlive : ∀ b, liveBlk M (h.set id (some (.box cs'))) b → liveBlk M h b := fun b ⟨j, blk, r, hj, hr, hb⟩ => by
    obtain ⟨y, hy⟩ := hex j _ hj
    exact ⟨j, y, r, hy, hr, hb⟩
  refine ⟨fun j blk hj => ?_, fun i j bi bj ri rj b hbi hbj hri hrj h1 h2 => ?_, fun b o v hv => ⟨(hs.ro b o v hv).1, fun hl => (hs.ro b o v hv).2 (hlive b hl)⟩, fun i hi => hs.dom i (by simpa using hi), fun b hb => ⟨(hs.df b hb).1, fun hl => (hs.df b hb).2 (hlive b hl)⟩⟩
  · by_cases hj' : j = id
    · subst hj'
      rw [List.getElem?_set_self hlt] at hj
      cases hj
      obtain ⟨r, hr, h0, b, arr, T, h1, h2, h3, h4⟩ := hs.blks j _ hi
      refine ⟨r, hr, h0, b, arr, T, h1, h2, ⟨by rw [hl]; exact h3.1, fun k y c hy hc => ?_⟩, h4⟩
      have hk : k < cs.length := by rw [← hl]; exact (List.getElem?_eq_some_iff.1 hy).1
      exact hv k cs[k] y c (by simp [hk]) hy (h3.2 k cs[k] c (by simp [hk]) hc)
    · rw [List.getElem?_set_ne (Ne.symm hj')] at hj
      exact hs.blks j blk hj
  · obtain ⟨y, hy⟩ := hex i _ hbi
    obtain ⟨z, hz⟩ := hex j _ hbj
    exact hs.inj i j y z ri rj b hy hz hri hrj h1 h2
theorem StLe.ghostBox {n sz : Nat} {env : Env} {h : Heap} {id off : Nat} {cs : List V} (e es : Nat) (hi : h[id]? = some (some (.box cs))) (hc : cs[off]? = some (.d .nils)) :
    StLe n sz env h env ((h.set id (some (.box (cs.set off (.own h.length 0 0))))) ++ [some (.row e es 0 [])]) := by
  intro M w a hs hn hE
  obtain ⟨p, hm⟩ := ghost_row (n := n) e es hs hn
  have hlt : id < h.length := (List.getElem?_eq_some_iff.1 hi).1
  have hi' : (h ++ [some (.row e es 0 [])])[id]? = some (some (.box cs)) := by rw [List.getElem?_append_left hlt]; exact hi
  have hset : ((h.set id (some (.box (cs.set off (.own h.length 0 0))))) ++ [some (.row e es 0 [])]) = (h ++ [some (Blk.row e es 0 [])]).set id (some (.box (cs.set off (.own h.length 0 0)))) := by
    rw [List.set_append_left _ _ hlt]
  have hmu : (M.setMu h.length ⟨none, 0, 0⟩).mu h.length = some ⟨none, 0, 0⟩ := Mem.setMu_same _ _ _
  have hs2 := Sim.reb (M := M.setMu h.length ⟨none, 0, 0⟩) p.sim (cs' := cs.set off (.own h.length 0 0)) hi' (by simp) (fun k x y v hx hy hr => by
    by_cases hk : off = k
    · subst hk
      rw [hc] at hx; cases hx
      have : off < cs.length := (List.getElem?_eq_some_iff.1 hc).1
      rw [List.getElem?_set_self this] at hy
      cases hy
      exact own_ghost hmu hr
    · rw [List.getElem?_set_ne hk, hx] at hy
      cases hy; exact hr)
  rw [hset]
  have hlive : ∀ b, liveBlk (M.setMu h.length ⟨none, 0, 0⟩) ((h ++ [some (Blk.row e es 0 [])]).set id (some (.box (cs.set off (.own h.length 0 0))))) b → liveBlk (M.setMu h.length ⟨none, 0, 0⟩) (h ++ [some (.row e es 0 [])]) b := fun b ⟨j, blk, r, hj, hr, hb⟩ => by
    by_cases hj' : j = id
    · subst hj'; exact ⟨j, _, r, hi', hr, hb⟩
    · rw [List.getElem?_set_ne (Ne.symm hj')] at hj; exact ⟨j, blk, r, hj, hr, hb⟩
  exact ⟨_, ⟨p.ro, p.dc, p.le, by simp; omega, hs2, p.os, p.tape, p.output, p.size, p.keep, fun b hb hl => p.live b hb (hlive b hl)⟩, hE.1, hE.2.1, fun k => hm _ _ (hE.2.2 k)⟩
def Env.sub (env : Env) (t : Nat) (v : V) : Env := env.map fun p => (p.1, if p.1 = t then v else p.2)
theorem Env.get_sub (env : Env) (t k : Nat) (v : V) : (env.sub t v).get k = env.get k ∨ (k = t ∧ (env.sub t v).get k = v) := by
  induction env with
  | nil => exact .inl rfl
  | cons p r ih =>
    obtain ⟨j, u⟩ := p
    show (if k = j then (if j = t then v else u) else (Env.sub r t v).get k) = (if k = j then u else Env.get r k) ∨ _ ∧ (if k = j then (if j = t then v else u) else (Env.sub r t v).get k) = v
    by_cases hk : k = j
    · rw [if_pos hk, if_pos hk]
      by_cases hj : j = t
      · rw [if_pos hj]; exact .inr ⟨hk.trans hj, rfl⟩
      · rw [if_neg hj]; exact .inl rfl
    · rw [if_neg hk, if_neg hk]; exact ih
theorem StLe.ghostTmp {n sz : Nat} {env : Env} {h : Heap} {t : Nat} (e es : Nat) (hc : env.get t = .d .nils) : StLe n sz env h (env.sub t (.own h.length 0 0)) (h ++ [some (.row e es 0 [])]) := by
  intro M w a hs hn hE
  obtain ⟨p, hm⟩ := ghost_row (n := n) e es hs hn
  refine ⟨_, p, hE.1, hE.2.1, fun k => ?_⟩
  rcases env.get_sub t k (.own h.length 0 0) with h1 | ⟨rfl, h1⟩
  · rw [h1]; exact hm _ _ (hE.2.2 k)
  · rw [h1]
    have := hm _ _ (hE.2.2 k)
    rw [hc] at this
    exact own_ghost (Mem.setMu_same _ _ _) this
section
variable {P : Program} {G : Cfg} {n : Nat} {Q : CExit → Env → Heap → Prop}
theorem LoopP.state {c : CCode} {env env' : Env} {h h' : Heap} (hs : StLe n G.sz env h env' h') (hl : LoopP P G n c Q env' h') : LoopP P G n c Q env h := by
  intro g hg ro M w a hro hm hsim hn hE
  obtain ⟨M1, p1, hE1⟩ := hs M w a hsim hn hE
  refine wpIn_mono (hl g hg ro M1 w a hro (p1.cc hm) p1.sim p1.len hE1) fun e a' w' hq => ?_
  obtain ⟨M2, env2, h2, p2, hE2, hk⟩ := hq
  exact ⟨M2, env2, h2, p1.trans p2, hE2, hk⟩
theorem loop_cut {c : CCode} (I : Nat → Env → Heap → Prop) {m0 : Nat} {env : Env} {h : Heap} (h0 : I m0 env h)
    (hstep : ∀ m env1 h1, I m env1 h1 → wpc P G h.length c (fun e env' h' => match e with
      | .normal => ∃ m', m' < m ∧ env'.all (fun p => bel2 h.length p.2) = true ∧ (h'.take h.length).all (blkBel h.length) = true ∧ I m' env' (h'.take h.length)
      | .exit id => Q (.exit id) env' h'
      | .ret => Q .ret env' h') env1 h1) : LoopP P G n c Q env h := by
  intro g hg ro M w a hro hm hs hn hE
  intro b k cs hro' hb hroom
  have main : ∀ m, ∀ env1 h1 M1 w1 a1, I m env1 h1 → Post h.length M h w M1 h1 w1 → RepE G.sz M1 env1 a1 →
      ∃ e a' w', QQ n G.sz M h w Q e a' w' ∧ ArrivesIn (Machine.fenced P (fw ro)) P (lone (b.atR a1 (.code g :: .inLoop g :: k)) cs w1) b k cs e a' w' := by
    intro m
    induction m using Nat.strongRecOn with
    | _ m ih =>
      intro env1 h1 M1 w1 a1 hI hp hE1
      obtain ⟨e, a2, w2, hq, harr⟩ := wpc_sound g c _ env1 h1 hg (hstep m env1 h1 hI) ro M1 w1 a1 hro (hp.cc hm) hp.sim hp.len hE1 b (.inLoop g :: k) cs hro' hb hroom
      obtain ⟨M2, env2, h2, hp2, hE2, hK⟩ := hq
      cases e with
      | normal =>
        obtain ⟨m', hlt, hb1, hb2, hI'⟩ := hK
        have hp3 := (hp.trans hp2).cut hs hb2
        have hE3 : RepE G.sz (M2.cut h.length) env2 a2 := ⟨hE2.1, hE2.2.1, fun k => (hE2.2.2 k).bel2 (env_bel hb1 k)⟩
        obtain ⟨e3, a3, w3, hq3, harr3⟩ := ih m' hlt env2 _ _ w2 a2 hI' hp3 hE3
        exact ⟨e3, a3, w3, hq3, .of_steps (StepsIn.trans harr (.one (fenced_calm hb hroom rfl) stepR_inLoop)) harr3⟩
      | exit id => exact ⟨_, a2, w2, ⟨M2, env2, h2, (hp.trans hp2).mono hn, hE2, hK⟩, .pass (x := .inLoop g) rfl (fun _ _ => .inl (by simp)) harr⟩
      | ret => exact ⟨_, a2, w2, ⟨M2, env2, h2, (hp.trans hp2).mono hn, hE2, hK⟩, .pass (x := .inLoop g) rfl (fun _ _ => .inl (by simp)) harr⟩
      | goto l => exact hK.elim
      | panic c => exact hK.elim
      | outgrown => exact hK.elim
  obtain ⟨e, a', w', hq, harr⟩ := main m0 env h M w a h0 (.refl hs (Nat.le_refl _)) hE
  exact ⟨e, a', w', hq, .of_steps (.one (fenced_calm hb hroom rfl) stepR_loop) harr⟩
theorem lp_count {X : Sx} (hX : SpOk P X.sp) {c : CCode} {s : List Fr} {env : Env} {h : Heap} (N : Nat) (A : Nat → Prop) (E : Nat → Env) (H : Nat → Heap) (he : env = E 0) (hh : h = H 0) (hA : A 0)
    (hb : ∀ k, k ≤ N → (H k).length = h.length ∧ (E k).all (fun p => bel2 h.length p.2) = true ∧ (H k).all (blkBel h.length) = true)
    (hstep : ∀ k, k ≤ N → A k → ∀ Q', (∀ J, k < N → A (k + 1) → Q' .normal (E (k + 1)) (H (k + 1) ++ J)) → (∀ id env' h', retS P G n (.exit id) s Q env' h' → Q' (.exit id) env' h') → (∀ env' h', retS P G n .ret s Q env' h' → Q' .ret env' h') →
      holds P G h.length Q' (fun _ _ => True) (sx X c [] leafK (E k) [] (H k))) : lpS P G n c s Q env h := by
  refine loop_cut (I := fun m env h => ∃ k, k ≤ N ∧ m = N - k ∧ A k ∧ env = E k ∧ h = H k) (m0 := N) ⟨0, Nat.zero_le _, rfl, hA, he, hh⟩ ?_
  rintro m env1 h1 ⟨k, hk, rfl, hAk, rfl, rfl⟩
  refine sx_sound hX c [] leafK (E k) [] (H k) leafK_ok (.nil _) (hstep k hk hAk _ (fun J hlt hA1 => ?_) (fun id env' h' hr => hr) (fun env' h' hr => hr))
  obtain ⟨b1, b2, b3⟩ := hb (k + 1) hlt
  have hj : (H (k + 1) ++ J).take h.length = H (k + 1) := by rw [← b1, List.take_left]
  exact ⟨N - (k + 1), by omega, b2, by rw [hj]; exact b3, k + 1, hlt, rfl, hA1, rfl, hj⟩
theorem Post.cutAt {M M' : Mem} {h h1 : Heap} {w w' : World} {m : Nat} (hs : Sim M h w) (p : Post h.length M h w M' h1 w') (hm : h.length ≤ m) (hm2 : m ≤ h1.length) (hb : (h1.take m).all (blkBel m) = true) :
    Post h.length M h w (M'.cut m) (h1.take m) w' := by
  have hd : ∀ i r, M.mu i = some r → i < h.length := fun i r hr => by
    rcases Nat.lt_or_ge i h.length with hl | hl
    · exact hl
    · rw [hs.dom i hl] at hr; cases hr
  have hget : ∀ (i : Nat) x, (h1.take m)[i]? = some x → i < m ∧ h1[i]? = some x := fun i x hx => by
    rw [List.getElem?_take] at hx
    split at hx
    · rename_i hl; exact ⟨hl, hx⟩
    · cases hx
  have hlive : ∀ b, liveBlk (M'.cut m) (h1.take m) b → liveBlk M' h1 b := fun b ⟨i, blk, r, hi, hr, hb⟩ => ⟨i, blk, r, (hget i _ hi).2, (Mem.cut_some hr).2, hb⟩
  refine ⟨p.ro, p.dc, fun i r hr => ?_, by simp; omega, ⟨fun i blk hi => ?_, ?_, fun b o v hv => ?_, fun i hi => ?_, fun b hb => ?_⟩, p.os, p.tape, p.output, p.size, p.keep, fun b hb hl => p.live b hb (hlive b hl)⟩
  · rw [Mem.cut_lt _ (Nat.lt_of_lt_of_le (hd i r hr) hm)]; exact p.le i r hr
  · obtain ⟨hlt, hi'⟩ := hget i _ hi
    obtain ⟨r, hr, hat⟩ := p.sim.blks i blk hi'
    exact ⟨r, by rw [Mem.cut_lt _ hlt]; exact hr, hat.bel (all_get hb hi)⟩
  · intro i j bi bj ri rj b hi hj hri hrj
    exact p.sim.inj i j bi bj ri rj b (hget i _ hi).2 (hget j _ hj).2 (Mem.cut_some hri).2 (Mem.cut_some hrj).2
  · exact ⟨(p.sim.ro b o v hv).1, fun hl => (p.sim.ro b o v hv).2 (hlive b hl)⟩
  · have : m ≤ i := by simp at hi; omega
    simp [Mem.cut]; omega
  · exact ⟨(p.sim.df b hb).1, fun hl => (p.sim.df b hb).2 (hlive b hl)⟩
theorem ACalls.cutAt {f : FuncId} {vs : List V} {h : Heap} {R : V → Heap → Prop} (hc : ACalls P f vs h fun v h1 => ∃ m, h.length ≤ m ∧ m ≤ h1.length ∧ bel2 m v = true ∧ (h1.take m).all (blkBel m) = true ∧ R v (h1.take m)) : ACalls P f vs h R := by
  refine ⟨hc.1, fun M w args hm hs ha => (hc.2 M w args hm hs ha).mono ?_⟩
  rintro e w' ⟨cv, v, h', M', rfl, hp, hv, m, h1, h2, h3, h4, hR⟩
  exact ⟨cv, v, _, _, rfl, hp.cutAt hs h1 h2 h4, hv.bel2 h3, hR⟩
noncomputable def bodyK (cr : List CRes) : CT := fun e env _ h => match e with
  | .ret => resT (fun _ => 0) env h cr fun vs => .done (oneT vs) []
  | e => .leaf e env h
theorem stkQ_ret (s : List Fr) (env : Env) (h : Heap) : stkQ P G n s Q .ret env h = Q .ret env h := by
  induction s with
  | nil => rfl
  | cons f s ih => cases f <;> exact ih
theorem retS_ret {s : List Fr} {env : Env} {h : Heap} (hh : Q .ret env h) : retS P G n .ret s Q env h := by
  show stkQ P G n s Q .ret env h
  rw [stkQ_ret]; exact hh
theorem bodyK_ok {cr : List CRes} {R : V → Prop} {Q' : CExit → Env → Heap → Prop} (hr : ∀ env h, resV env h cr (fun vs => R (oneV vs)) → Q' .ret env h) : ContOk P G n Q' (fun v _ => R v) [] (bodyK cr) := by
  intro e env tg h ht hh
  cases e with
  | exit i => exact hh
  | normal => exact hh
  | ret => exact hr _ _ (resT_sound (fun _ => rfl) cr (fun vs hv => by rw [← oneT_eq]; exact hv) hh)
theorem lp_countK {X : Sx} (hX : SpOk P X.sp) {c : CCode} {s : List Fr} {env : Env} {h : Heap} {cr : List CRes} {R : V → Prop} (hQ : Q = retQ cr fun v _ => R v) (N : Nat) (A : Nat → Prop) (E : Nat → Env) (H : Nat → Heap) (he : env = E 0) (hh : h = H 0) (hA : A 0)
    (hb : ∀ k, k ≤ N → (H k).length = h.length ∧ (E k).all (fun p => bel2 h.length p.2) = true ∧ (H k).all (blkBel h.length) = true)
    (hstep : ∀ k, k ≤ N → A k → ∀ Q', (∀ J, k < N → A (k + 1) → Q' .normal (E (k + 1)) (H (k + 1) ++ J)) → (∀ id env' h', retS P G n (.exit id) s Q env' h' → Q' (.exit id) env' h') →
      holds P G h.length Q' (fun v _ => R v) (sx X c [] (bodyK cr) (E k) [] (H k))) : lpS P G n c s Q env h := by
  refine loop_cut (I := fun m env h => ∃ k, k ≤ N ∧ m = N - k ∧ A k ∧ env = E k ∧ h = H k) (m0 := N) ⟨0, Nat.zero_le _, rfl, hA, he, hh⟩ ?_
  rintro m env1 h1 ⟨k, hk, rfl, hAk, rfl, rfl⟩
  refine sx_sound hX c [] (bodyK cr) (E k) [] (H k) (bodyK_ok (R := R) fun env h hres => ?_) (.nil _) (hstep k hk hAk _ (fun J hlt hA1 => ?_) (fun id env' h' hr => hr))
  · show stkQ P G n s Q .ret env h
    rw [stkQ_ret, hQ]
    exact hres
  · obtain ⟨b1, b2, b3⟩ := hb (k + 1) hlt
    have hj : (H (k + 1) ++ J).take h.length = H (k + 1) := by rw [← b1, List.take_left]
    exact ⟨N - (k + 1), by omega, b2, by rw [hj]; exact b3, k + 1, hlt, rfl, hA1, rfl, hj⟩
end
end Go.Proofs.Ytdnefcjbcieecaa
namespace Go.Proofs.Ytdnefcjbcieecaa
open Go
structure Rng where
  lo : Int
  hi : Int
structure Trd where
  seller : Int
  buyer : Int
  shares : Int
  sold : Rng
  deliv : Rng
structure Dvd where
  ex : Int
  record : Int
  pence : Int
structure Spl where
  day : Int
  num : Int
  den : Int
structure Cmp where
  houses : Int
  held : List Int
  trades : List Trd
  divs : List Dvd
  splits : List Spl
  closed : List Rng
structure Tru where
  sold : List Int
  deliv : List Int
instance : Inhabited Rng := ⟨⟨0, 0⟩⟩
instance : Inhabited Trd := ⟨⟨0, 0, 0, ⟨0, 0⟩, ⟨0, 0⟩⟩⟩
instance : Inhabited Dvd := ⟨⟨0, 0, 0⟩⟩
instance : Inhabited Spl := ⟨⟨0, 0, 0⟩⟩
def vi (n : Int) : V := .d (.int .i64 n)
def vb (b : Bool) : V := .d (.bool b)
def eI (n : Int) : List D := [.int .i64 n]
def eR (r : Rng) : List D := [.int .i64 r.lo, .int .i64 r.hi]
def eT (t : Trd) : List D := [.int .i64 t.seller, .int .i64 t.buyer, .int .i64 t.shares, .int .i64 t.sold.lo, .int .i64 t.sold.hi, .int .i64 t.deliv.lo, .int .i64 t.deliv.hi]
def eV (d : Dvd) : List D := [.int .i64 d.ex, .int .i64 d.record, .int .i64 d.pence]
def eS (s : Spl) : List D := [.int .i64 s.day, .int .i64 s.num, .int .i64 s.den]
def enc {α : Type} (f : α → List D) (l : List α) : List D := l.flatMap f
def dsl {α : Type} (f : α → List D) (l : List α) : D := .sl false l.length (enc f l)
def vsl {α : Type} (f : α → List D) (l : List α) : V := .d (dsl f l)
def Cv (c : Cmp) : V := .agg [.d (.int .i64 c.houses), .d (.sl false c.held.length (enc eI c.held)), .d (.sl false c.trades.length (enc eT c.trades)), .d (.sl false c.divs.length (enc eV c.divs)), .d (.sl false c.splits.length (enc eS c.splits)), .d (.sl false c.closed.length (enc eR c.closed))]
def Rv (r : Rng) : V := .agg [.d (.int .i64 r.lo), .d (.int .i64 r.hi)]
def Tv (t : Trd) : V := .agg [.d (.int .i64 t.seller), .d (.int .i64 t.buyer), .d (.int .i64 t.shares), .d (.int .i64 t.sold.lo), .d (.int .i64 t.sold.hi), .d (.int .i64 t.deliv.lo), .d (.int .i64 t.deliv.hi)]
def Dv (d : Dvd) : V := .agg [.d (.int .i64 d.ex), .d (.int .i64 d.record), .d (.int .i64 d.pence)]
def Sv (s : Spl) : V := .agg [.d (.int .i64 s.day), .d (.int .i64 s.num), .d (.int .i64 s.den)]
def Uv (t : Tru) : V := .agg [.d (.sl false t.sold.length (enc eI t.sold)), .d (.sl false t.deliv.length (enc eI t.deliv))]
def D.toI : D → Int
  | .int _ n => n
  | _ => 0
def dec {α : Type} (sz : Nat) (g : List D → α) : Nat → List D → List α
  | 0, _ => []
  | n + 1, ds => g (ds.take sz) :: dec sz g n (ds.drop sz)
def atI (ds : List D) (k : Nat) : Int := ((ds[k]?).getD .nils).toI
def gI (ds : List D) : Int := atI ds 0
def gR (ds : List D) : Rng := ⟨atI ds 0, atI ds 1⟩
def gT (ds : List D) : Trd := ⟨atI ds 0, atI ds 1, atI ds 2, ⟨atI ds 3, atI ds 4⟩, ⟨atI ds 5, atI ds 6⟩⟩
def gV (ds : List D) : Dvd := ⟨atI ds 0, atI ds 1, atI ds 2⟩
def gS (ds : List D) : Spl := ⟨atI ds 0, atI ds 1, atI ds 2⟩
theorem dec_enc {α : Type} {sz : Nat} {f : α → List D} {g : List D → α} (hf : ∀ x, (f x).length = sz) (hg : ∀ x, g (f x) = x) : ∀ l : List α, dec sz g l.length (enc f l) = l
  | [] => rfl
  | x :: l => by
    have h1 : (enc f (x :: l)).take sz = f x := by
      show (f x ++ enc f l).take sz = f x
      rw [← hf x, List.take_left]
    have h2 : (enc f (x :: l)).drop sz = enc f l := by
      show (f x ++ enc f l).drop sz = enc f l
      rw [← hf x, List.drop_left]
    show g ((enc f (x :: l)).take sz) :: dec sz g l.length ((enc f (x :: l)).drop sz) = x :: l
    rw [h1, h2, hg, dec_enc hf hg l]
@[simp] theorem dec_I (l : List Int) : dec 1 gI l.length (enc eI l) = l := dec_enc (sz := 1) (f := eI) (g := gI) (fun _ => rfl) (fun _ => rfl) l
@[simp] theorem dec_R (l : List Rng) : dec 2 gR l.length (enc eR l) = l := dec_enc (sz := 2) (f := eR) (g := gR) (fun _ => rfl) (fun _ => rfl) l
@[simp] theorem dec_T (l : List Trd) : dec 7 gT l.length (enc eT l) = l := dec_enc (sz := 7) (f := eT) (g := gT) (fun _ => rfl) (fun _ => rfl) l
@[simp] theorem dec_V (l : List Dvd) : dec 3 gV l.length (enc eV l) = l := dec_enc (sz := 3) (f := eV) (g := gV) (fun _ => rfl) (fun _ => rfl) l
@[simp] theorem dec_S (l : List Spl) : dec 3 gS l.length (enc eS l) = l := dec_enc (sz := 3) (f := eS) (g := gS) (fun _ => rfl) (fun _ => rfl) l
def dC (hs : Int) (n1 : Nat) (d1 : List D) (n2 : Nat) (d2 : List D) (n3 : Nat) (d3 : List D) (n4 : Nat) (d4 : List D) (n5 : Nat) (d5 : List D) : Cmp :=
  ⟨hs, dec 1 gI n1 d1, dec 7 gT n2 d2, dec 3 gV n3 d3, dec 3 gS n4 d4, dec 2 gR n5 d5⟩
def dU (n1 : Nat) (d1 : List D) (n2 : Nat) (d2 : List D) : Tru := ⟨dec 1 gI n1 d1, dec 1 gI n2 d2⟩
@[simp] theorem dC_enc (c : Cmp) : dC c.houses c.held.length (enc eI c.held) c.trades.length (enc eT c.trades) c.divs.length (enc eV c.divs) c.splits.length (enc eS c.splits) c.closed.length (enc eR c.closed) = c := by
  simp [dC]
@[simp] theorem dU_enc (t : Tru) : dU t.sold.length (enc eI t.sold) t.deliv.length (enc eI t.deliv) = t := by
  simp [dU]
theorem enc_append {α : Type} (f : α → List D) (a b : List α) : enc f (a ++ b) = enc f a ++ enc f b := by simp [enc]
@[simp] theorem enc_nil {α : Type} (f : α → List D) : enc f [] = [] := rfl
theorem enc_one {α : Type} (f : α → List D) (a : α) : enc f [a] = f a := by simp [enc]
theorem enc_len {α : Type} {sz : Nat} {f : α → List D} (hf : ∀ x, (f x).length = sz) : ∀ l : List α, (enc f l).length = l.length * sz
  | [] => by simp
  | x :: l => by
    show (f x ++ enc f l).length = _
    rw [List.length_append, enc_len hf l, hf, List.length_cons, Nat.add_mul]
    omega
@[simp] theorem len_I (l : List Int) : (enc eI l).length = l.length * 1 := enc_len (sz := 1) (f := eI) (fun _ => rfl) l
@[simp] theorem len_R (l : List Rng) : (enc eR l).length = l.length * 2 := enc_len (sz := 2) (f := eR) (fun _ => rfl) l
@[simp] theorem len_T (l : List Trd) : (enc eT l).length = l.length * 7 := enc_len (sz := 7) (f := eT) (fun _ => rfl) l
@[simp] theorem len_V (l : List Dvd) : (enc eV l).length = l.length * 3 := enc_len (sz := 3) (f := eV) (fun _ => rfl) l
@[simp] theorem len_S (l : List Spl) : (enc eS l).length = l.length * 3 := enc_len (sz := 3) (f := eS) (fun _ => rfl) l
def lat {α : Type} [Inhabited α] (l : List α) (i : Int) : α := l.getD i.toNat default
theorem enc_get {α : Type} {sz : Nat} {f : α → List D} (hf : ∀ x, (f x).length = sz) : ∀ (l : List α) (k j : Nat), j < sz → (enc f l)[k * sz + j]? = (l[k]?).bind fun x => (f x)[j]?
  | [], k, j, _ => by simp
  | x :: l, 0, j, hj => by
    show (f x ++ enc f l)[0 * sz + j]? = _
    rw [List.getElem?_append_left (by rw [hf]; omega)]
    simp
  | x :: l, k + 1, j, hj => by
    show (f x ++ enc f l)[(k + 1) * sz + j]? = _
    rw [List.getElem?_append_right (by rw [hf, Nat.add_mul]; omega), hf]
    have : (k + 1) * sz + j - sz = k * sz + j := by rw [Nat.add_mul]; omega
    rw [this, enc_get hf l k j hj]
    rfl
theorem elemAt_enc {α : Type} {sz : Nat} {f : α → List D} (hf : ∀ x, (f x).length = sz) : ∀ (l : List α) (k : Nat), k < l.length → elemAt (enc f l) sz k = (l[k]?).map f
  | [], k, h => by simp at h
  | x :: l, 0, _ => by
    have hl : ((enc f (x :: l)).drop (0 * sz)).take sz = f x := by
      show ((f x ++ enc f l).drop (0 * sz)).take sz = f x
      rw [Nat.zero_mul, List.drop_zero, ← hf x, List.take_left]
    unfold elemAt
    rw [if_pos (by rw [enc_len hf]; simp [Nat.add_mul]), hl]
    rfl
  | x :: l, k + 1, h => by
    have ih := elemAt_enc hf l k (by simpa using h)
    have hl : ((enc f (x :: l)).drop ((k + 1) * sz)).take sz = ((enc f l).drop (k * sz)).take sz := by
      show ((f x ++ enc f l).drop ((k + 1) * sz)).take sz = _
      have : (k + 1) * sz = (f x).length + k * sz := by rw [hf, Nat.add_mul]; omega
      rw [this, ← List.drop_drop, List.drop_left]
    unfold elemAt at ih ⊢
    rw [enc_len hf] at ih ⊢
    rw [if_pos (by rw [← Nat.succ_mul]; exact Nat.mul_le_mul_right _ h)]
    rw [if_pos (by rw [← Nat.succ_mul]; exact Nat.mul_le_mul_right _ (by simp at h; omega))] at ih
    rw [hl]
    exact ih
theorem lat_get {α : Type} [Inhabited α] {l : List α} {i : Int} (h : i.toNat < l.length) : l[i.toNat]? = some (lat l i) := by
  simp [lat, h]
theorem cI_enc {α : Type} [Inhabited α] {sz : Nat} {f : α → List D} (hf : ∀ x, (f x).length = sz) (l : List α) (i : Int) (j : Nat) (hj : j < sz) (g : α → Int) (hg : ∀ x, (f x)[j]? = some (.int .i64 (g x))) (hd : g default = 0) : cI (enc f l) sz i j = g (lat l i) := by
  unfold cI
  rw [enc_get hf l _ j hj]
  cases h : l[i.toNat]? with
  | none =>
    have : lat l i = default := by simp [lat, List.getD_eq_getElem?_getD, h]
    rw [this, hd]
    rfl
  | some x =>
    have : lat l i = x := by simp [lat, List.getD_eq_getElem?_getD, h]
    rw [this]
    simp only [Option.bind_some, hg]
@[simp] theorem cI_I (l : List Int) (i : Int) : cI (enc eI l) 1 i 0 = lat l i := cI_enc (sz := 1) (f := eI) (fun _ => rfl) l i 0 (by decide) (fun x => x) (fun _ => rfl) rfl
@[simp] theorem cI_R0 (l : List Rng) (i : Int) : cI (enc eR l) 2 i 0 = (lat l i).lo := cI_enc (sz := 2) (f := eR) (fun _ => rfl) l i 0 (by decide) (fun x => x.lo) (fun _ => rfl) rfl
@[simp] theorem cI_R1 (l : List Rng) (i : Int) : cI (enc eR l) 2 i 1 = (lat l i).hi := cI_enc (sz := 2) (f := eR) (fun _ => rfl) l i 1 (by decide) (fun x => x.hi) (fun _ => rfl) rfl
@[simp] theorem cI_T0 (l : List Trd) (i : Int) : cI (enc eT l) 7 i 0 = (lat l i).seller := cI_enc (sz := 7) (f := eT) (fun _ => rfl) l i 0 (by decide) (fun x => x.seller) (fun _ => rfl) rfl
@[simp] theorem cI_T1 (l : List Trd) (i : Int) : cI (enc eT l) 7 i 1 = (lat l i).buyer := cI_enc (sz := 7) (f := eT) (fun _ => rfl) l i 1 (by decide) (fun x => x.buyer) (fun _ => rfl) rfl
@[simp] theorem cI_T2 (l : List Trd) (i : Int) : cI (enc eT l) 7 i 2 = (lat l i).shares := cI_enc (sz := 7) (f := eT) (fun _ => rfl) l i 2 (by decide) (fun x => x.shares) (fun _ => rfl) rfl
@[simp] theorem cI_T3 (l : List Trd) (i : Int) : cI (enc eT l) 7 i 3 = (lat l i).sold.lo := cI_enc (sz := 7) (f := eT) (fun _ => rfl) l i 3 (by decide) (fun x => x.sold.lo) (fun _ => rfl) rfl
@[simp] theorem cI_T4 (l : List Trd) (i : Int) : cI (enc eT l) 7 i 4 = (lat l i).sold.hi := cI_enc (sz := 7) (f := eT) (fun _ => rfl) l i 4 (by decide) (fun x => x.sold.hi) (fun _ => rfl) rfl
@[simp] theorem cI_T5 (l : List Trd) (i : Int) : cI (enc eT l) 7 i 5 = (lat l i).deliv.lo := cI_enc (sz := 7) (f := eT) (fun _ => rfl) l i 5 (by decide) (fun x => x.deliv.lo) (fun _ => rfl) rfl
@[simp] theorem cI_T6 (l : List Trd) (i : Int) : cI (enc eT l) 7 i 6 = (lat l i).deliv.hi := cI_enc (sz := 7) (f := eT) (fun _ => rfl) l i 6 (by decide) (fun x => x.deliv.hi) (fun _ => rfl) rfl
@[simp] theorem cI_V0 (l : List Dvd) (i : Int) : cI (enc eV l) 3 i 0 = (lat l i).ex := cI_enc (sz := 3) (f := eV) (fun _ => rfl) l i 0 (by decide) (fun x => x.ex) (fun _ => rfl) rfl
@[simp] theorem cI_V1 (l : List Dvd) (i : Int) : cI (enc eV l) 3 i 1 = (lat l i).record := cI_enc (sz := 3) (f := eV) (fun _ => rfl) l i 1 (by decide) (fun x => x.record) (fun _ => rfl) rfl
@[simp] theorem cI_V2 (l : List Dvd) (i : Int) : cI (enc eV l) 3 i 2 = (lat l i).pence := cI_enc (sz := 3) (f := eV) (fun _ => rfl) l i 2 (by decide) (fun x => x.pence) (fun _ => rfl) rfl
@[simp] theorem cI_S0 (l : List Spl) (i : Int) : cI (enc eS l) 3 i 0 = (lat l i).day := cI_enc (sz := 3) (f := eS) (fun _ => rfl) l i 0 (by decide) (fun x => x.day) (fun _ => rfl) rfl
@[simp] theorem cI_S1 (l : List Spl) (i : Int) : cI (enc eS l) 3 i 1 = (lat l i).num := cI_enc (sz := 3) (f := eS) (fun _ => rfl) l i 1 (by decide) (fun x => x.num) (fun _ => rfl) rfl
@[simp] theorem cI_S2 (l : List Spl) (i : Int) : cI (enc eS l) 3 i 2 = (lat l i).den := cI_enc (sz := 3) (f := eS) (fun _ => rfl) l i 2 (by decide) (fun x => x.den) (fun _ => rfl) rfl
theorem okEl_enc {α : Type} [Inhabited α] {sz : Nat} {f : α → List D} (hf : ∀ x, (f x).length = sz) {ks : List Nat} {l : List α} {i : Int} (he : elDs ks (enc f l) sz i 0 = f (lat l i)) (h : i.toNat < l.length) : okEl ks (enc f l) sz i := by
  unfold okEl
  rw [elemAt_enc hf l _ h, lat_get h, he]
  rfl
theorem ok_I {l : List Int} {i : Int} (h : i.toNat < l.length) : okEl [0] (enc eI l) 1 i := okEl_enc (sz := 1) (f := eI) (fun _ => rfl) (by simp [elDs, elD, eI]) h
theorem ok_R {l : List Rng} {i : Int} (h : i.toNat < l.length) : okEl [0, 0] (enc eR l) 2 i := okEl_enc (sz := 2) (f := eR) (fun _ => rfl) (by simp [elDs, elD, eR]) h
theorem ok_T {l : List Trd} {i : Int} (h : i.toNat < l.length) : okEl [0, 0, 0, 0, 0, 0, 0] (enc eT l) 7 i := okEl_enc (sz := 7) (f := eT) (fun _ => rfl) (by simp [elDs, elD, eT]) h
theorem ok_V {l : List Dvd} {i : Int} (h : i.toNat < l.length) : okEl [0, 0, 0] (enc eV l) 3 i := okEl_enc (sz := 3) (f := eV) (fun _ => rfl) (by simp [elDs, elD, eV]) h
theorem ok_S {l : List Spl} {i : Int} (h : i.toNat < l.length) : okEl [0, 0, 0] (enc eS l) 3 i := okEl_enc (sz := 3) (f := eS) (fun _ => rfl) (by simp [elDs, elD, eS]) h
@[simp] theorem dp_P (p : Prop) [d : Decidable p] : (dp p).P = p := rfl
theorem VLe.of_eq {x y : V} (h : x = y) : VLe x y := h ▸ .refl x
def inR (n lo hi : Int) : Bool := decide (lo ≤ n ∧ n ≤ hi)
def isDay (n : Int) : Bool := inR n 0 11
def Rng.days (r : Rng) : Bool := decide (0 ≤ r.lo ∧ r.lo ≤ r.hi ∧ r.hi ≤ 11)
def Rng.short (r : Rng) : Bool := decide (0 ≤ r.lo ∧ r.lo ≤ r.hi ∧ r.hi ≤ 11 ∧ r.hi - r.lo ≤ 2)
def Rng.has (r : Rng) (n : Int) : Bool := inR n r.lo r.hi
def okTr (hs : Int) (t : Trd) : Bool := decide (0 ≤ t.seller ∧ t.seller < hs ∧ 0 ≤ t.buyer ∧ t.buyer < hs ∧ t.seller ≠ t.buyer ∧ 1 ≤ t.shares ∧ t.shares ≤ 100) && t.sold.short && t.deliv.short
def okDv (d : Dvd) : Bool := decide (0 ≤ d.ex ∧ d.ex ≤ d.record ∧ d.record ≤ 11 ∧ 0 ≤ d.pence ∧ d.pence ≤ 50)
abbrev Ent := List V → Heap → Option (Prop × V × Option Heap)
def EntOk (P : Program) (f : FuncId) (e : Ent) : Prop := ∀ args h p v ho, e args h = some (p, v, ho) → p → ACalls P f args h fun v1 h1 => v1 = v ∧ h1 = heapO h ho
abbrev Spec := FuncId → List V → Heap → Option (Prop × V × Option Heap)
def spNil : Spec := fun _ _ _ => none
def spAdd (f : Nat) (e : Ent) (r : Spec) : Spec := fun g args h => bif Nat.beq g f then e args h else r g args h
theorem spNil_ok (P : Program) : SpOk P spNil := fun _ _ _ _ _ _ h => by cases h
theorem spAdd_ok {P : Program} {f : Nat} {e : Ent} {r : Spec} (he : EntOk P f e) (hr : SpOk P r) : SpOk P (spAdd f e r) := by
  intro g args h p v h' hs hp
  unfold spAdd at hs
  cases hb : Nat.beq g f with
  | true => rw [hb] at hs; rw [Nat.eq_of_beq_eq_true hb]; exact he args h p v h' hs hp
  | false => rw [hb] at hs; exact hr g args h p v h' hs hp
def shI : Nat → List Nat := fun n => List.replicate n 0
def mkX (s : Spec) : Sx := { sp := s, md := fun _ => 0, sh := shI }
def Yields (P : Program) (f : FuncId) (args : List V) (v : V) : Prop := ∀ h, ACalls P f args h fun v1 h1 => v1 = v ∧ h1 = h
theorem Yields.of {P : Program} {f : FuncId} {args : List V} {v : V} (ha : args.all (bel2 0) = true) (hv : bel2 0 v = true) (hc : ACalls P f args [] fun v1 _ => VLe v1 v) : Yields P f args v := by
  intro h
  have h2 : ACalls P f args [] fun v1 h1 => bel2 ([] : Heap).length v1 = true ∧ (h1.take ([] : Heap).length).all (blkBel ([] : Heap).length) = true ∧ v1 = v :=
    hc.result fun v1 h1 hl => ⟨v, hl, hv, by simp, rfl⟩
  exact (ACalls.more (R := fun v1 _ => v1 = v) ha rfl h2 h).mono fun v1 h1 ⟨k, hk, hR, e⟩ => ⟨hR, by rw [e]; cases k with | nil => rfl | cons => simp at hk⟩
def FunIs (P : Program) (f : FuncId) (G : Cfg) (c : CCode) (cr : List CRes) : Prop :=
  ∃ fn, P.funcs[f]? = some fn ∧ fn.body.bind (compC P G) = some c ∧ compRes P fn.results.toList = some cr ∧ (fn.name == "runtime.NumGoroutine") = false ∧ fn.ntmps = G.sz
theorem FunIs.calls {P : Program} {G : Cfg} {X : Sx} (hX : SpOk P X.sp) {f : FuncId} {c : CCode} {cr : List CRes} (hq : FunIs P f G c cr) {vs : List V} {h : Heap} {R : V → Heap → Prop} {T : Tr} (hl : Nat.ble vs.length G.sz = true)
    (ht : sx X c [] (doneK cr) (envOf vs) [] h = T) (hh : holds P G h.length (retQ cr R) R T) : ACalls P f vs h R := by
  obtain ⟨fn, h1, h2, h3, h4, h5⟩ := hq
  exact acalls_tree hX h1 h2 h3 h4 h5 (ble_le hl) ht hh
theorem FunIs.callsF {P : Program} {G : Cfg} {X : Sx} (hX : SpOk P X.sp) {f : FuncId} {c : CCode} {cr : List CRes} (hq : FunIs P f G c cr) {vs : List V} {h : Heap} {R : V → Heap → Prop} {T : Tr} (hl : Nat.ble vs.length G.sz = true)
    (ht : sx X c [] (doneF h.length cr) (envOf vs) [] h = T) (hh : holds P G h.length (retQ cr fun v h1 => R (finX h.length v h1).1 (finX h.length v h1).2) R T) : ACalls P f vs h R := by
  obtain ⟨fn, h1, h2, h3, h4, h5⟩ := hq
  exact acalls_treeF hX h1 h2 h3 h4 h5 (ble_le hl) ht hh
theorem FunIs.yields {P : Program} {G : Cfg} {X : Sx} (hX : SpOk P X.sp) {f : FuncId} {c : CCode} {cr : List CRes} (hq : FunIs P f G c cr) {args : List V} {v : V} {T : Tr} (hl : Nat.ble args.length G.sz = true)
    (ha : args.all (bel2 0) = true) (hv : bel2 0 v = true) (ht : sx X c [] (doneF 0 cr) (envOf args) [] [] = T)
    (hh : holds P G 0 (retQ cr fun v1 h1 => VLe (finX 0 v1 h1).1 v) (fun v1 _ => VLe v1 v) T) : Yields P f args v :=
  .of ha hv (hq.callsF hX (h := []) hl ht hh)
theorem FunIs.yieldsK {P : Program} {G : Cfg} {X : Sx} (hX : SpOk P X.sp) {f : FuncId} {c : CCode} {cr : List CRes} (hq : FunIs P f G c cr) {args : List V} {v : V} {T : Tr} (hl : Nat.ble args.length G.sz = true)
    (ha : args.all (bel2 0) = true) (hv : bel2 0 v = true) (ht : sx X c [] (doneK cr) (envOf args) [] [] = T)
    (hh : holds P G 0 (retQ cr fun v1 _ => VLe v1 v) (fun v1 _ => VLe v1 v) T) : Yields P f args v :=
  .of ha hv (hq.calls hX (h := []) hl ht hh)
theorem dec_len {α : Type} (sz : Nat) (g : List D → α) : ∀ (n : Nat) (ds : List D), (dec sz g n ds).length = n
  | 0, _ => rfl
  | n + 1, ds => by simp [dec, dec_len sz g n]
def okL {α : Type} (f : α → List D) (sz : Nat) (g : List D → α) (n : Nat) (ds : List D) : Prop := enc f (dec sz g n ds) = ds ∧ n ≤ 140737488355328
theorem okL_vsl {α : Type} {f : α → List D} {sz : Nat} {g : List D → α} {n : Nat} {ds : List D} (h : okL f sz g n ds) : V.d (.sl false n ds) = vsl f (dec sz g n ds) := by
  unfold vsl dsl
  rw [h.1, dec_len]
@[simp] theorem okL_I (l : List Int) : okL eI 1 gI l.length (enc eI l) ↔ l.length ≤ 140737488355328 := by simp [okL]
@[simp] theorem okL_R (l : List Rng) : okL eR 2 gR l.length (enc eR l) ↔ l.length ≤ 140737488355328 := by simp [okL]
@[simp] theorem okL_T (l : List Trd) : okL eT 7 gT l.length (enc eT l) ↔ l.length ≤ 140737488355328 := by simp [okL]
@[simp] theorem okL_V (l : List Dvd) : okL eV 3 gV l.length (enc eV l) ↔ l.length ≤ 140737488355328 := by simp [okL]
@[simp] theorem okL_S (l : List Spl) : okL eS 3 gS l.length (enc eS l) ↔ l.length ≤ 140737488355328 := by simp [okL]
abbrev dCe (c : Cmp) : Cmp := dC c.houses c.held.length (enc eI c.held) c.trades.length (enc eT c.trades) c.divs.length (enc eV c.divs) c.splits.length (enc eS c.splits) c.closed.length (enc eR c.closed)
abbrev dUe (t : Tru) : Tru := dU t.sold.length (enc eI t.sold) t.deliv.length (enc eI t.deliv)
def Cds (c : Cmp) : List D := [.int .i64 c.houses, dsl eI c.held, dsl eT c.trades, dsl eV c.divs, dsl eS c.splits, dsl eR c.closed]
def Uds (t : Tru) : List D := [dsl eI t.sold, dsl eI t.deliv]
theorem FunIs.yieldsX {P : Program} {G : Cfg} {X : Sx} (hX : SpOk P X.sp) {f : FuncId} {c : CCode} {cr : List CRes} (hq : FunIs P f G c cr) {args : List V} {v : V} {T : Tr} (hl : Nat.ble args.length G.sz = true)
    (ha : args.all (bel2 0) = true) (hv : bel2 0 v = true) (ht : sx X c [] (doneK cr) (envOf args) [] [] = T)
    (hh : holds P G 0 (retQ cr fun v1 h1 => VLe (finX 0 v1 h1).1 v) (fun v1 h1 => VLe (finX 0 v1 h1).1 v) T) : Yields P f args v :=
  .of ha hv (ACalls.fin (hq.calls hX (h := []) (R := fun v1 h1 => VLe (finX 0 v1 h1).1 v) hl ht hh))
theorem FunIs.yieldsP {P : Program} {G : Cfg} {X : Sx} (hX : SpOk P X.sp) {f : FuncId} {c : CCode} {cr : List CRes} (hq : FunIs P f G c cr) {args : List V} {v : V} {T : Tr} (hl : Nat.ble args.length G.sz = true)
    (ha : args.all (bel2 0) = true) (hv : bel2 0 v = true) (ht : sx X c [] (doneP cr) (envOf args) [] [] = T)
    (hh : holds P G 0 (retQ cr fun v1 _ => VLe v1 v) (fun v1 _ => VLe v1 v) T) : Yields P f args v := by
  obtain ⟨fn, h1, h2, h3, h4, h5⟩ := hq
  exact .of ha hv (acalls_treeP hX (h := []) h1 h2 h3 h4 h5 (ble_le hl) ht hh)
end Go.Proofs.Ytdnefcjbcieecaa
namespace Go.Proofs.Ytdnefcjbcieecaa
open Go Go.Proofs
def G17 : Cfg := ⟨[], [(0, [2, 3]), (1, [4])], 45, []⟩
def r17 : List CRes := [.tmp 4]
def c17 : CCode :=
(.seq (.region [
  ⟨(some 2), none, .simple (.box false (.tmp 0))⟩,
  ⟨(some 3), none, .simple (.box false (.tmp 1))⟩,
  ⟨(some 4), none, .simple (.move (.const (.bool false)))⟩] (some [2, 3]))
(.seq (.region [
  ⟨(some 5), none, .simple (.fieldAddr 1 (.tmp 2))⟩,
  ⟨(some 6), none, .simple (.load none (.tmp 5))⟩,
  ⟨(some 7), none, .simple (.len (.tmp 6))⟩,
  ⟨(some 8), none, .simple (.bin .leq (.tmp 7) (.const (.int .i64 7)))⟩,
  ⟨(some 9), none, .simple (.move (.tmp 8))⟩,
  ⟨(some 10), (some (9, true)), .simple (.fieldAddr 2 (.tmp 2))⟩,
  ⟨(some 11), (some (9, true)), .simple (.load none (.tmp 10))⟩,
  ⟨(some 12), (some (9, true)), .simple (.len (.tmp 11))⟩,
  ⟨(some 13), (some (9, true)), .simple (.bin .leq (.tmp 12) (.const (.int .i64 7)))⟩,
  ⟨(some 14), none, .simple (.pick (.tmp 9) (.tmp 13) (.const (.bool false)))⟩,
  ⟨(some 15), none, .simple (.move (.tmp 14))⟩,
  ⟨(some 16), (some (15, true)), .simple (.fieldAddr 3 (.tmp 2))⟩,
  ⟨(some 17), (some (15, true)), .simple (.load none (.tmp 16))⟩,
  ⟨(some 18), (some (15, true)), .simple (.len (.tmp 17))⟩,
  ⟨(some 19), (some (15, true)), .simple (.bin .leq (.tmp 18) (.const (.int .i64 7)))⟩,
  ⟨(some 20), none, .simple (.pick (.tmp 15) (.tmp 19) (.const (.bool false)))⟩,
  ⟨(some 21), none, .simple (.move (.tmp 20))⟩,
  ⟨(some 22), (some (21, true)), .simple (.fieldAddr 4 (.tmp 2))⟩,
  ⟨(some 23), (some (21, true)), .simple (.load none (.tmp 22))⟩,
  ⟨(some 24), (some (21, true)), .simple (.len (.tmp 23))⟩,
  ⟨(some 25), (some (21, true)), .simple (.bin .leq (.tmp 24) (.const (.int .i64 7)))⟩,
  ⟨(some 26), none, .simple (.pick (.tmp 21) (.tmp 25) (.const (.bool false)))⟩,
  ⟨(some 27), none, .simple (.move (.tmp 26))⟩,
  ⟨(some 28), (some (27, true)), .simple (.fieldAddr 5 (.tmp 2))⟩,
  ⟨(some 29), (some (27, true)), .simple (.load none (.tmp 28))⟩,
  ⟨(some 30), (some (27, true)), .simple (.len (.tmp 29))⟩,
  ⟨(some 31), (some (27, true)), .simple (.bin .leq (.tmp 30) (.const (.int .i64 7)))⟩,
  ⟨(some 32), none, .simple (.pick (.tmp 27) (.tmp 31) (.const (.bool false)))⟩,
  ⟨(some 33), none, .simple (.move (.tmp 32))⟩,
  ⟨(some 34), (some (33, true)), .simple (.fieldAddr 0 (.tmp 3))⟩,
  ⟨(some 35), (some (33, true)), .simple (.load none (.tmp 34))⟩,
  ⟨(some 36), (some (33, true)), .simple (.len (.tmp 35))⟩,
  ⟨(some 37), (some (33, true)), .simple (.bin .leq (.tmp 36) (.const (.int .i64 7)))⟩,
  ⟨(some 38), none, .simple (.pick (.tmp 33) (.tmp 37) (.const (.bool false)))⟩,
  ⟨(some 39), none, .simple (.move (.tmp 38))⟩,
  ⟨(some 40), (some (39, true)), .simple (.fieldAddr 1 (.tmp 3))⟩,
  ⟨(some 41), (some (39, true)), .simple (.load none (.tmp 40))⟩,
  ⟨(some 42), (some (39, true)), .simple (.len (.tmp 41))⟩,
  ⟨(some 43), (some (39, true)), .simple (.bin .leq (.tmp 42) (.const (.int .i64 7)))⟩,
  ⟨(some 44), none, .simple (.pick (.tmp 39) (.tmp 43) (.const (.bool false)))⟩,
  ⟨(some 4), none, .simple (.move (.tmp 44))⟩] (some [4]))
.ret))
theorem k17 : Try.f17.body.bind (compC Try.prog G17) = some c17 := by kernel_rfl
theorem e17 : compRes Try.prog Try.f17.results.toList = some r17 := by kernel_rfl
def G20 : Cfg := ⟨[111, 93, 69, 45, 3, 5, 7, 9, 2], [(0, [1, 2]), (1, [1, 2, 3]), (2, [1, 2, 3, 4]), (3, [1, 2, 3, 4, 21]), (5, [1, 2, 3, 4, 5]), (6, [1, 2, 3, 4]), (4, [1, 2, 3, 4]), (7, [1, 2, 3, 6]), (8, [1, 2, 3, 6, 51]), (10, [1, 2, 3, 6, 7]), (11, [1, 2, 3, 6]), (9, [1, 2, 3, 6]), (12, [1, 2, 3, 8]), (13, [1, 2, 3, 8, 75]), (15, [1, 2, 3, 8, 9]), (16, [1, 2, 3, 8]), (14, [1, 2, 3, 8]), (17, [1, 2, 3, 10]), (18, [1, 2, 3, 10, 99]), (20, [1, 2, 3, 10]), (19, [1, 2, 3, 10]), (21, [2])], 114, []⟩
def r20 : List CRes := [.cell 2 (some 6)]
def c20 : CCode :=
(.seq (.region [
  ⟨(some 1), none, .simple (.box false (.tmp 0))⟩,
  ⟨(some 2), none, .simple (.alloc [(.d (.int .i64 0)), (.d .nils), (.d .nils), (.d .nils), (.d .nils), (.d .nils)])⟩] (some [1, 2]))
(.seq (.seq (.region [
  ⟨(some 11), none, .simple (.fieldAddr 0 (.tmp 1))⟩,
  ⟨(some 12), none, .simple (.load none (.tmp 11))⟩,
  ⟨(some 13), none, .simple (.fieldAddr 1 (.tmp 1))⟩,
  ⟨(some 14), none, .simple (.load none (.tmp 13))⟩] none)
(.both (.region [
   ⟨(some 15), none, .callx (.func 56) [(.tmp 14)]⟩,
   ⟨(some 16), none, .simple (.build [(.d (.int .i64 0)), (.d .nils), (.d .nils), (.d .nils), (.d .nils), (.d .nils)] [(0, 1, (.tmp 12)), (1, 1, (.tmp 15))])⟩,
   ⟨(some 3), none, .simple (.alloc [(.d (.int .i64 0)), (.d .nils), (.d .nils), (.d .nils), (.d .nils), (.d .nils)])⟩,
   ⟨none, none, .simple (.store 6 (.tmp 3) (.tmp 16))⟩] (some [1, 2, 3]))
 (.region [
   ⟨(some 3), none, .simple (.alloc [(.d (.int .i64 0)), (.d .nils), (.d .nils), (.d .nils), (.d .nils), (.d .nils)])⟩,
   ⟨(some 15), none, .callx (.func 56) [(.tmp 14)]⟩,
   ⟨(some 16), none, .simple (.build [(.d (.int .i64 0)), (.d .nils), (.d .nils), (.d .nils), (.d .nils), (.d .nils)] [(0, 1, (.tmp 12)), (1, 1, (.tmp 15))])⟩,
   ⟨none, none, .simple (.store 6 (.tmp 3) (.tmp 16))⟩] (some [1, 2, 3]))))
(.seq (.seq (.region [
  ⟨(some 4), none, .simple (.move (.const (.int .i64 0)))⟩] (some [1, 2, 3, 4]))
(.block 0 (.loop (.seq (.seq (.region [
    ⟨(some 17), none, .simple (.move (.tmp 4))⟩,
    ⟨(some 18), none, .simple (.fieldAddr 2 (.tmp 1))⟩,
    ⟨(some 19), none, .simple (.load none (.tmp 18))⟩,
    ⟨(some 20), none, .simple (.len (.tmp 19))⟩,
    ⟨(some 21), none, .simple (.bin .lss (.tmp 17) (.tmp 20))⟩] (some [1, 2, 3, 4, 21]))
  (.cond (.tmp 21)
   .skip
   (.exit 0)))
  (.seq (.block 1 (.seq (.region [
     ⟨(some 24), none, .simple (.fieldAddr 2 (.tmp 1))⟩,
     ⟨(some 25), none, .simple (.load none (.tmp 24))⟩,
     ⟨(some 26), none, .simple (.move (.tmp 4))⟩,
     ⟨(some 27), none, .simple (.indexS 7 (.tmp 25) (.tmp 26))⟩,
     ⟨(some 28), none, .simple (.load (some 7) (.tmp 27))⟩,
     ⟨(some 5), none, .simple (.alloc [(.d (.int .i64 0)), (.d (.int .i64 0)), (.d (.int .i64 0)), (.d (.int .i64 0)), (.d (.int .i64 0)), (.d (.int .i64 0)), (.d (.int .i64 0))])⟩,
     ⟨none, none, .simple (.store 7 (.tmp 5) (.tmp 28))⟩] (some [1, 2, 3, 4, 5]))
   (.region [
     ⟨(some 29), none, .simple (.fieldAddr 2 (.tmp 3))⟩,
     ⟨(some 30), none, .simple (.load none (.tmp 29))⟩,
     ⟨(some 31), none, .simple (.fieldAddr 0 (.tmp 5))⟩,
     ⟨(some 32), none, .simple (.load none (.tmp 31))⟩,
     ⟨(some 33), none, .simple (.fieldAddr 1 (.tmp 5))⟩,
     ⟨(some 34), none, .simple (.load none (.tmp 33))⟩,
     ⟨(some 35), none, .simple (.fieldAddr 2 (.tmp 5))⟩,
     ⟨(some 36), none, .simple (.load none (.tmp 35))⟩,
     ⟨(some 37), none, .simple (.fieldAddr 3 (.tmp 5))⟩,
     ⟨(some 38), none, .simple (.load (some 2) (.tmp 37))⟩,
     ⟨(some 40), none, .simple (.fieldAddr 5 (.tmp 5))⟩,
     ⟨(some 41), none, .simple (.load (some 2) (.tmp 40))⟩,
     ⟨(some 39), none, .callx (.func 61) [(.tmp 38)]⟩,
     ⟨(some 42), none, .callx (.func 61) [(.tmp 41)]⟩,
     ⟨(some 43), none, .simple (.build [(.d (.int .i64 0)), (.d (.int .i64 0)), (.d (.int .i64 0)), (.d (.int .i64 0)), (.d (.int .i64 0)), (.d (.int .i64 0)), (.d (.int .i64 0))] [(0, 1, (.tmp 32)), (1, 1, (.tmp 34)), (2, 1, (.tmp 36)), (3, 2, (.tmp 39)), (5, 2, (.tmp 42))])⟩,
     ⟨(some 44), none, .simple (.bslice false 93 7 1 [(.int .i64 0), (.int .i64 0), (.int .i64 0), (.int .i64 0), (.int .i64 0), (.int .i64 0), (.int .i64 0)] [(0, (.tmp 43))])⟩,
     ⟨(some 45), none, .app 93 7 56 (.tmp 30) (.tmp 44)⟩,
     ⟨(some 46), none, .simple (.fieldAddr 2 (.tmp 3))⟩,
     ⟨none, none, .simple (.store 1 (.tmp 46) (.tmp 45))⟩] (some [1, 2, 3, 4]))))
  (.region [
    ⟨(some 22), none, .simple (.move (.tmp 4))⟩,
    ⟨(some 23), none, .simple (.bin .add (.tmp 22) (.const (.int .i64 1)))⟩,
    ⟨(some 4), none, .simple (.move (.tmp 23))⟩] (some [1, 2, 3, 4])))))))
(.seq (.seq (.region [
  ⟨(some 6), none, .simple (.move (.const (.int .i64 0)))⟩] (some [1, 2, 3, 6]))
(.block 2 (.loop (.seq (.seq (.region [
    ⟨(some 47), none, .simple (.move (.tmp 6))⟩,
    ⟨(some 48), none, .simple (.fieldAddr 3 (.tmp 1))⟩,
    ⟨(some 49), none, .simple (.load none (.tmp 48))⟩,
    ⟨(some 50), none, .simple (.len (.tmp 49))⟩,
    ⟨(some 51), none, .simple (.bin .lss (.tmp 47) (.tmp 50))⟩] (some [1, 2, 3, 6, 51]))
  (.cond (.tmp 51)
   .skip
   (.exit 2)))
  (.seq (.block 3 (.seq (.region [
     ⟨(some 54), none, .simple (.fieldAddr 3 (.tmp 1))⟩,
     ⟨(some 55), none, .simple (.load none (.tmp 54))⟩,
     ⟨(some 56), none, .simple (.move (.tmp 6))⟩,
     ⟨(some 57), none, .simple (.indexS 3 (.tmp 55) (.tmp 56))⟩,
     ⟨(some 58), none, .simple (.load (some 3) (.tmp 57))⟩,
     ⟨(some 7), none, .simple (.alloc [(.d (.int .i64 0)), (.d (.int .i64 0)), (.d (.int .i64 0))])⟩,
     ⟨none, none, .simple (.store 3 (.tmp 7) (.tmp 58))⟩] (some [1, 2, 3, 6, 7]))
   (.region [
     ⟨(some 59), none, .simple (.fieldAddr 3 (.tmp 3))⟩,
     ⟨(some 60), none, .simple (.load none (.tmp 59))⟩,
     ⟨(some 61), none, .simple (.fieldAddr 0 (.tmp 7))⟩,
     ⟨(some 62), none, .simple (.load none (.tmp 61))⟩,
     ⟨(some 63), none, .simple (.fieldAddr 1 (.tmp 7))⟩,
     ⟨(some 64), none, .simple (.load none (.tmp 63))⟩,
     ⟨(some 65), none, .simple (.fieldAddr 2 (.tmp 7))⟩,
     ⟨(some 66), none, .simple (.load none (.tmp 65))⟩,
     ⟨(some 67), none, .simple (.build [(.d (.int .i64 0)), (.d (.int .i64 0)), (.d (.int .i64 0))] [(0, 1, (.tmp 62)), (1, 1, (.tmp 64)), (2, 1, (.tmp 66))])⟩,
     ⟨(some 68), none, .simple (.bslice false 95 3 1 [(.int .i64 0), (.int .i64 0), (.int .i64 0)] [(0, (.tmp 67))])⟩,
     ⟨(some 69), none, .app 95 3 24 (.tmp 60) (.tmp 68)⟩,
     ⟨(some 70), none, .simple (.fieldAddr 3 (.tmp 3))⟩,
     ⟨none, none, .simple (.store 1 (.tmp 70) (.tmp 69))⟩] (some [1, 2, 3, 6]))))
  (.region [
    ⟨(some 52), none, .simple (.move (.tmp 6))⟩,
    ⟨(some 53), none, .simple (.bin .add (.tmp 52) (.const (.int .i64 1)))⟩,
    ⟨(some 6), none, .simple (.move (.tmp 53))⟩] (some [1, 2, 3, 6])))))))
(.seq (.seq (.region [
  ⟨(some 8), none, .simple (.move (.const (.int .i64 0)))⟩] (some [1, 2, 3, 8]))
(.block 4 (.loop (.seq (.seq (.region [
    ⟨(some 71), none, .simple (.move (.tmp 8))⟩,
    ⟨(some 72), none, .simple (.fieldAddr 4 (.tmp 1))⟩,
    ⟨(some 73), none, .simple (.load none (.tmp 72))⟩,
    ⟨(some 74), none, .simple (.len (.tmp 73))⟩,
    ⟨(some 75), none, .simple (.bin .lss (.tmp 71) (.tmp 74))⟩] (some [1, 2, 3, 8, 75]))
  (.cond (.tmp 75)
   .skip
   (.exit 4)))
  (.seq (.block 5 (.seq (.region [
     ⟨(some 78), none, .simple (.fieldAddr 4 (.tmp 1))⟩,
     ⟨(some 79), none, .simple (.load none (.tmp 78))⟩,
     ⟨(some 80), none, .simple (.move (.tmp 8))⟩,
     ⟨(some 81), none, .simple (.indexS 3 (.tmp 79) (.tmp 80))⟩,
     ⟨(some 82), none, .simple (.load (some 3) (.tmp 81))⟩,
     ⟨(some 9), none, .simple (.alloc [(.d (.int .i64 0)), (.d (.int .i64 0)), (.d (.int .i64 0))])⟩,
     ⟨none, none, .simple (.store 3 (.tmp 9) (.tmp 82))⟩] (some [1, 2, 3, 8, 9]))
   (.region [
     ⟨(some 83), none, .simple (.fieldAddr 4 (.tmp 3))⟩,
     ⟨(some 84), none, .simple (.load none (.tmp 83))⟩,
     ⟨(some 85), none, .simple (.fieldAddr 0 (.tmp 9))⟩,
     ⟨(some 86), none, .simple (.load none (.tmp 85))⟩,
     ⟨(some 87), none, .simple (.fieldAddr 1 (.tmp 9))⟩,
     ⟨(some 88), none, .simple (.load none (.tmp 87))⟩,
     ⟨(some 89), none, .simple (.fieldAddr 2 (.tmp 9))⟩,
     ⟨(some 90), none, .simple (.load none (.tmp 89))⟩,
     ⟨(some 91), none, .simple (.build [(.d (.int .i64 0)), (.d (.int .i64 0)), (.d (.int .i64 0))] [(0, 1, (.tmp 86)), (1, 1, (.tmp 88)), (2, 1, (.tmp 90))])⟩,
     ⟨(some 92), none, .simple (.bslice false 96 3 1 [(.int .i64 0), (.int .i64 0), (.int .i64 0)] [(0, (.tmp 91))])⟩,
     ⟨(some 93), none, .app 96 3 24 (.tmp 84) (.tmp 92)⟩,
     ⟨(some 94), none, .simple (.fieldAddr 4 (.tmp 3))⟩,
     ⟨none, none, .simple (.store 1 (.tmp 94) (.tmp 93))⟩] (some [1, 2, 3, 8]))))
  (.region [
    ⟨(some 76), none, .simple (.move (.tmp 8))⟩,
    ⟨(some 77), none, .simple (.bin .add (.tmp 76) (.const (.int .i64 1)))⟩,
    ⟨(some 8), none, .simple (.move (.tmp 77))⟩] (some [1, 2, 3, 8])))))))
(.seq (.seq (.region [
  ⟨(some 10), none, .simple (.move (.const (.int .i64 0)))⟩] (some [1, 2, 3, 10]))
(.block 6 (.loop (.seq (.seq (.region [
    ⟨(some 95), none, .simple (.move (.tmp 10))⟩,
    ⟨(some 96), none, .simple (.fieldAddr 5 (.tmp 1))⟩,
    ⟨(some 97), none, .simple (.load none (.tmp 96))⟩,
    ⟨(some 98), none, .simple (.len (.tmp 97))⟩,
    ⟨(some 99), none, .simple (.bin .lss (.tmp 95) (.tmp 98))⟩] (some [1, 2, 3, 10, 99]))
  (.cond (.tmp 99)
   .skip
   (.exit 6)))
  (.seq (.block 7 (.region [
     ⟨(some 102), none, .simple (.fieldAddr 5 (.tmp 3))⟩,
     ⟨(some 103), none, .simple (.load none (.tmp 102))⟩,
     ⟨(some 104), none, .simple (.fieldAddr 5 (.tmp 1))⟩,
     ⟨(some 105), none, .simple (.load none (.tmp 104))⟩,
     ⟨(some 106), none, .simple (.move (.tmp 10))⟩,
     ⟨(some 107), none, .simple (.indexS 2 (.tmp 105) (.tmp 106))⟩,
     ⟨(some 108), none, .simple (.load (some 2) (.tmp 107))⟩,
     ⟨(some 109), none, .callx (.func 61) [(.tmp 108)]⟩,
     ⟨(some 110), none, .simple (.bslice false 71 2 1 [(.int .i64 0), (.int .i64 0)] [(0, (.tmp 109))])⟩,
     ⟨(some 111), none, .app 71 2 16 (.tmp 103) (.tmp 110)⟩,
     ⟨(some 112), none, .simple (.fieldAddr 5 (.tmp 3))⟩,
     ⟨none, none, .simple (.store 1 (.tmp 112) (.tmp 111))⟩] (some [1, 2, 3, 10])))
  (.region [
    ⟨(some 100), none, .simple (.move (.tmp 10))⟩,
    ⟨(some 101), none, .simple (.bin .add (.tmp 100) (.const (.int .i64 1)))⟩,
    ⟨(some 10), none, .simple (.move (.tmp 101))⟩] (some [1, 2, 3, 10])))))))
(.seq (.region [
  ⟨(some 113), none, .simple (.load (some 6) (.tmp 3))⟩,
  ⟨none, none, .simple (.store 6 (.tmp 2) (.tmp 113))⟩] (some [2]))
.ret)))))))
theorem k20 : Try.f20.body.bind (compC Try.prog G20) = some c20 := by kernel_rfl
theorem e20 : compRes Try.prog Try.f20.results.toList = some r20 := by kernel_rfl
def G21 : Cfg := ⟨[2], [(0, [1, 2]), (1, [2])], 10, []⟩
def r21 : List CRes := [.cell 2 (some 2)]
def c21 : CCode :=
(.seq (.region [
  ⟨(some 1), none, .simple (.box false (.tmp 0))⟩,
  ⟨(some 2), none, .simple (.alloc [(.d .nils), (.d .nils)])⟩] (some [1, 2]))
(.seq (.region [
  ⟨(some 3), none, .simple (.fieldAddr 0 (.tmp 1))⟩,
  ⟨(some 4), none, .simple (.load none (.tmp 3))⟩,
  ⟨(some 6), none, .simple (.fieldAddr 1 (.tmp 1))⟩,
  ⟨(some 7), none, .simple (.load none (.tmp 6))⟩,
  ⟨(some 5), none, .callx (.func 56) [(.tmp 4)]⟩,
  ⟨(some 8), none, .call (.func 56) [(.tmp 7)]⟩,
  ⟨(some 9), none, .simple (.build [(.d .nils), (.d .nils)] [(0, 1, (.tmp 5)), (1, 1, (.tmp 8))])⟩,
  ⟨none, none, .simple (.store 2 (.tmp 2) (.tmp 9))⟩] (some [2]))
.ret))
theorem k21 : Try.f21.body.bind (compC Try.prog G21) = some c21 := by kernel_rfl
theorem e21 : compRes Try.prog Try.f21.results.toList = some r21 := by kernel_rfl
def G23 : Cfg := ⟨[], [(0, [0, 1, 2]), (1, [6])], 15, []⟩
def r23 : List CRes := [.tmp 6]
def c23 : CCode :=
(.seq (.region [
  ⟨(some 6), none, .simple (.move (.const (.bool false)))⟩] (some [0, 1, 2]))
(.seq (.region [
  ⟨(some 7), none, .simple (.move (.tmp 0))⟩,
  ⟨(some 8), none, .simple (.move (.tmp 1))⟩,
  ⟨(some 9), none, .simple (.bin .geq (.tmp 7) (.tmp 8))⟩,
  ⟨(some 10), none, .simple (.move (.tmp 9))⟩,
  ⟨(some 11), (some (10, true)), .simple (.move (.tmp 0))⟩,
  ⟨(some 12), (some (10, true)), .simple (.move (.tmp 2))⟩,
  ⟨(some 13), (some (10, true)), .simple (.bin .leq (.tmp 11) (.tmp 12))⟩,
  ⟨(some 14), none, .simple (.pick (.tmp 10) (.tmp 13) (.const (.bool false)))⟩,
  ⟨(some 6), none, .simple (.move (.tmp 14))⟩] (some [6]))
.ret))
theorem k23 : Try.f23.body.bind (compC Try.prog G23) = some c23 := by kernel_rfl
theorem e23 : compRes Try.prog Try.f23.results.toList = some r23 := by kernel_rfl
def G34 : Cfg := ⟨[], [(0, [1]), (1, [2])], 5, []⟩
def r34 : List CRes := [.tmp 2]
def c34 : CCode :=
(.seq (.region [
  ⟨(some 1), none, .simple (.box false (.tmp 0))⟩,
  ⟨(some 2), none, .simple (.move (.const (.int .i64 0)))⟩] (some [1]))
(.seq (.region [
  ⟨(some 3), none, .simple (.load (some 6) (.tmp 1))⟩,
  ⟨(some 4), none, .call (.func 69) [(.tmp 3)]⟩,
  ⟨(some 2), none, .simple (.move (.tmp 4))⟩] (some [2]))
.ret))
theorem k34 : Try.f34.body.bind (compC Try.prog G34) = some c34 := by kernel_rfl
theorem e34 : compRes Try.prog Try.f34.results.toList = some r34 := by kernel_rfl
def G43 : Cfg := ⟨[], [(0, [1]), (1, [2])], 13, []⟩
def r43 : List CRes := [.tmp 2]
def c43 : CCode :=
(.seq (.region [
  ⟨(some 1), none, .simple (.box false (.tmp 0))⟩,
  ⟨(some 2), none, .simple (.move (.const (.bool false)))⟩] (some [1]))
(.seq (.region [
  ⟨(some 3), none, .simple (.fieldAddr 0 (.tmp 1))⟩,
  ⟨(some 4), none, .simple (.load none (.tmp 3))⟩,
  ⟨(some 5), none, .simple (.fieldAddr 1 (.tmp 1))⟩,
  ⟨(some 6), none, .simple (.load none (.tmp 5))⟩,
  ⟨(some 7), none, .call (.func 23) [(.tmp 4), (.const (.int .i64 0)), (.tmp 6)]⟩,
  ⟨(some 8), none, .simple (.move (.tmp 7))⟩,
  ⟨(some 9), (some (8, true)), .simple (.fieldAddr 1 (.tmp 1))⟩,
  ⟨(some 10), (some (8, true)), .simple (.load none (.tmp 9))⟩,
  ⟨(some 11), (some (8, true)), .simple (.bin .leq (.tmp 10) (.const (.int .i64 11)))⟩,
  ⟨(some 12), none, .simple (.pick (.tmp 8) (.tmp 11) (.const (.bool false)))⟩,
  ⟨(some 2), none, .simple (.move (.tmp 12))⟩] (some [2]))
.ret))
theorem k43 : Try.f43.body.bind (compC Try.prog G43) = some c43 := by kernel_rfl
theorem e43 : compRes Try.prog Try.f43.results.toList = some r43 := by kernel_rfl
def G49 : Cfg := ⟨[], [(0, [1, 2]), (1, [2, 5]), (2, [2, 5, 8]), (4, [2, 5, 13]), (5, [4]), (3, [2, 5]), (6, [4])], 15, []⟩
def r49 : List CRes := [.tmp 4]
def c49 : CCode :=
(.seq (.region [
  ⟨(some 2), none, .simple (.box false (.tmp 0))⟩,
  ⟨(some 4), none, .simple (.move (.const (.int .i64 0)))⟩] (some [1, 2]))
(.seq (.seq (.region [
  ⟨(some 6), none, .simple (.move (.tmp 1))⟩,
  ⟨(some 5), none, .simple (.move (.tmp 6))⟩] (some [2, 5]))
(.block 0 (.loop (.seq (.seq (.region [
    ⟨(some 7), none, .simple (.move (.tmp 5))⟩,
    ⟨(some 8), none, .simple (.bin .leq (.tmp 7) (.const (.int .i64 11)))⟩] (some [2, 5, 8]))
  (.cond (.tmp 8)
   .skip
   (.exit 0)))
  (.seq (.block 1 (.seq (.region [
     ⟨(some 11), none, .simple (.load (some 6) (.tmp 2))⟩,
     ⟨(some 12), none, .simple (.move (.tmp 5))⟩,
     ⟨(some 13), none, .call (.func 81) [(.tmp 11), (.tmp 12)]⟩] (some [2, 5, 13]))
   (.cond (.tmp 13)
    (.seq (.region [
      ⟨(some 14), none, .simple (.move (.tmp 5))⟩,
      ⟨(some 4), none, .simple (.move (.tmp 14))⟩] (some [4]))
    .ret)
    .skip)))
  (.region [
    ⟨(some 9), none, .simple (.move (.tmp 5))⟩,
    ⟨(some 10), none, .simple (.bin .add (.tmp 9) (.const (.int .i64 1)))⟩,
    ⟨(some 5), none, .simple (.move (.tmp 10))⟩] (some [2, 5])))))))
(.seq (.region [
  ⟨(some 4), none, .simple (.move (.const (.int .i64 (-1))))⟩] (some [4]))
.ret)))
theorem k49 : Try.f49.body.bind (compC Try.prog G49) = some c49 := by kernel_rfl
theorem e49 : compRes Try.prog Try.f49.results.toList = some r49 := by kernel_rfl
def G56 : Cfg := ⟨[5, 3], [(0, [0]), (1, [2])], 6, []⟩
def r56 : List CRes := [.tmp 2]
def c56 : CCode :=
(.seq (.region [
  ⟨(some 2), none, .simple (.move (.const (.slice none 0 0)))⟩] (some [0]))
(.seq (.region [
  ⟨(some 3), none, .simple (.bslice true 3 1 0 [] [])⟩,
  ⟨(some 4), none, .simple (.move (.tmp 0))⟩,
  ⟨(some 5), none, .app 3 1 8 (.tmp 3) (.tmp 4)⟩,
  ⟨(some 2), none, .simple (.move (.tmp 5))⟩] (some [2]))
.ret))
theorem k56 : Try.f56.body.bind (compC Try.prog G56) = some c56 := by kernel_rfl
theorem e56 : compRes Try.prog Try.f56.results.toList = some r56 := by kernel_rfl
def G61 : Cfg := ⟨[2], [(0, [1, 2]), (1, [2])], 8, []⟩
def r61 : List CRes := [.cell 2 (some 2)]
def c61 : CCode :=
(.seq (.region [
  ⟨(some 1), none, .simple (.box false (.tmp 0))⟩,
  ⟨(some 2), none, .simple (.alloc [(.d (.int .i64 0)), (.d (.int .i64 0))])⟩] (some [1, 2]))
(.seq (.region [
  ⟨(some 3), none, .simple (.fieldAddr 0 (.tmp 1))⟩,
  ⟨(some 4), none, .simple (.load none (.tmp 3))⟩,
  ⟨(some 5), none, .simple (.fieldAddr 1 (.tmp 1))⟩,
  ⟨(some 6), none, .simple (.load none (.tmp 5))⟩,
  ⟨(some 7), none, .simple (.build [(.d (.int .i64 0)), (.d (.int .i64 0))] [(0, 1, (.tmp 4)), (1, 1, (.tmp 6))])⟩,
  ⟨none, none, .simple (.store 2 (.tmp 2) (.tmp 7))⟩] (some [2]))
.ret))
theorem k61 : Try.f61.body.bind (compC Try.prog G61) = some c61 := by kernel_rfl
theorem e61 : compRes Try.prog Try.f61.results.toList = some r61 := by kernel_rfl
def G69 : Cfg := ⟨[5, 7, 10], [(0, [1]), (1, [1, 38]), (2, [2]), (3, [1, 49]), (4, [2]), (5, [1, 3]), (6, [1, 3, 53]), (8, [1, 3, 62]), (9, [2]), (7, [1, 3]), (10, [1, 4]), (11, [1, 4, 67]), (13, [1, 4, 5]), (14, [1, 4, 135]), (15, [2]), (12, [1, 4]), (16, [1, 6]), (17, [1, 6, 140]), (19, [1, 6, 7]), (20, [1, 6, 160]), (21, [2]), (18, [1, 6]), (22, [1, 8]), (23, [1, 8, 9]), (24, [1, 8, 9, 165]), (26, [1, 8, 9, 10]), (27, [1, 9, 10, 190]), (28, [2]), (29, [1, 8, 9]), (25, [1, 8, 9]), (30, [1, 11]), (31, [1, 11, 197]), (33, [1, 11, 206]), (34, [2]), (32, [1, 11]), (35, [2])], 207, []⟩
def r69 : List CRes := [.tmp 2]
def c69 : CCode :=
(.seq (.region [
  ⟨(some 1), none, .simple (.box false (.tmp 0))⟩,
  ⟨(some 2), none, .simple (.move (.const (.int .i64 0)))⟩] (some [1]))
(.seq (.seq (.region [
  ⟨(some 12), none, .simple (.fieldAddr 0 (.tmp 1))⟩,
  ⟨(some 13), none, .simple (.load none (.tmp 12))⟩,
  ⟨(some 14), none, .simple (.bin .gtr (.tmp 13) (.const (.int .i64 4)))⟩,
  ⟨(some 15), none, .simple (.move (.tmp 14))⟩,
  ⟨(some 16), (some (15, false)), .simple (.fieldAddr 2 (.tmp 1))⟩,
  ⟨(some 17), (some (15, false)), .simple (.load none (.tmp 16))⟩,
  ⟨(some 18), (some (15, false)), .simple (.len (.tmp 17))⟩,
  ⟨(some 19), (some (15, false)), .simple (.bin .gtr (.tmp 18) (.const (.int .i64 4)))⟩,
  ⟨(some 20), none, .simple (.pick (.tmp 15) (.const (.bool true)) (.tmp 19))⟩,
  ⟨(some 21), none, .simple (.move (.tmp 20))⟩,
  ⟨(some 22), (some (21, false)), .simple (.fieldAddr 3 (.tmp 1))⟩,
  ⟨(some 23), (some (21, false)), .simple (.load none (.tmp 22))⟩,
  ⟨(some 24), (some (21, false)), .simple (.len (.tmp 23))⟩,
  ⟨(some 25), (some (21, false)), .simple (.bin .gtr (.tmp 24) (.const (.int .i64 3)))⟩,
  ⟨(some 26), none, .simple (.pick (.tmp 21) (.const (.bool true)) (.tmp 25))⟩,
  ⟨(some 27), none, .simple (.move (.tmp 26))⟩,
  ⟨(some 28), (some (27, false)), .simple (.fieldAddr 4 (.tmp 1))⟩,
  ⟨(some 29), (some (27, false)), .simple (.load none (.tmp 28))⟩,
  ⟨(some 30), (some (27, false)), .simple (.len (.tmp 29))⟩,
  ⟨(some 31), (some (27, false)), .simple (.bin .gtr (.tmp 30) (.const (.int .i64 2)))⟩,
  ⟨(some 32), none, .simple (.pick (.tmp 27) (.const (.bool true)) (.tmp 31))⟩,
  ⟨(some 33), none, .simple (.move (.tmp 32))⟩,
  ⟨(some 34), (some (33, false)), .simple (.fieldAddr 5 (.tmp 1))⟩,
  ⟨(some 35), (some (33, false)), .simple (.load none (.tmp 34))⟩,
  ⟨(some 36), (some (33, false)), .simple (.len (.tmp 35))⟩,
  ⟨(some 37), (some (33, false)), .simple (.bin .gtr (.tmp 36) (.const (.int .i64 2)))⟩,
  ⟨(some 38), none, .simple (.pick (.tmp 33) (.const (.bool true)) (.tmp 37))⟩] (some [1, 38]))
(.cond (.tmp 38)
 (.seq (.region [
   ⟨(some 2), none, .simple (.move (.const (.int .i64 3)))⟩] (some [2]))
 .ret)
 .skip))
(.seq (.seq (.region [
  ⟨(some 39), none, .simple (.fieldAddr 0 (.tmp 1))⟩,
  ⟨(some 40), none, .simple (.load none (.tmp 39))⟩,
  ⟨(some 41), none, .simple (.bin .lss (.tmp 40) (.const (.int .i64 1)))⟩,
  ⟨(some 42), none, .simple (.move (.tmp 41))⟩,
  ⟨(some 43), (some (42, false)), .simple (.fieldAddr 1 (.tmp 1))⟩,
  ⟨(some 44), (some (42, false)), .simple (.load none (.tmp 43))⟩,
  ⟨(some 45), (some (42, false)), .simple (.len (.tmp 44))⟩,
  ⟨(some 46), (some (42, false)), .simple (.fieldAddr 0 (.tmp 1))⟩,
  ⟨(some 47), (some (42, false)), .simple (.load none (.tmp 46))⟩,
  ⟨(some 48), (some (42, false)), .simple (.bin .neq (.tmp 45) (.tmp 47))⟩,
  ⟨(some 49), none, .simple (.pick (.tmp 42) (.const (.bool true)) (.tmp 48))⟩] (some [1, 49]))
(.cond (.tmp 49)
 (.seq (.region [
   ⟨(some 2), none, .simple (.move (.const (.int .i64 1)))⟩] (some [2]))
 .ret)
 .skip))
(.seq (.seq (.region [
  ⟨(some 3), none, .simple (.move (.const (.int .i64 0)))⟩] (some [1, 3]))
(.block 0 (.loop (.seq (.seq (.region [
    ⟨(some 50), none, .simple (.move (.tmp 3))⟩,
    ⟨(some 51), none, .simple (.fieldAddr 0 (.tmp 1))⟩,
    ⟨(some 52), none, .simple (.load none (.tmp 51))⟩,
    ⟨(some 53), none, .simple (.bin .lss (.tmp 50) (.tmp 52))⟩] (some [1, 3, 53]))
  (.cond (.tmp 53)
   .skip
   (.exit 0)))
  (.seq (.block 1 (.seq (.region [
     ⟨(some 56), none, .simple (.fieldAddr 1 (.tmp 1))⟩,
     ⟨(some 57), none, .simple (.load none (.tmp 56))⟩,
     ⟨(some 58), none, .simple (.move (.tmp 3))⟩,
     ⟨(some 59), none, .simple (.indexS 1 (.tmp 57) (.tmp 58))⟩,
     ⟨(some 60), none, .simple (.load none (.tmp 59))⟩,
     ⟨(some 61), none, .call (.func 23) [(.tmp 60), (.const (.int .i64 0)), (.const (.int .i64 100))]⟩,
     ⟨(some 62), none, .simple (.un .not (.tmp 61))⟩] (some [1, 3, 62]))
   (.cond (.tmp 62)
    (.seq (.region [
      ⟨(some 2), none, .simple (.move (.const (.int .i64 1)))⟩] (some [2]))
    .ret)
    .skip)))
  (.region [
    ⟨(some 54), none, .simple (.move (.tmp 3))⟩,
    ⟨(some 55), none, .simple (.bin .add (.tmp 54) (.const (.int .i64 1)))⟩,
    ⟨(some 3), none, .simple (.move (.tmp 55))⟩] (some [1, 3])))))))
(.seq (.seq (.region [
  ⟨(some 4), none, .simple (.move (.const (.int .i64 0)))⟩] (some [1, 4]))
(.block 2 (.loop (.seq (.seq (.region [
    ⟨(some 63), none, .simple (.move (.tmp 4))⟩,
    ⟨(some 64), none, .simple (.fieldAddr 2 (.tmp 1))⟩,
    ⟨(some 65), none, .simple (.load none (.tmp 64))⟩,
    ⟨(some 66), none, .simple (.len (.tmp 65))⟩,
    ⟨(some 67), none, .simple (.bin .lss (.tmp 63) (.tmp 66))⟩] (some [1, 4, 67]))
  (.cond (.tmp 67)
   .skip
   (.exit 2)))
  (.seq (.block 3 (.seq (.region [
     ⟨(some 70), none, .simple (.fieldAddr 2 (.tmp 1))⟩,
     ⟨(some 71), none, .simple (.load none (.tmp 70))⟩,
     ⟨(some 72), none, .simple (.move (.tmp 4))⟩,
     ⟨(some 73), none, .simple (.indexS 7 (.tmp 71) (.tmp 72))⟩,
     ⟨(some 74), none, .simple (.load (some 7) (.tmp 73))⟩,
     ⟨(some 5), none, .simple (.alloc [(.d (.int .i64 0)), (.d (.int .i64 0)), (.d (.int .i64 0)), (.d (.int .i64 0)), (.d (.int .i64 0)), (.d (.int .i64 0)), (.d (.int .i64 0))])⟩,
     ⟨none, none, .simple (.store 7 (.tmp 5) (.tmp 74))⟩] (some [1, 4, 5]))
   (.seq (.region [
     ⟨(some 75), none, .simple (.fieldAddr 0 (.tmp 5))⟩,
     ⟨(some 76), none, .simple (.load none (.tmp 75))⟩,
     ⟨(some 77), none, .simple (.fieldAddr 0 (.tmp 1))⟩,
     ⟨(some 78), none, .simple (.load none (.tmp 77))⟩,
     ⟨(some 79), none, .simple (.bin .sub (.tmp 78) (.const (.int .i64 1)))⟩,
     ⟨(some 80), none, .call (.func 23) [(.tmp 76), (.const (.int .i64 0)), (.tmp 79)]⟩,
     ⟨(some 81), none, .simple (.un .not (.tmp 80))⟩,
     ⟨(some 82), none, .simple (.move (.tmp 81))⟩,
     ⟨(some 83), (some (82, false)), .simple (.fieldAddr 1 (.tmp 5))⟩,
     ⟨(some 84), (some (82, false)), .simple (.load none (.tmp 83))⟩,
     ⟨(some 85), (some (82, false)), .simple (.fieldAddr 0 (.tmp 1))⟩,
     ⟨(some 86), (some (82, false)), .simple (.load none (.tmp 85))⟩,
     ⟨(some 87), (some (82, false)), .simple (.bin .sub (.tmp 86) (.const (.int .i64 1)))⟩,
     ⟨(some 88), (some (82, false)), .call (.func 23) [(.tmp 84), (.const (.int .i64 0)), (.tmp 87)]⟩,
     ⟨(some 89), (some (82, false)), .simple (.un .not (.tmp 88))⟩,
     ⟨(some 90), none, .simple (.pick (.tmp 82) (.const (.bool true)) (.tmp 89))⟩,
     ⟨(some 91), none, .simple (.move (.tmp 90))⟩,
     ⟨(some 92), (some (91, false)), .simple (.fieldAddr 0 (.tmp 5))⟩,
     ⟨(some 93), (some (91, false)), .simple (.load none (.tmp 92))⟩,
     ⟨(some 94), (some (91, false)), .simple (.fieldAddr 1 (.tmp 5))⟩,
     ⟨(some 95), (some (91, false)), .simple (.load none (.tmp 94))⟩,
     ⟨(some 96), (some (91, false)), .simple (.bin .eql (.tmp 93) (.tmp 95))⟩,
     ⟨(some 97), none, .simple (.pick (.tmp 91) (.const (.bool true)) (.tmp 96))⟩,
     ⟨(some 98), none, .simple (.move (.tmp 97))⟩,
     ⟨(some 99), (some (98, false)), .simple (.fieldAddr 2 (.tmp 5))⟩,
     ⟨(some 100), (some (98, false)), .simple (.load none (.tmp 99))⟩,
     ⟨(some 101), (some (98, false)), .call (.func 23) [(.tmp 100), (.const (.int .i64 1)), (.const (.int .i64 100))]⟩,
     ⟨(some 102), (some (98, false)), .simple (.un .not (.tmp 101))⟩,
     ⟨(some 103), none, .simple (.pick (.tmp 98) (.const (.bool true)) (.tmp 102))⟩,
     ⟨(some 104), none, .simple (.move (.tmp 103))⟩,
     ⟨(some 105), (some (104, false)), .simple (.fieldAddr 3 (.tmp 5))⟩,
     ⟨(some 106), (some (104, false)), .simple (.load (some 2) (.tmp 105))⟩,
     ⟨(some 107), (some (104, false)), .call (.func 43) [(.tmp 106)]⟩,
     ⟨(some 108), (some (104, false)), .simple (.un .not (.tmp 107))⟩,
     ⟨(some 109), none, .simple (.pick (.tmp 104) (.const (.bool true)) (.tmp 108))⟩,
     ⟨(some 110), none, .simple (.move (.tmp 109))⟩,
     ⟨(some 111), (some (110, false)), .simple (.fieldAddr 5 (.tmp 5))⟩,
     ⟨(some 112), (some (110, false)), .simple (.load (some 2) (.tmp 111))⟩,
     ⟨(some 113), (some (110, false)), .call (.func 43) [(.tmp 112)]⟩,
     ⟨(some 114), (some (110, false)), .simple (.un .not (.tmp 113))⟩,
     ⟨(some 115), none, .simple (.pick (.tmp 110) (.const (.bool true)) (.tmp 114))⟩,
     ⟨(some 116), none, .simple (.move (.tmp 115))⟩,
     ⟨(some 117), (some (116, false)), .simple (.fieldAddr 3 (.tmp 5))⟩,
     ⟨(some 118), (some (116, false)), .simple (.fieldAddr 1 (.tmp 117))⟩,
     ⟨(some 119), (some (116, false)), .simple (.load none (.tmp 118))⟩,
     ⟨(some 120), (some (116, false)), .simple (.fieldAddr 3 (.tmp 5))⟩,
     ⟨(some 121), (some (116, false)), .simple (.fieldAddr 0 (.tmp 120))⟩,
     ⟨(some 122), (some (116, false)), .simple (.load none (.tmp 121))⟩,
     ⟨(some 123), (some (116, false)), .simple (.bin .sub (.tmp 119) (.tmp 122))⟩,
     ⟨(some 124), (some (116, false)), .simple (.bin .gtr (.tmp 123) (.const (.int .i64 2)))⟩,
     ⟨(some 125), none, .simple (.pick (.tmp 116) (.const (.bool true)) (.tmp 124))⟩,
     ⟨(some 126), none, .simple (.move (.tmp 125))⟩,
     ⟨(some 127), (some (126, false)), .simple (.fieldAddr 5 (.tmp 5))⟩,
     ⟨(some 128), (some (126, false)), .simple (.fieldAddr 1 (.tmp 127))⟩,
     ⟨(some 129), (some (126, false)), .simple (.load none (.tmp 128))⟩,
     ⟨(some 130), (some (126, false)), .simple (.fieldAddr 5 (.tmp 5))⟩,
     ⟨(some 131), (some (126, false)), .simple (.fieldAddr 0 (.tmp 130))⟩,
     ⟨(some 132), (some (126, false)), .simple (.load none (.tmp 131))⟩,
     ⟨(some 133), (some (126, false)), .simple (.bin .sub (.tmp 129) (.tmp 132))⟩,
     ⟨(some 134), (some (126, false)), .simple (.bin .gtr (.tmp 133) (.const (.int .i64 2)))⟩,
     ⟨(some 135), none, .simple (.pick (.tmp 126) (.const (.bool true)) (.tmp 134))⟩] (some [1, 4, 135]))
   (.cond (.tmp 135)
    (.seq (.region [
      ⟨(some 2), none, .simple (.move (.const (.int .i64 1)))⟩] (some [2]))
    .ret)
    .skip))))
  (.region [
    ⟨(some 68), none, .simple (.move (.tmp 4))⟩,
    ⟨(some 69), none, .simple (.bin .add (.tmp 68) (.const (.int .i64 1)))⟩,
    ⟨(some 4), none, .simple (.move (.tmp 69))⟩] (some [1, 4])))))))
(.seq (.seq (.region [
  ⟨(some 6), none, .simple (.move (.const (.int .i64 0)))⟩] (some [1, 6]))
(.block 4 (.loop (.seq (.seq (.region [
    ⟨(some 136), none, .simple (.move (.tmp 6))⟩,
    ⟨(some 137), none, .simple (.fieldAddr 3 (.tmp 1))⟩,
    ⟨(some 138), none, .simple (.load none (.tmp 137))⟩,
    ⟨(some 139), none, .simple (.len (.tmp 138))⟩,
    ⟨(some 140), none, .simple (.bin .lss (.tmp 136) (.tmp 139))⟩] (some [1, 6, 140]))
  (.cond (.tmp 140)
   .skip
   (.exit 4)))
  (.seq (.block 5 (.seq (.region [
     ⟨(some 143), none, .simple (.fieldAddr 3 (.tmp 1))⟩,
     ⟨(some 144), none, .simple (.load none (.tmp 143))⟩,
     ⟨(some 145), none, .simple (.move (.tmp 6))⟩,
     ⟨(some 146), none, .simple (.indexS 3 (.tmp 144) (.tmp 145))⟩,
     ⟨(some 147), none, .simple (.load (some 3) (.tmp 146))⟩,
     ⟨(some 7), none, .simple (.alloc [(.d (.int .i64 0)), (.d (.int .i64 0)), (.d (.int .i64 0))])⟩,
     ⟨none, none, .simple (.store 3 (.tmp 7) (.tmp 147))⟩] (some [1, 6, 7]))
   (.seq (.region [
     ⟨(some 148), none, .simple (.fieldAddr 0 (.tmp 7))⟩,
     ⟨(some 149), none, .simple (.load none (.tmp 148))⟩,
     ⟨(some 150), none, .simple (.fieldAddr 1 (.tmp 7))⟩,
     ⟨(some 151), none, .simple (.load none (.tmp 150))⟩,
     ⟨(some 152), none, .simple (.build [(.d (.int .i64 0)), (.d (.int .i64 0))] [(0, 1, (.tmp 149)), (1, 1, (.tmp 151))])⟩,
     ⟨(some 153), none, .call (.func 43) [(.tmp 152)]⟩,
     ⟨(some 154), none, .simple (.un .not (.tmp 153))⟩,
     ⟨(some 155), none, .simple (.move (.tmp 154))⟩,
     ⟨(some 156), (some (155, false)), .simple (.fieldAddr 2 (.tmp 7))⟩,
     ⟨(some 157), (some (155, false)), .simple (.load none (.tmp 156))⟩,
     ⟨(some 158), (some (155, false)), .call (.func 23) [(.tmp 157), (.const (.int .i64 0)), (.const (.int .i64 50))]⟩,
     ⟨(some 159), (some (155, false)), .simple (.un .not (.tmp 158))⟩,
     ⟨(some 160), none, .simple (.pick (.tmp 155) (.const (.bool true)) (.tmp 159))⟩] (some [1, 6, 160]))
   (.cond (.tmp 160)
    (.seq (.region [
      ⟨(some 2), none, .simple (.move (.const (.int .i64 1)))⟩] (some [2]))
    .ret)
    .skip))))
  (.region [
    ⟨(some 141), none, .simple (.move (.tmp 6))⟩,
    ⟨(some 142), none, .simple (.bin .add (.tmp 141) (.const (.int .i64 1)))⟩,
    ⟨(some 6), none, .simple (.move (.tmp 142))⟩] (some [1, 6])))))))
(.seq (.region [
  ⟨(some 8), none, .simple (.move (.const (.int .i64 (-1))))⟩] (some [1, 8]))
(.seq (.seq (.region [
  ⟨(some 9), none, .simple (.move (.const (.int .i64 0)))⟩] (some [1, 8, 9]))
(.block 6 (.loop (.seq (.seq (.region [
    ⟨(some 161), none, .simple (.move (.tmp 9))⟩,
    ⟨(some 162), none, .simple (.fieldAddr 4 (.tmp 1))⟩,
    ⟨(some 163), none, .simple (.load none (.tmp 162))⟩,
    ⟨(some 164), none, .simple (.len (.tmp 163))⟩,
    ⟨(some 165), none, .simple (.bin .lss (.tmp 161) (.tmp 164))⟩] (some [1, 8, 9, 165]))
  (.cond (.tmp 165)
   .skip
   (.exit 6)))
  (.seq (.block 7 (.seq (.region [
     ⟨(some 168), none, .simple (.fieldAddr 4 (.tmp 1))⟩,
     ⟨(some 169), none, .simple (.load none (.tmp 168))⟩,
     ⟨(some 170), none, .simple (.move (.tmp 9))⟩,
     ⟨(some 171), none, .simple (.indexS 3 (.tmp 169) (.tmp 170))⟩,
     ⟨(some 172), none, .simple (.load (some 3) (.tmp 171))⟩,
     ⟨(some 10), none, .simple (.alloc [(.d (.int .i64 0)), (.d (.int .i64 0)), (.d (.int .i64 0))])⟩,
     ⟨none, none, .simple (.store 3 (.tmp 10) (.tmp 172))⟩] (some [1, 8, 9, 10]))
   (.seq (.seq (.region [
     ⟨(some 173), none, .simple (.fieldAddr 0 (.tmp 10))⟩,
     ⟨(some 174), none, .simple (.load none (.tmp 173))⟩,
     ⟨(some 175), none, .simple (.move (.tmp 8))⟩,
     ⟨(some 176), none, .simple (.bin .add (.tmp 175) (.const (.int .i64 1)))⟩,
     ⟨(some 177), none, .call (.func 23) [(.tmp 174), (.tmp 176), (.const (.int .i64 11))]⟩,
     ⟨(some 178), none, .simple (.un .not (.tmp 177))⟩,
     ⟨(some 179), none, .simple (.move (.tmp 178))⟩,
     ⟨(some 180), (some (179, false)), .simple (.fieldAddr 1 (.tmp 10))⟩,
     ⟨(some 181), (some (179, false)), .simple (.load none (.tmp 180))⟩,
     ⟨(some 182), (some (179, false)), .call (.func 23) [(.tmp 181), (.const (.int .i64 1)), (.const (.int .i64 6))]⟩,
     ⟨(some 183), (some (179, false)), .simple (.un .not (.tmp 182))⟩,
     ⟨(some 184), none, .simple (.pick (.tmp 179) (.const (.bool true)) (.tmp 183))⟩,
     ⟨(some 185), none, .simple (.move (.tmp 184))⟩,
     ⟨(some 186), (some (185, false)), .simple (.fieldAddr 2 (.tmp 10))⟩,
     ⟨(some 187), (some (185, false)), .simple (.load none (.tmp 186))⟩,
     ⟨(some 188), (some (185, false)), .call (.func 23) [(.tmp 187), (.const (.int .i64 1)), (.const (.int .i64 4))]⟩,
     ⟨(some 189), (some (185, false)), .simple (.un .not (.tmp 188))⟩,
     ⟨(some 190), none, .simple (.pick (.tmp 185) (.const (.bool true)) (.tmp 189))⟩] (some [1, 9, 10, 190]))
   (.cond (.tmp 190)
    (.seq (.region [
      ⟨(some 2), none, .simple (.move (.const (.int .i64 1)))⟩] (some [2]))
    .ret)
    .skip))
   (.region [
     ⟨(some 191), none, .simple (.fieldAddr 0 (.tmp 10))⟩,
     ⟨(some 192), none, .simple (.load none (.tmp 191))⟩,
     ⟨(some 8), none, .simple (.move (.tmp 192))⟩] (some [1, 8, 9])))))
  (.region [
    ⟨(some 166), none, .simple (.move (.tmp 9))⟩,
    ⟨(some 167), none, .simple (.bin .add (.tmp 166) (.const (.int .i64 1)))⟩,
    ⟨(some 9), none, .simple (.move (.tmp 167))⟩] (some [1, 8, 9])))))))
(.seq (.seq (.region [
  ⟨(some 11), none, .simple (.move (.const (.int .i64 0)))⟩] (some [1, 11]))
(.block 8 (.loop (.seq (.seq (.region [
    ⟨(some 193), none, .simple (.move (.tmp 11))⟩,
    ⟨(some 194), none, .simple (.fieldAddr 5 (.tmp 1))⟩,
    ⟨(some 195), none, .simple (.load none (.tmp 194))⟩,
    ⟨(some 196), none, .simple (.len (.tmp 195))⟩,
    ⟨(some 197), none, .simple (.bin .lss (.tmp 193) (.tmp 196))⟩] (some [1, 11, 197]))
  (.cond (.tmp 197)
   .skip
   (.exit 8)))
  (.seq (.block 9 (.seq (.region [
     ⟨(some 200), none, .simple (.fieldAddr 5 (.tmp 1))⟩,
     ⟨(some 201), none, .simple (.load none (.tmp 200))⟩,
     ⟨(some 202), none, .simple (.move (.tmp 11))⟩,
     ⟨(some 203), none, .simple (.indexS 2 (.tmp 201) (.tmp 202))⟩,
     ⟨(some 204), none, .simple (.load (some 2) (.tmp 203))⟩,
     ⟨(some 205), none, .call (.func 43) [(.tmp 204)]⟩,
     ⟨(some 206), none, .simple (.un .not (.tmp 205))⟩] (some [1, 11, 206]))
   (.cond (.tmp 206)
    (.seq (.region [
      ⟨(some 2), none, .simple (.move (.const (.int .i64 1)))⟩] (some [2]))
    .ret)
    .skip)))
  (.region [
    ⟨(some 198), none, .simple (.move (.tmp 11))⟩,
    ⟨(some 199), none, .simple (.bin .add (.tmp 198) (.const (.int .i64 1)))⟩,
    ⟨(some 11), none, .simple (.move (.tmp 199))⟩] (some [1, 11])))))))
(.seq (.region [
  ⟨(some 2), none, .simple (.move (.const (.int .i64 0)))⟩] (some [2]))
.ret))))))))))
theorem k69 : Try.f69.body.bind (compC Try.prog G69) = some c69 := by kernel_rfl
theorem e69 : compRes Try.prog Try.f69.results.toList = some r69 := by kernel_rfl
def G81 : Cfg := ⟨[], [(0, [1, 2]), (1, [1, 2, 5]), (2, [1, 2, 5, 10]), (4, [1, 2, 5, 26]), (5, [4]), (3, [1, 2, 5]), (6, [4])], 27, []⟩
def r81 : List CRes := [.tmp 4]
def c81 : CCode :=
(.seq (.region [
  ⟨(some 2), none, .simple (.box false (.tmp 0))⟩,
  ⟨(some 4), none, .simple (.move (.const (.bool false)))⟩] (some [1, 2]))
(.seq (.seq (.region [
  ⟨(some 5), none, .simple (.move (.const (.int .i64 0)))⟩] (some [1, 2, 5]))
(.block 0 (.loop (.seq (.seq (.region [
    ⟨(some 6), none, .simple (.move (.tmp 5))⟩,
    ⟨(some 7), none, .simple (.fieldAddr 5 (.tmp 2))⟩,
    ⟨(some 8), none, .simple (.load none (.tmp 7))⟩,
    ⟨(some 9), none, .simple (.len (.tmp 8))⟩,
    ⟨(some 10), none, .simple (.bin .lss (.tmp 6) (.tmp 9))⟩] (some [1, 2, 5, 10]))
  (.cond (.tmp 10)
   .skip
   (.exit 0)))
  (.seq (.block 1 (.seq (.region [
     ⟨(some 13), none, .simple (.move (.tmp 1))⟩,
     ⟨(some 14), none, .simple (.fieldAddr 5 (.tmp 2))⟩,
     ⟨(some 15), none, .simple (.load none (.tmp 14))⟩,
     ⟨(some 16), none, .simple (.move (.tmp 5))⟩,
     ⟨(some 17), none, .simple (.indexS 2 (.tmp 15) (.tmp 16))⟩,
     ⟨(some 18), none, .simple (.fieldAddr 0 (.tmp 17))⟩,
     ⟨(some 19), none, .simple (.load none (.tmp 18))⟩,
     ⟨(some 20), none, .simple (.fieldAddr 5 (.tmp 2))⟩,
     ⟨(some 21), none, .simple (.load none (.tmp 20))⟩,
     ⟨(some 22), none, .simple (.move (.tmp 5))⟩,
     ⟨(some 23), none, .simple (.indexS 2 (.tmp 21) (.tmp 22))⟩,
     ⟨(some 24), none, .simple (.fieldAddr 1 (.tmp 23))⟩,
     ⟨(some 25), none, .simple (.load none (.tmp 24))⟩,
     ⟨(some 26), none, .call (.func 23) [(.tmp 13), (.tmp 19), (.tmp 25)]⟩] (some [1, 2, 5, 26]))
   (.cond (.tmp 26)
    (.seq (.region [
      ⟨(some 4), none, .simple (.move (.const (.bool false)))⟩] (some [4]))
    .ret)
    .skip)))
  (.region [
    ⟨(some 11), none, .simple (.move (.tmp 5))⟩,
    ⟨(some 12), none, .simple (.bin .add (.tmp 11) (.const (.int .i64 1)))⟩,
    ⟨(some 5), none, .simple (.move (.tmp 12))⟩] (some [1, 2, 5])))))))
(.seq (.region [
  ⟨(some 4), none, .simple (.move (.const (.bool true)))⟩] (some [4]))
.ret)))
theorem k81 : Try.f81.body.bind (compC Try.prog G81) = some c81 := by kernel_rfl
theorem e81 : compRes Try.prog Try.f81.results.toList = some r81 := by kernel_rfl
end Go.Proofs.Ytdnefcjbcieecaa
namespace Go.Proofs.Ytdnefcjbcieecaa
open Go Go.Proofs
def G18 : Cfg := ⟨[], [(0, []), (1, [1, 2]), (2, [1, 2, 3, 4, 5]), (3, [1, 2, 3, 4, 5, 6, 7]), (4, [1, 2, 3, 4, 5, 6, 7, 8, 9]), (5, [1, 2, 3, 4, 5, 6, 7, 8, 9, 10, 11]), (6, [1, 2, 3, 4, 5, 6, 7, 8, 9, 10, 11, 12, 13, 14, 15]), (7, [1, 2, 3, 4, 5, 6, 7, 8, 9, 10, 11, 12, 13, 14, 15, 16, 17]), (8, [0])], 156, []⟩
def r18 : List CRes := [.tmp 0]
def c18 : CCode :=
(.seq (.region [
  ⟨(some 0), none, .simple (.move (.const (.bool false)))⟩] (some []))
(.seq (.region [
  ⟨(some 19), none, .call (.func 53) [(.const (.int .i64 4))]⟩,
  ⟨(some 20), none, .call (.func 50) [(.tmp 19), (.const (.int .i64 5))]⟩,
  ⟨(some 18), none, .simple (.move (.tmp 20))⟩,
  ⟨(some 21), none, .simple (.extract (.tmp 18) 0)⟩,
  ⟨(some 22), none, .simple (.extract (.tmp 18) 1)⟩,
  ⟨(some 1), none, .simple (.move (.tmp 21))⟩,
  ⟨(some 2), none, .simple (.move (.tmp 22))⟩] (some [1, 2]))
(.seq (.region [
  ⟨(some 24), none, .call (.func 53) [(.const (.int .i64 4))]⟩,
  ⟨(some 25), none, .call (.func 54) [(.const (.int .i64 2)), (.const (.int .i64 4))]⟩,
  ⟨(some 26), none, .call (.func 19) [(.tmp 24), (.tmp 25), (.const (.int .i64 4))]⟩,
  ⟨(some 23), none, .simple (.move (.tmp 26))⟩,
  ⟨(some 27), none, .simple (.extract (.tmp 23) 0)⟩,
  ⟨(some 28), none, .simple (.extract (.tmp 23) 1)⟩,
  ⟨(some 29), none, .simple (.extract (.tmp 23) 2)⟩,
  ⟨(some 3), none, .simple (.move (.tmp 27))⟩,
  ⟨(some 4), none, .simple (.move (.tmp 28))⟩,
  ⟨(some 5), none, .simple (.move (.tmp 29))⟩] (some [1, 2, 3, 4, 5]))
(.seq (.region [
  ⟨(some 31), none, .call (.func 53) [(.const (.int .i64 4))]⟩,
  ⟨(some 32), none, .call (.func 54) [(.const (.int .i64 2)), (.const (.int .i64 5))]⟩,
  ⟨(some 33), none, .call (.func 25) [(.tmp 31), (.tmp 32), (.const (.int .i64 0))]⟩,
  ⟨(some 30), none, .simple (.move (.tmp 33))⟩,
  ⟨(some 34), none, .simple (.extract (.tmp 30) 0)⟩,
  ⟨(some 35), none, .simple (.extract (.tmp 30) 1)⟩,
  ⟨(some 6), none, .simple (.move (.tmp 34))⟩,
  ⟨(some 7), none, .simple (.move (.tmp 35))⟩] (some [1, 2, 3, 4, 5, 6, 7]))
(.seq (.region [
  ⟨(some 37), none, .call (.func 53) [(.const (.int .i64 4))]⟩,
  ⟨(some 38), none, .call (.func 54) [(.const (.int .i64 3)), (.const (.int .i64 4))]⟩,
  ⟨(some 39), none, .call (.func 26) [(.tmp 37), (.tmp 38), (.const (.int .i64 0))]⟩,
  ⟨(some 36), none, .simple (.move (.tmp 39))⟩,
  ⟨(some 40), none, .simple (.extract (.tmp 36) 0)⟩,
  ⟨(some 41), none, .simple (.extract (.tmp 36) 1)⟩,
  ⟨(some 8), none, .simple (.move (.tmp 40))⟩,
  ⟨(some 9), none, .simple (.move (.tmp 41))⟩] (some [1, 2, 3, 4, 5, 6, 7, 8, 9]))
(.seq (.region [
  ⟨(some 43), none, .call (.func 53) [(.const (.int .i64 4))]⟩,
  ⟨(some 44), none, .call (.func 54) [(.const (.int .i64 2)), (.const (.int .i64 5))]⟩,
  ⟨(some 45), none, .call (.func 27) [(.tmp 43), (.tmp 44), (.const (.int .i64 0))]⟩,
  ⟨(some 42), none, .simple (.move (.tmp 45))⟩,
  ⟨(some 46), none, .simple (.extract (.tmp 42) 0)⟩,
  ⟨(some 47), none, .simple (.extract (.tmp 42) 1)⟩,
  ⟨(some 10), none, .simple (.move (.tmp 46))⟩,
  ⟨(some 11), none, .simple (.move (.tmp 47))⟩] (some [1, 2, 3, 4, 5, 6, 7, 8, 9, 10, 11]))
(.seq (.region [
  ⟨(some 49), none, .call (.func 53) [(.const (.int .i64 4))]⟩,
  ⟨(some 50), none, .call (.func 33) [(.tmp 49), (.const (.int .i64 0))]⟩,
  ⟨(some 48), none, .simple (.move (.tmp 50))⟩,
  ⟨(some 51), none, .simple (.extract (.tmp 48) 0)⟩,
  ⟨(some 52), none, .simple (.extract (.tmp 48) 1)⟩,
  ⟨(some 53), none, .simple (.extract (.tmp 48) 2)⟩,
  ⟨(some 54), none, .simple (.extract (.tmp 48) 3)⟩,
  ⟨(some 12), none, .simple (.move (.tmp 51))⟩,
  ⟨(some 13), none, .simple (.move (.tmp 52))⟩,
  ⟨(some 14), none, .simple (.move (.tmp 53))⟩,
  ⟨(some 15), none, .simple (.move (.tmp 54))⟩] (some [1, 2, 3, 4, 5, 6, 7, 8, 9, 10, 11, 12, 13, 14, 15]))
(.seq (.region [
  ⟨(some 56), none, .call (.func 53) [(.const (.int .i64 11))]⟩,
  ⟨(some 57), none, .call (.func 38) [(.tmp 56)]⟩,
  ⟨(some 55), none, .simple (.move (.tmp 57))⟩,
  ⟨(some 58), none, .simple (.extract (.tmp 55) 0)⟩,
  ⟨(some 59), none, .simple (.extract (.tmp 55) 1)⟩,
  ⟨(some 16), none, .simple (.move (.tmp 58))⟩,
  ⟨(some 17), none, .simple (.move (.tmp 59))⟩] (some [1, 2, 3, 4, 5, 6, 7, 8, 9, 10, 11, 12, 13, 14, 15, 16, 17]))
(.seq (.region [
  ⟨(some 60), none, .simple (.move (.tmp 2))⟩,
  ⟨(some 61), none, .simple (.bin .eql (.tmp 60) (.const (.int .i64 0)))⟩,
  ⟨(some 62), none, .simple (.move (.tmp 61))⟩,
  ⟨(some 63), (some (62, true)), .simple (.move (.tmp 1))⟩,
  ⟨(some 64), (some (62, true)), .simple (.bin .eql (.tmp 63) (.const (.int .i64 7)))⟩,
  ⟨(some 65), none, .simple (.pick (.tmp 62) (.tmp 64) (.const (.bool false)))⟩,
  ⟨(some 66), none, .simple (.move (.tmp 65))⟩,
  ⟨(some 67), (some (66, true)), .simple (.move (.tmp 5))⟩,
  ⟨(some 68), (some (66, true)), .simple (.bin .eql (.tmp 67) (.const (.int .i64 0)))⟩,
  ⟨(some 69), none, .simple (.pick (.tmp 66) (.tmp 68) (.const (.bool false)))⟩,
  ⟨(some 70), none, .simple (.move (.tmp 69))⟩,
  ⟨(some 71), (some (70, true)), .simple (.move (.tmp 3))⟩,
  ⟨(some 72), (some (70, true)), .simple (.bslice false 3 1 2 [(.int .i64 0), (.int .i64 0)] [(0, (.const (.int .i64 9))), (1, (.const (.int .i64 6)))])⟩,
  ⟨(some 73), (some (70, true)), .call (.func 28) [(.tmp 71), (.tmp 72)]⟩,
  ⟨(some 74), none, .simple (.pick (.tmp 70) (.tmp 73) (.const (.bool false)))⟩,
  ⟨(some 75), none, .simple (.move (.tmp 74))⟩,
  ⟨(some 76), (some (75, true)), .simple (.move (.tmp 4))⟩,
  ⟨(some 77), (some (75, true)), .simple (.bslice false 3 1 2 [(.int .i64 0), (.int .i64 0)] [(0, (.const (.int .i64 0))), (1, (.const (.int .i64 0)))])⟩,
  ⟨(some 78), (some (75, true)), .call (.func 28) [(.tmp 76), (.tmp 77)]⟩,
  ⟨(some 79), none, .simple (.pick (.tmp 75) (.tmp 78) (.const (.bool false)))⟩,
  ⟨(some 80), none, .simple (.move (.tmp 79))⟩,
  ⟨(some 81), (some (80, true)), .simple (.move (.tmp 7))⟩,
  ⟨(some 82), (some (80, true)), .simple (.bin .eql (.tmp 81) (.const (.int .i64 0)))⟩,
  ⟨(some 83), none, .simple (.pick (.tmp 80) (.tmp 82) (.const (.bool false)))⟩,
  ⟨(some 84), none, .simple (.move (.tmp 83))⟩,
  ⟨(some 85), (some (84, true)), .simple (.move (.tmp 6))⟩,
  ⟨(some 86), (some (84, true)), .simple (.bslice false 3 1 2 [(.int .i64 0), (.int .i64 0)] [(0, (.const (.int .i64 54000))), (1, (.const (.int .i64 0)))])⟩,
  ⟨(some 87), (some (84, true)), .call (.func 28) [(.tmp 85), (.tmp 86)]⟩,
  ⟨(some 88), none, .simple (.pick (.tmp 84) (.tmp 87) (.const (.bool false)))⟩,
  ⟨(some 89), none, .simple (.move (.tmp 88))⟩,
  ⟨(some 90), (some (89, true)), .simple (.move (.tmp 9))⟩,
  ⟨(some 91), (some (89, true)), .simple (.bin .eql (.tmp 90) (.const (.int .i64 0)))⟩,
  ⟨(some 92), none, .simple (.pick (.tmp 89) (.tmp 91) (.const (.bool false)))⟩,
  ⟨(some 93), none, .simple (.move (.tmp 92))⟩,
  ⟨(some 94), (some (93, true)), .simple (.move (.tmp 8))⟩,
  ⟨(some 95), (some (93, true)), .simple (.bslice false 3 1 1 [(.int .i64 0)] [(0, (.const (.int .i64 (-21600))))])⟩,
  ⟨(some 96), (some (93, true)), .call (.func 28) [(.tmp 94), (.tmp 95)]⟩,
  ⟨(some 97), none, .simple (.pick (.tmp 93) (.tmp 96) (.const (.bool false)))⟩,
  ⟨(some 98), none, .simple (.move (.tmp 97))⟩,
  ⟨(some 99), (some (98, true)), .simple (.move (.tmp 11))⟩,
  ⟨(some 100), (some (98, true)), .simple (.bin .eql (.tmp 99) (.const (.int .i64 0)))⟩,
  ⟨(some 101), none, .simple (.pick (.tmp 98) (.tmp 100) (.const (.bool false)))⟩,
  ⟨(some 102), none, .simple (.move (.tmp 101))⟩,
  ⟨(some 103), (some (102, true)), .simple (.move (.tmp 10))⟩,
  ⟨(some 104), (some (102, true)), .simple (.bslice false 3 1 2 [(.int .i64 0), (.int .i64 0)] [(0, (.const (.int .i64 32400))), (1, (.const (.int .i64 21600)))])⟩,
  ⟨(some 105), (some (102, true)), .call (.func 28) [(.tmp 103), (.tmp 104)]⟩,
  ⟨(some 106), none, .simple (.pick (.tmp 102) (.tmp 105) (.const (.bool false)))⟩,
  ⟨(some 107), none, .simple (.move (.tmp 106))⟩,
  ⟨(some 108), (some (107, true)), .simple (.move (.tmp 15))⟩,
  ⟨(some 109), (some (107, true)), .simple (.bin .eql (.tmp 108) (.const (.int .i64 0)))⟩,
  ⟨(some 110), none, .simple (.pick (.tmp 107) (.tmp 109) (.const (.bool false)))⟩,
  ⟨(some 111), none, .simple (.move (.tmp 110))⟩,
  ⟨(some 112), (some (111, true)), .simple (.move (.tmp 12))⟩,
  ⟨(some 113), (some (111, true)), .simple (.len (.tmp 112))⟩,
  ⟨(some 114), (some (111, true)), .simple (.bin .eql (.tmp 113) (.const (.int .i64 2)))⟩,
  ⟨(some 115), none, .simple (.pick (.tmp 111) (.tmp 114) (.const (.bool false)))⟩,
  ⟨(some 116), none, .simple (.move (.tmp 115))⟩,
  ⟨(some 117), (some (116, true)), .simple (.move (.tmp 12))⟩,
  ⟨(some 118), (some (116, true)), .simple (.indexS 2 (.tmp 117) (.const (.int .i64 0)))⟩,
  ⟨(some 119), (some (116, true)), .simple (.load (some 2) (.tmp 118))⟩,
  ⟨(some 120), (some (116, true)), .callx (.func 55) [(.const (.int .i64 32400)), (.const (.int .i64 54000))]⟩,
  ⟨(some 121), (some (116, true)), .simple (.eqA false [(.int .i64), (.int .i64)] (.tmp 119) (.tmp 120))⟩,
  ⟨(some 122), none, .simple (.pick (.tmp 116) (.tmp 121) (.const (.bool false)))⟩,
  ⟨(some 123), none, .simple (.move (.tmp 122))⟩,
  ⟨(some 124), (some (123, true)), .simple (.move (.tmp 13))⟩,
  ⟨(some 125), (some (123, true)), .simple (.len (.tmp 124))⟩,
  ⟨(some 126), (some (123, true)), .simple (.bin .eql (.tmp 125) (.const (.int .i64 1)))⟩,
  ⟨(some 127), none, .simple (.pick (.tmp 123) (.tmp 126) (.const (.bool false)))⟩,
  ⟨(some 128), none, .simple (.move (.tmp 127))⟩,
  ⟨(some 129), (some (128, true)), .simple (.move (.tmp 13))⟩,
  ⟨(some 130), (some (128, true)), .simple (.indexS 2 (.tmp 129) (.const (.int .i64 0)))⟩,
  ⟨(some 131), (some (128, true)), .simple (.load (some 2) (.tmp 130))⟩,
  ⟨(some 132), (some (128, true)), .callx (.func 55) [(.const (.int .i64 (-21600))), (.const (.int .i64 21600))]⟩,
  ⟨(some 133), (some (128, true)), .simple (.eqA false [(.int .i64), (.int .i64)] (.tmp 131) (.tmp 132))⟩,
  ⟨(some 134), none, .simple (.pick (.tmp 128) (.tmp 133) (.const (.bool false)))⟩,
  ⟨(some 135), none, .simple (.move (.tmp 134))⟩,
  ⟨(some 136), (some (135, true)), .simple (.move (.tmp 14))⟩,
  ⟨(some 137), (some (135, true)), .simple (.len (.tmp 136))⟩,
  ⟨(some 138), (some (135, true)), .simple (.bin .eql (.tmp 137) (.const (.int .i64 2)))⟩,
  ⟨(some 139), none, .simple (.pick (.tmp 135) (.tmp 138) (.const (.bool false)))⟩,
  ⟨(some 140), none, .simple (.move (.tmp 139))⟩,
  ⟨(some 141), (some (140, true)), .simple (.move (.tmp 14))⟩,
  ⟨(some 142), (some (140, true)), .simple (.indexS 2 (.tmp 141) (.const (.int .i64 1)))⟩,
  ⟨(some 143), (some (140, true)), .simple (.load (some 2) (.tmp 142))⟩,
  ⟨(some 144), (some (140, true)), .callx (.func 55) [(.const (.int .i64 0)), (.const (.int .i64 21600))]⟩,
  ⟨(some 145), (some (140, true)), .simple (.eqA false [(.int .i64), (.int .i64)] (.tmp 143) (.tmp 144))⟩,
  ⟨(some 146), none, .simple (.pick (.tmp 140) (.tmp 145) (.const (.bool false)))⟩,
  ⟨(some 147), none, .simple (.move (.tmp 146))⟩,
  ⟨(some 148), (some (147, true)), .simple (.move (.tmp 17))⟩,
  ⟨(some 149), (some (147, true)), .simple (.bin .eql (.tmp 148) (.const (.int .i64 0)))⟩,
  ⟨(some 150), none, .simple (.pick (.tmp 147) (.tmp 149) (.const (.bool false)))⟩,
  ⟨(some 151), none, .simple (.move (.tmp 150))⟩,
  ⟨(some 152), (some (151, true)), .simple (.move (.tmp 16))⟩,
  ⟨(some 153), (some (151, true)), .simple (.bslice false 3 1 1 [(.int .i64 0)] [(0, (.const (.int .i64 0)))])⟩,
  ⟨(some 154), (some (151, true)), .call (.func 28) [(.tmp 152), (.tmp 153)]⟩,
  ⟨(some 155), none, .simple (.pick (.tmp 151) (.tmp 154) (.const (.bool false)))⟩,
  ⟨(some 0), none, .simple (.move (.tmp 155))⟩] (some [0]))
.ret)))))))))
theorem k18 : Try.f18.body.bind (compC Try.prog G18) = some c18 := by kernel_rfl
theorem e18 : compRes Try.prog Try.f18.results.toList = some r18 := by kernel_rfl
def F18 : FunX := ⟨false, G18, c18, r18⟩
theorem o18 : FunOk Try.prog 18 F18 := ⟨Try.f18, by kernel_rfl, k18, e18, by kernel_rfl, by kernel_rfl⟩
def G19 : Cfg := ⟨[46, 41, 10], [(0, [2, 3, 4, 6, 7]), (1, [2, 3, 4, 6, 7, 8, 9]), (2, [2, 3, 4, 6, 7, 8, 9, 20]), (3, [6, 7, 8]), (4, [2, 3, 4, 6, 7, 9, 24]), (5, [6, 7, 8]), (6, [3, 6, 7, 10]), (7, [6, 7, 31, 32, 33]), (8, [6, 7, 31, 32, 33, 34]), (9, [6, 7, 12, 31, 32, 33]), (10, [6, 7, 31, 32, 33]), (11, [6, 7, 31, 32, 33]), (12, [6, 7, 8])], 50, [(7, [(10, none)])]⟩
def r19 : List CRes := [.tmp 6, .tmp 7, .tmp 8]
def c19 : CCode :=
(.seq (.region [
  ⟨(some 3), none, .simple (.box false (.tmp 0))⟩,
  ⟨(some 4), none, .simple (.box false (.tmp 1))⟩,
  ⟨(some 6), none, .simple (.move (.const (.slice none 0 0)))⟩,
  ⟨(some 7), none, .simple (.move (.const (.slice none 0 0)))⟩,
  ⟨(some 8), none, .simple (.move (.const (.int .i64 0)))⟩] (some [2, 3, 4, 6, 7]))
(.seq (.region [
  ⟨(some 14), none, .simple (.load (some 6) (.tmp 3))⟩,
  ⟨(some 15), none, .simple (.load (some 2) (.tmp 4))⟩,
  ⟨(some 16), none, .call (.func 58) [(.tmp 14), (.tmp 15)]⟩,
  ⟨(some 13), none, .simple (.move (.tmp 16))⟩,
  ⟨(some 17), none, .simple (.extract (.tmp 13) 0)⟩,
  ⟨(some 18), none, .simple (.extract (.tmp 13) 1)⟩,
  ⟨(some 9), none, .simple (.move (.tmp 17))⟩,
  ⟨(some 8), none, .simple (.move (.tmp 18))⟩] (some [2, 3, 4, 6, 7, 8, 9]))
(.seq (.seq (.region [
  ⟨(some 19), none, .simple (.move (.tmp 8))⟩,
  ⟨(some 20), none, .simple (.bin .neq (.tmp 19) (.const (.int .i64 0)))⟩] (some [2, 3, 4, 6, 7, 8, 9, 20]))
(.cond (.tmp 20)
 (.seq (.region [
   ⟨(some 21), none, .simple (.move (.tmp 8))⟩,
   ⟨(some 6), none, .simple (.move (.const (.slice none 0 0)))⟩,
   ⟨(some 7), none, .simple (.move (.const (.slice none 0 0)))⟩,
   ⟨(some 8), none, .simple (.move (.tmp 21))⟩] (some [6, 7, 8]))
 .ret)
 .skip))
(.seq (.seq (.region [
  ⟨(some 22), none, .simple (.move (.tmp 2))⟩,
  ⟨(some 23), none, .call (.func 59) [(.tmp 22)]⟩,
  ⟨(some 24), none, .simple (.un .not (.tmp 23))⟩] (some [2, 3, 4, 6, 7, 9, 24]))
(.cond (.tmp 24)
 (.seq (.region [
   ⟨(some 6), none, .simple (.move (.const (.slice none 0 0)))⟩,
   ⟨(some 7), none, .simple (.move (.const (.slice none 0 0)))⟩,
   ⟨(some 8), none, .simple (.move (.const (.int .i64 2)))⟩] (some [6, 7, 8]))
 .ret)
 .skip))
(.seq (.region [
  ⟨(some 25), none, .simple (.move (.tmp 9))⟩,
  ⟨(some 26), none, .simple (.load (some 2) (.tmp 4))⟩,
  ⟨(some 27), none, .simple (.move (.tmp 2))⟩,
  ⟨(some 28), none, .call (.func 60) [(.tmp 25), (.tmp 26), (.tmp 27)]⟩,
  ⟨(some 10), none, .simple (.alloc [(.d (.int .i64 0)), (.d (.int .i64 0)), (.d (.int .i64 0)), (.d (.int .i64 0))])⟩,
  ⟨none, none, .simple (.store 4 (.tmp 10) (.tmp 28))⟩] (some [3, 6, 7, 10]))
(.seq (.seq (.seq (.frz (10, none))
(.region [
  ⟨(some 29), none, .simple (.fieldAddr 0 (.tmp 3))⟩,
  ⟨(some 30), none, .simple (.load none (.tmp 29))⟩,
  ⟨(some 31), none, .simple (.sliceA 4 1 (.tmp 10) none (some (.tmp 30)))⟩,
  ⟨(some 32), none, .simple (.len (.tmp 31))⟩,
  ⟨(some 33), none, .simple (.move (.const (.int .i64 0)))⟩] (some [6, 7, 31, 32, 33])))
(.block 0 (.loop (.seq (.region [
    ⟨(some 34), none, .simple (.bin .lss (.tmp 33) (.tmp 32))⟩] (some [6, 7, 31, 32, 33, 34]))
  (.seq (.cond (.tmp 34)
   .skip
   (.exit 0))
  (.seq (.block 1 (.seq (.region [
     ⟨(some 35), none, .simple (.indexS 1 (.tmp 31) (.tmp 33))⟩,
     ⟨(some 36), none, .simple (.load none (.tmp 35))⟩,
     ⟨(some 12), none, .simple (.move (.tmp 36))⟩] (some [6, 7, 12, 31, 32, 33]))
   (.region [
     ⟨(some 37), none, .simple (.move (.tmp 6))⟩,
     ⟨(some 38), none, .simple (.move (.tmp 12))⟩,
     ⟨(some 39), none, .simple (.bin .quo (.tmp 38) (.const (.int .i64 720)))⟩,
     ⟨(some 40), none, .simple (.bslice false 3 1 1 [(.int .i64 0)] [(0, (.tmp 39))])⟩,
     ⟨(some 41), none, .app 3 1 8 (.tmp 37) (.tmp 40)⟩,
     ⟨(some 42), none, .simple (.move (.tmp 7))⟩,
     ⟨(some 43), none, .simple (.move (.tmp 12))⟩,
     ⟨(some 44), none, .simple (.bin .rem (.tmp 43) (.const (.int .i64 720)))⟩,
     ⟨(some 45), none, .simple (.bslice false 3 1 1 [(.int .i64 0)] [(0, (.tmp 44))])⟩,
     ⟨(some 46), none, .app 3 1 8 (.tmp 42) (.tmp 45)⟩,
     ⟨(some 6), none, .simple (.move (.tmp 41))⟩,
     ⟨(some 7), none, .simple (.move (.tmp 46))⟩] (some [6, 7, 31, 32, 33]))))
  (.region [
    ⟨(some 47), none, .simple (.bin .add (.tmp 33) (.const (.int .i64 1)))⟩,
    ⟨(some 33), none, .simple (.move (.tmp 47))⟩] (some [6, 7, 31, 32, 33]))))))))
(.seq (.region [
  ⟨(some 48), none, .simple (.move (.tmp 6))⟩,
  ⟨(some 49), none, .simple (.move (.tmp 7))⟩,
  ⟨(some 6), none, .simple (.move (.tmp 48))⟩,
  ⟨(some 7), none, .simple (.move (.tmp 49))⟩,
  ⟨(some 8), none, .simple (.move (.const (.int .i64 0)))⟩] (some [6, 7, 8]))
.ret)))))))
theorem k19 : Try.f19.body.bind (compC Try.prog G19) = some c19 := by kernel_rfl
theorem e19 : compRes Try.prog Try.f19.results.toList = some r19 := by kernel_rfl
def F19 : FunX := ⟨false, G19, c19, r19⟩
theorem o19 : FunOk Try.prog 19 F19 := ⟨Try.f19, by kernel_rfl, k19, e19, by kernel_rfl, by kernel_rfl⟩
def G25 : Cfg := ⟨[], [(0, [2, 3, 4]), (1, [6, 7])], 15, []⟩
def r25 : List CRes := [.tmp 6, .tmp 7]
def c25 : CCode :=
(.seq (.region [
  ⟨(some 3), none, .simple (.box false (.tmp 0))⟩,
  ⟨(some 4), none, .simple (.box false (.tmp 1))⟩,
  ⟨(some 6), none, .simple (.move (.const (.slice none 0 0)))⟩,
  ⟨(some 7), none, .simple (.move (.const (.int .i64 0)))⟩] (some [2, 3, 4]))
(.seq (.region [
  ⟨(some 8), none, .simple (.build [(.d .nilf)] [(0, 1, (.func 64))])⟩,
  ⟨(some 9), none, .simple (.load (some 6) (.tmp 3))⟩,
  ⟨(some 10), none, .simple (.load (some 2) (.tmp 4))⟩,
  ⟨(some 11), none, .simple (.move (.tmp 2))⟩,
  ⟨(some 12), none, .call (.func 65) [(.tmp 8), (.tmp 9), (.tmp 10), (.tmp 11)]⟩,
  ⟨(some 13), none, .simple (.extract (.tmp 12) 0)⟩,
  ⟨(some 14), none, .simple (.extract (.tmp 12) 1)⟩,
  ⟨(some 6), none, .simple (.move (.tmp 13))⟩,
  ⟨(some 7), none, .simple (.move (.tmp 14))⟩] (some [6, 7]))
.ret))
theorem k25 : Try.f25.body.bind (compC Try.prog G25) = some c25 := by kernel_rfl
theorem e25 : compRes Try.prog Try.f25.results.toList = some r25 := by kernel_rfl
def F25 : FunX := ⟨false, G25, c25, r25⟩
theorem o25 : FunOk Try.prog 25 F25 := ⟨Try.f25, by kernel_rfl, k25, e25, by kernel_rfl, by kernel_rfl⟩
def G26 : Cfg := ⟨[], [(0, [2, 3, 4]), (1, [6, 7])], 15, []⟩
def r26 : List CRes := [.tmp 6, .tmp 7]
def c26 : CCode :=
(.seq (.region [
  ⟨(some 3), none, .simple (.box false (.tmp 0))⟩,
  ⟨(some 4), none, .simple (.box false (.tmp 1))⟩,
  ⟨(some 6), none, .simple (.move (.const (.slice none 0 0)))⟩,
  ⟨(some 7), none, .simple (.move (.const (.int .i64 0)))⟩] (some [2, 3, 4]))
(.seq (.region [
  ⟨(some 8), none, .simple (.build [(.d .nilf)] [(0, 1, (.func 66))])⟩,
  ⟨(some 9), none, .simple (.load (some 6) (.tmp 3))⟩,
  ⟨(some 10), none, .simple (.load (some 2) (.tmp 4))⟩,
  ⟨(some 11), none, .simple (.move (.tmp 2))⟩,
  ⟨(some 12), none, .call (.func 65) [(.tmp 8), (.tmp 9), (.tmp 10), (.tmp 11)]⟩,
  ⟨(some 13), none, .simple (.extract (.tmp 12) 0)⟩,
  ⟨(some 14), none, .simple (.extract (.tmp 12) 1)⟩,
  ⟨(some 6), none, .simple (.move (.tmp 13))⟩,
  ⟨(some 7), none, .simple (.move (.tmp 14))⟩] (some [6, 7]))
.ret))
theorem k26 : Try.f26.body.bind (compC Try.prog G26) = some c26 := by kernel_rfl
theorem e26 : compRes Try.prog Try.f26.results.toList = some r26 := by kernel_rfl
def F26 : FunX := ⟨false, G26, c26, r26⟩
theorem o26 : FunOk Try.prog 26 F26 := ⟨Try.f26, by kernel_rfl, k26, e26, by kernel_rfl, by kernel_rfl⟩
def G27 : Cfg := ⟨[], [(0, [2, 3, 4]), (1, [6, 7])], 15, []⟩
def r27 : List CRes := [.tmp 6, .tmp 7]
def c27 : CCode :=
(.seq (.region [
  ⟨(some 3), none, .simple (.box false (.tmp 0))⟩,
  ⟨(some 4), none, .simple (.box false (.tmp 1))⟩,
  ⟨(some 6), none, .simple (.move (.const (.slice none 0 0)))⟩,
  ⟨(some 7), none, .simple (.move (.const (.int .i64 0)))⟩] (some [2, 3, 4]))
(.seq (.region [
  ⟨(some 8), none, .simple (.build [(.d .nilf)] [(0, 1, (.func 67))])⟩,
  ⟨(some 9), none, .simple (.load (some 6) (.tmp 3))⟩,
  ⟨(some 10), none, .simple (.load (some 2) (.tmp 4))⟩,
  ⟨(some 11), none, .simple (.move (.tmp 2))⟩,
  ⟨(some 12), none, .call (.func 65) [(.tmp 8), (.tmp 9), (.tmp 10), (.tmp 11)]⟩,
  ⟨(some 13), none, .simple (.extract (.tmp 12) 0)⟩,
  ⟨(some 14), none, .simple (.extract (.tmp 12) 1)⟩,
  ⟨(some 6), none, .simple (.move (.tmp 13))⟩,
  ⟨(some 7), none, .simple (.move (.tmp 14))⟩] (some [6, 7]))
.ret))
theorem k27 : Try.f27.body.bind (compC Try.prog G27) = some c27 := by kernel_rfl
theorem e27 : compRes Try.prog Try.f27.results.toList = some r27 := by kernel_rfl
def F27 : FunX := ⟨false, G27, c27, r27⟩
theorem o27 : FunOk Try.prog 27 F27 := ⟨Try.f27, by kernel_rfl, k27, e27, by kernel_rfl, by kernel_rfl⟩
def G28 : Cfg := ⟨[], [(0, [0, 1]), (1, [4])], 22, []⟩
def r28 : List CRes := [.tmp 4]
def c28 : CCode :=
(.seq (.region [
  ⟨(some 4), none, .simple (.move (.const (.bool false)))⟩] (some [0, 1]))
(.seq (.region [
  ⟨(some 5), none, .simple (.move (.tmp 0))⟩,
  ⟨(some 6), none, .simple (.len (.tmp 5))⟩,
  ⟨(some 7), none, .simple (.move (.tmp 1))⟩,
  ⟨(some 8), none, .simple (.len (.tmp 7))⟩,
  ⟨(some 9), none, .simple (.bin .eql (.tmp 6) (.tmp 8))⟩,
  ⟨(some 10), none, .simple (.move (.tmp 9))⟩,
  ⟨(some 11), (some (10, true)), .simple (.move (.tmp 0))⟩,
  ⟨(some 12), (some (10, true)), .simple (.move (.tmp 1))⟩,
  ⟨(some 13), (some (10, true)), .call (.func 68) [(.tmp 11), (.tmp 12)]⟩,
  ⟨(some 14), (some (10, true)), .simple (.un .not (.tmp 13))⟩,
  ⟨(some 15), none, .simple (.pick (.tmp 10) (.tmp 14) (.const (.bool false)))⟩,
  ⟨(some 16), none, .simple (.move (.tmp 15))⟩,
  ⟨(some 17), (some (16, true)), .simple (.move (.tmp 1))⟩,
  ⟨(some 18), (some (16, true)), .simple (.move (.tmp 0))⟩,
  ⟨(some 19), (some (16, true)), .call (.func 68) [(.tmp 17), (.tmp 18)]⟩,
  ⟨(some 20), (some (16, true)), .simple (.un .not (.tmp 19))⟩,
  ⟨(some 21), none, .simple (.pick (.tmp 16) (.tmp 20) (.const (.bool false)))⟩,
  ⟨(some 4), none, .simple (.move (.tmp 21))⟩] (some [4]))
.ret))
theorem k28 : Try.f28.body.bind (compC Try.prog G28) = some c28 := by kernel_rfl
theorem e28 : compRes Try.prog Try.f28.results.toList = some r28 := by kernel_rfl
def F28 : FunX := ⟨false, G28, c28, r28⟩
theorem o28 : FunOk Try.prog 28 F28 := ⟨Try.f28, by kernel_rfl, k28, e28, by kernel_rfl, by kernel_rfl⟩
def G33 : Cfg := ⟨[10], [(0, [1, 2]), (1, [1, 2, 8]), (2, [1, 2, 8, 15]), (3, [4, 5, 6, 7]), (4, [1, 2, 23]), (5, [4, 5, 6, 7]), (6, [9, 10]), (7, [4, 9, 10, 11]), (8, [4, 9, 10, 39]), (9, [4, 5, 6, 7]), (10, [4, 5, 9, 10]), (11, [4, 5, 6]), (12, [4, 5, 6, 7])], 57, []⟩
def r33 : List CRes := [.tmp 4, .tmp 5, .tmp 6, .tmp 7]
def c33 : CCode :=
(.seq (.region [
  ⟨(some 2), none, .simple (.box false (.tmp 0))⟩,
  ⟨(some 4), none, .simple (.move (.const (.slice none 0 0)))⟩,
  ⟨(some 5), none, .simple (.move (.const (.slice none 0 0)))⟩,
  ⟨(some 6), none, .simple (.move (.const (.slice none 0 0)))⟩,
  ⟨(some 7), none, .simple (.move (.const (.int .i64 0)))⟩] (some [1, 2]))
(.seq (.seq (.region [
  ⟨(some 12), none, .simple (.load (some 6) (.tmp 2))⟩,
  ⟨(some 13), none, .call (.func 52) [(.tmp 12)]⟩,
  ⟨(some 8), none, .simple (.move (.tmp 13))⟩] (some [1, 2, 8]))
(.seq (.region [
  ⟨(some 14), none, .simple (.move (.tmp 8))⟩,
  ⟨(some 15), none, .simple (.bin .neq (.tmp 14) (.const (.int .i64 0)))⟩] (some [1, 2, 8, 15]))
(.cond (.tmp 15)
 (.seq (.region [
   ⟨(some 16), none, .simple (.move (.tmp 8))⟩,
   ⟨(some 4), none, .simple (.move (.const (.slice none 0 0)))⟩,
   ⟨(some 5), none, .simple (.move (.const (.slice none 0 0)))⟩,
   ⟨(some 6), none, .simple (.move (.const (.slice none 0 0)))⟩,
   ⟨(some 7), none, .simple (.move (.tmp 16))⟩] (some [4, 5, 6, 7]))
 .ret)
 .skip)))
(.seq (.seq (.region [
  ⟨(some 17), none, .simple (.move (.tmp 1))⟩,
  ⟨(some 18), none, .simple (.fieldAddr 3 (.tmp 2))⟩,
  ⟨(some 19), none, .simple (.load none (.tmp 18))⟩,
  ⟨(some 20), none, .simple (.len (.tmp 19))⟩,
  ⟨(some 21), none, .simple (.bin .sub (.tmp 20) (.const (.int .i64 1)))⟩,
  ⟨(some 22), none, .call (.func 71) [(.tmp 17), (.const (.int .i64 0)), (.tmp 21)]⟩,
  ⟨(some 23), none, .simple (.un .not (.tmp 22))⟩] (some [1, 2, 23]))
(.cond (.tmp 23)
 (.seq (.region [
   ⟨(some 4), none, .simple (.move (.const (.slice none 0 0)))⟩,
   ⟨(some 5), none, .simple (.move (.const (.slice none 0 0)))⟩,
   ⟨(some 6), none, .simple (.move (.const (.slice none 0 0)))⟩,
   ⟨(some 7), none, .simple (.move (.const (.int .i64 2)))⟩] (some [4, 5, 6, 7]))
 .ret)
 .skip))
(.seq (.seq (.region [
  ⟨(some 24), none, .simple (.load (some 6) (.tmp 2))⟩,
  ⟨(some 26), none, .simple (.fieldAddr 3 (.tmp 2))⟩,
  ⟨(some 27), none, .simple (.load none (.tmp 26))⟩,
  ⟨(some 28), none, .simple (.move (.tmp 1))⟩,
  ⟨(some 29), none, .simple (.indexS 3 (.tmp 27) (.tmp 28))⟩,
  ⟨(some 30), none, .simple (.load (some 3) (.tmp 29))⟩] none)
(.both (.region [
   ⟨(some 25), none, .callx (.func 72) [(.tmp 24)]⟩,
   ⟨(some 10), none, .simple (.alloc [(.d (.int .i64 0)), (.d (.int .i64 0)), (.d (.int .i64 0))])⟩,
   ⟨(some 9), none, .simple (.move (.tmp 25))⟩,
   ⟨none, none, .simple (.store 3 (.tmp 10) (.tmp 30))⟩] (some [9, 10]))
 (.region [
   ⟨(some 10), none, .simple (.alloc [(.d (.int .i64 0)), (.d (.int .i64 0)), (.d (.int .i64 0))])⟩,
   ⟨(some 25), none, .callx (.func 72) [(.tmp 24)]⟩,
   ⟨(some 9), none, .simple (.move (.tmp 25))⟩,
   ⟨none, none, .simple (.store 3 (.tmp 10) (.tmp 30))⟩] (some [9, 10]))))
(.seq (.region [
  ⟨(some 32), none, .simple (.move (.tmp 9))⟩,
  ⟨(some 33), none, .simple (.build [(.d .nilf)] [(0, 1, (.func 64))])⟩,
  ⟨(some 34), none, .simple (.load (some 3) (.tmp 10))⟩,
  ⟨(some 35), none, .call (.func 73) [(.tmp 32), (.tmp 33), (.tmp 34)]⟩,
  ⟨(some 31), none, .simple (.move (.tmp 35))⟩,
  ⟨(some 36), none, .simple (.extract (.tmp 31) 0)⟩,
  ⟨(some 37), none, .simple (.extract (.tmp 31) 1)⟩,
  ⟨(some 4), none, .simple (.move (.tmp 36))⟩,
  ⟨(some 11), none, .simple (.move (.tmp 37))⟩] (some [4, 9, 10, 11]))
(.seq (.seq (.region [
  ⟨(some 38), none, .simple (.move (.tmp 11))⟩,
  ⟨(some 39), none, .simple (.un .not (.tmp 38))⟩] (some [4, 9, 10, 39]))
(.cond (.tmp 39)
 (.seq (.region [
   ⟨(some 4), none, .simple (.move (.const (.slice none 0 0)))⟩,
   ⟨(some 5), none, .simple (.move (.const (.slice none 0 0)))⟩,
   ⟨(some 6), none, .simple (.move (.const (.slice none 0 0)))⟩,
   ⟨(some 7), none, .simple (.move (.const (.int .i64 9)))⟩] (some [4, 5, 6, 7]))
 .ret)
 .skip))
(.seq (.region [
  ⟨(some 41), none, .simple (.move (.tmp 9))⟩,
  ⟨(some 42), none, .simple (.build [(.d .nilf)] [(0, 1, (.func 66))])⟩,
  ⟨(some 43), none, .simple (.load (some 3) (.tmp 10))⟩,
  ⟨(some 44), none, .call (.func 73) [(.tmp 41), (.tmp 42), (.tmp 43)]⟩,
  ⟨(some 40), none, .simple (.move (.tmp 44))⟩,
  ⟨(some 45), none, .simple (.extract (.tmp 40) 0)⟩,
  ⟨(some 46), none, .simple (.extract (.tmp 40) 1)⟩,
  ⟨(some 5), none, .simple (.move (.tmp 45))⟩] (some [4, 5, 9, 10]))
(.seq (.region [
  ⟨(some 48), none, .simple (.move (.tmp 9))⟩,
  ⟨(some 49), none, .simple (.build [(.d .nilf)] [(0, 1, (.func 67))])⟩,
  ⟨(some 50), none, .simple (.load (some 3) (.tmp 10))⟩,
  ⟨(some 51), none, .call (.func 73) [(.tmp 48), (.tmp 49), (.tmp 50)]⟩,
  ⟨(some 47), none, .simple (.move (.tmp 51))⟩,
  ⟨(some 52), none, .simple (.extract (.tmp 47) 0)⟩,
  ⟨(some 53), none, .simple (.extract (.tmp 47) 1)⟩,
  ⟨(some 6), none, .simple (.move (.tmp 52))⟩] (some [4, 5, 6]))
(.seq (.region [
  ⟨(some 54), none, .simple (.move (.tmp 4))⟩,
  ⟨(some 55), none, .simple (.move (.tmp 5))⟩,
  ⟨(some 56), none, .simple (.move (.tmp 6))⟩,
  ⟨(some 4), none, .simple (.move (.tmp 54))⟩,
  ⟨(some 5), none, .simple (.move (.tmp 55))⟩,
  ⟨(some 6), none, .simple (.move (.tmp 56))⟩,
  ⟨(some 7), none, .simple (.move (.const (.int .i64 0)))⟩] (some [4, 5, 6, 7]))
.ret)))))))))
theorem k33 : Try.f33.body.bind (compC Try.prog G33) = some c33 := by kernel_rfl
theorem e33 : compRes Try.prog Try.f33.results.toList = some r33 := by kernel_rfl
def F33 : FunX := ⟨false, G33, c33, r33⟩
theorem o33 : FunOk Try.prog 33 F33 := ⟨Try.f33, by kernel_rfl, k33, e33, by kernel_rfl, by kernel_rfl⟩
def G38 : Cfg := ⟨[1, 5, 6], [(0, [1]), (1, [1, 4]), (2, [1, 4, 11]), (3, [2, 3]), (4, [1, 5]), (5, [1, 5, 6]), (6, [1, 5, 6]), (7, [5, 6, 17, 18]), (8, [5, 6, 17, 18, 19]), (9, [5, 6, 7, 17, 18]), (10, [5, 6, 17, 18, 23]), (11, [5, 6, 17, 18]), (12, [2, 3])], 26, []⟩
def r38 : List CRes := [.tmp 2, .tmp 3]
def c38 : CCode :=
(.seq (.region [
  ⟨(some 1), none, .simple (.box true (.tmp 0))⟩,
  ⟨(some 2), none, .simple (.move (.const (.slice none 0 0)))⟩,
  ⟨(some 3), none, .simple (.move (.const (.int .i64 0)))⟩] (some [1]))
(.seq (.seq (.region [
  ⟨(some 8), none, .simple (.load (some 6) (.tmp 1))⟩,
  ⟨(some 9), none, .call (.func 52) [(.tmp 8)]⟩,
  ⟨(some 4), none, .simple (.move (.tmp 9))⟩] (some [1, 4]))
(.seq (.region [
  ⟨(some 10), none, .simple (.move (.tmp 4))⟩,
  ⟨(some 11), none, .simple (.bin .neq (.tmp 10) (.const (.int .i64 0)))⟩] (some [1, 4, 11]))
(.cond (.tmp 11)
 (.seq (.region [
   ⟨(some 12), none, .simple (.move (.tmp 4))⟩,
   ⟨(some 2), none, .simple (.move (.const (.slice none 0 0)))⟩,
   ⟨(some 3), none, .simple (.move (.tmp 12))⟩] (some [2, 3]))
 .ret)
 .skip)))
(.seq (.region [
  ⟨(some 5), none, .simple (.alloc [(.d .nils)])⟩] (some [1, 5]))
(.seq (.region [
  ⟨(some 6), none, .simple (.alloc [(.d .nilf)])⟩] (some [1, 5, 6]))
(.seq (.region [
  ⟨(some 13), none, .simple (.mkfn (.func 75) [] [(.tmp 1), (.tmp 5), (.tmp 6)])⟩,
  ⟨none, none, .simple (.store 1 (.tmp 6) (.tmp 13))⟩] (some [1, 5, 6]))
(.seq .skip
(.seq (.seq (.region [
  ⟨(some 14), none, .simple (.fieldAddr 2 (.tmp 1))⟩,
  ⟨(some 15), none, .simple (.load none (.tmp 14))⟩,
  ⟨(some 16), none, .simple (.len (.tmp 15))⟩,
  ⟨(some 17), none, .simple (.bin .add (.tmp 16) (.const (.int .i64 1)))⟩,
  ⟨(some 18), none, .simple (.move (.const (.int .i64 0)))⟩] (some [5, 6, 17, 18]))
(.block 0 (.loop (.seq (.region [
    ⟨(some 19), none, .simple (.bin .lss (.tmp 18) (.tmp 17))⟩] (some [5, 6, 17, 18, 19]))
  (.seq (.cond (.tmp 19)
   .skip
   (.exit 0))
  (.seq (.block 1 (.seq (.region [
     ⟨(some 20), none, .simple (.move (.tmp 18))⟩,
     ⟨(some 7), none, .simple (.move (.tmp 20))⟩] (some [5, 6, 7, 17, 18]))
   (.seq (.region [
     ⟨(some 21), none, .simple (.load none (.tmp 6))⟩,
     ⟨(some 22), none, .simple (.move (.tmp 7))⟩,
     ⟨(some 23), none, .call (.tmp 21) [(.const (.slice none 0 0)), (.const (.int .i64 0)), (.tmp 22)]⟩] (some [5, 6, 17, 18, 23]))
   (.cond (.tmp 23)
    (.exit 0)
    .skip))))
  (.region [
    ⟨(some 24), none, .simple (.bin .add (.tmp 18) (.const (.int .i64 1)))⟩,
    ⟨(some 18), none, .simple (.move (.tmp 24))⟩] (some [5, 6, 17, 18]))))))))
(.seq (.region [
  ⟨(some 25), none, .simple (.load none (.tmp 5))⟩,
  ⟨(some 2), none, .simple (.move (.tmp 25))⟩,
  ⟨(some 3), none, .simple (.move (.const (.int .i64 0)))⟩] (some [2, 3]))
.ret))))))))
theorem k38 : Try.f38.body.bind (compC Try.prog G38) = some c38 := by kernel_rfl
theorem e38 : compRes Try.prog Try.f38.results.toList = some r38 := by kernel_rfl
def F38 : FunX := ⟨false, G38, c38, r38⟩
theorem o38 : FunOk Try.prog 38 F38 := ⟨Try.f38, by kernel_rfl, k38, e38, by kernel_rfl, by kernel_rfl⟩
def G50 : Cfg := ⟨[], [(0, [1, 2]), (1, [1, 2, 6]), (2, [1, 2, 6, 10]), (3, [4, 5]), (4, [1, 2, 14]), (5, [4, 5]), (6, [4, 5])], 18, []⟩
def r50 : List CRes := [.tmp 4, .tmp 5]
def c50 : CCode :=
(.seq (.region [
  ⟨(some 2), none, .simple (.box false (.tmp 0))⟩,
  ⟨(some 4), none, .simple (.move (.const (.int .i64 0)))⟩,
  ⟨(some 5), none, .simple (.move (.const (.int .i64 0)))⟩] (some [1, 2]))
(.seq (.seq (.region [
  ⟨(some 7), none, .simple (.load (some 6) (.tmp 2))⟩,
  ⟨(some 8), none, .call (.func 52) [(.tmp 7)]⟩,
  ⟨(some 6), none, .simple (.move (.tmp 8))⟩] (some [1, 2, 6]))
(.seq (.region [
  ⟨(some 9), none, .simple (.move (.tmp 6))⟩,
  ⟨(some 10), none, .simple (.bin .neq (.tmp 9) (.const (.int .i64 0)))⟩] (some [1, 2, 6, 10]))
(.cond (.tmp 10)
 (.seq (.region [
   ⟨(some 11), none, .simple (.move (.tmp 6))⟩,
   ⟨(some 4), none, .simple (.move (.const (.int .i64 0)))⟩,
   ⟨(some 5), none, .simple (.move (.tmp 11))⟩] (some [4, 5]))
 .ret)
 .skip)))
(.seq (.seq (.region [
  ⟨(some 12), none, .simple (.move (.tmp 1))⟩,
  ⟨(some 13), none, .call (.func 59) [(.tmp 12)]⟩,
  ⟨(some 14), none, .simple (.un .not (.tmp 13))⟩] (some [1, 2, 14]))
(.cond (.tmp 14)
 (.seq (.region [
   ⟨(some 4), none, .simple (.move (.const (.int .i64 0)))⟩,
   ⟨(some 5), none, .simple (.move (.const (.int .i64 2)))⟩] (some [4, 5]))
 .ret)
 .skip))
(.seq (.region [
  ⟨(some 15), none, .simple (.load (some 6) (.tmp 2))⟩,
  ⟨(some 16), none, .simple (.move (.tmp 1))⟩,
  ⟨(some 17), none, .call (.func 82) [(.tmp 15), (.tmp 16)]⟩,
  ⟨(some 4), none, .simple (.move (.tmp 17))⟩,
  ⟨(some 5), none, .simple (.move (.const (.int .i64 0)))⟩] (some [4, 5]))
.ret))))
theorem k50 : Try.f50.body.bind (compC Try.prog G50) = some c50 := by kernel_rfl
theorem e50 : compRes Try.prog Try.f50.results.toList = some r50 := by kernel_rfl
def F50 : FunX := ⟨false, G50, c50, r50⟩
theorem o50 : FunOk Try.prog 50 F50 := ⟨Try.f50, by kernel_rfl, k50, e50, by kernel_rfl, by kernel_rfl⟩
def G52 : Cfg := ⟨[], [(0, [1]), (1, [1, 3]), (2, [1, 3, 6]), (4, [34]), (5, [2]), (3, [2]), (6, [2])], 78, []⟩
def r52 : List CRes := [.tmp 2]
def c52 : CCode :=
(.seq (.region [
  ⟨(some 1), none, .simple (.box false (.tmp 0))⟩,
  ⟨(some 2), none, .simple (.move (.const (.int .i64 0)))⟩] (some [1]))
(.seq (.region [
  ⟨(some 4), none, .simple (.load (some 6) (.tmp 1))⟩,
  ⟨(some 5), none, .simple (.mkfn (.func 83) [(.tmp 4)] [])⟩,
  ⟨(some 3), none, .simple (.move (.tmp 5))⟩] (some [1, 3]))
(.seq (.block 0 (.seq (.region [
   ⟨(some 7), none, .simple (.fieldAddr 0 (.tmp 1))⟩,
   ⟨(some 8), none, .simple (.load none (.tmp 7))⟩,
   ⟨(some 9), none, .simple (.bin .gtr (.tmp 8) (.const (.int .i64 4)))⟩,
   ⟨(some 10), none, .simple (.move (.tmp 9))⟩,
   ⟨(some 11), (some (10, false)), .simple (.fieldAddr 2 (.tmp 1))⟩,
   ⟨(some 12), (some (10, false)), .simple (.load none (.tmp 11))⟩,
   ⟨(some 13), (some (10, false)), .simple (.len (.tmp 12))⟩,
   ⟨(some 14), (some (10, false)), .simple (.bin .gtr (.tmp 13) (.const (.int .i64 4)))⟩,
   ⟨(some 15), none, .simple (.pick (.tmp 10) (.const (.bool true)) (.tmp 14))⟩,
   ⟨(some 16), none, .simple (.move (.tmp 15))⟩,
   ⟨(some 17), (some (16, false)), .simple (.fieldAddr 3 (.tmp 1))⟩,
   ⟨(some 18), (some (16, false)), .simple (.load none (.tmp 17))⟩,
   ⟨(some 19), (some (16, false)), .simple (.len (.tmp 18))⟩,
   ⟨(some 20), (some (16, false)), .simple (.bin .gtr (.tmp 19) (.const (.int .i64 3)))⟩,
   ⟨(some 21), none, .simple (.pick (.tmp 16) (.const (.bool true)) (.tmp 20))⟩,
   ⟨(some 22), none, .simple (.move (.tmp 21))⟩,
   ⟨(some 23), (some (22, false)), .simple (.fieldAddr 4 (.tmp 1))⟩,
   ⟨(some 24), (some (22, false)), .simple (.load none (.tmp 23))⟩,
   ⟨(some 25), (some (22, false)), .simple (.len (.tmp 24))⟩,
   ⟨(some 26), (some (22, false)), .simple (.bin .gtr (.tmp 25) (.const (.int .i64 2)))⟩,
   ⟨(some 27), none, .simple (.pick (.tmp 22) (.const (.bool true)) (.tmp 26))⟩,
   ⟨(some 28), none, .simple (.move (.tmp 27))⟩,
   ⟨(some 29), (some (28, false)), .simple (.fieldAddr 5 (.tmp 1))⟩,
   ⟨(some 30), (some (28, false)), .simple (.load none (.tmp 29))⟩,
   ⟨(some 31), (some (28, false)), .simple (.len (.tmp 30))⟩,
   ⟨(some 32), (some (28, false)), .simple (.bin .gtr (.tmp 31) (.const (.int .i64 2)))⟩,
   ⟨(some 33), none, .simple (.pick (.tmp 28) (.const (.bool true)) (.tmp 32))⟩,
   ⟨(some 6), none, .simple (.move (.tmp 33))⟩] (some [1, 3, 6]))
 (.cond (.tmp 6)
  (.seq (.region [
    ⟨(some 2), none, .simple (.move (.const (.int .i64 3)))⟩] (some [2]))
  .ret)
  (.seq (.region [
    ⟨(some 35), none, .simple (.fieldAddr 0 (.tmp 1))⟩,
    ⟨(some 36), none, .simple (.load none (.tmp 35))⟩,
    ⟨(some 37), none, .simple (.bin .lss (.tmp 36) (.const (.int .i64 1)))⟩,
    ⟨(some 38), none, .simple (.move (.tmp 37))⟩,
    ⟨(some 39), (some (38, false)), .simple (.fieldAddr 1 (.tmp 1))⟩,
    ⟨(some 40), (some (38, false)), .simple (.load none (.tmp 39))⟩,
    ⟨(some 41), (some (38, false)), .simple (.len (.tmp 40))⟩,
    ⟨(some 42), (some (38, false)), .simple (.fieldAddr 0 (.tmp 1))⟩,
    ⟨(some 43), (some (38, false)), .simple (.load none (.tmp 42))⟩,
    ⟨(some 44), (some (38, false)), .simple (.bin .neq (.tmp 41) (.tmp 43))⟩,
    ⟨(some 45), none, .simple (.pick (.tmp 38) (.const (.bool true)) (.tmp 44))⟩,
    ⟨(some 46), none, .simple (.move (.tmp 45))⟩,
    ⟨(some 47), (some (46, false)), .simple (.fieldAddr 1 (.tmp 1))⟩,
    ⟨(some 48), (some (46, false)), .simple (.load none (.tmp 47))⟩,
    ⟨(some 49), (some (46, false)), .simple (.build [(.d (.int .i64 0)), (.d (.int .i64 0))] [(0, 1, (.const (.int .i64 0))), (1, 1, (.const (.int .i64 100)))])⟩,
    ⟨(some 50), (some (46, false)), .simple (.mkfn (.func 85) [(.tmp 49)] [])⟩,
    ⟨(some 51), (some (46, false)), .call (.func 84) [(.tmp 48), (.tmp 50)]⟩,
    ⟨(some 52), (some (46, false)), .simple (.un .not (.tmp 51))⟩,
    ⟨(some 53), none, .simple (.pick (.tmp 46) (.const (.bool true)) (.tmp 52))⟩,
    ⟨(some 54), none, .simple (.move (.tmp 53))⟩,
    ⟨(some 55), (some (54, false)), .simple (.fieldAddr 2 (.tmp 1))⟩,
    ⟨(some 56), (some (54, false)), .simple (.load none (.tmp 55))⟩,
    ⟨(some 57), (some (54, false)), .simple (.move (.tmp 3))⟩,
    ⟨(some 58), (some (54, false)), .call (.func 86) [(.tmp 56), (.tmp 57)]⟩,
    ⟨(some 59), (some (54, false)), .simple (.un .not (.tmp 58))⟩,
    ⟨(some 60), none, .simple (.pick (.tmp 54) (.const (.bool true)) (.tmp 59))⟩,
    ⟨(some 61), none, .simple (.move (.tmp 60))⟩,
    ⟨(some 62), (some (61, false)), .simple (.fieldAddr 3 (.tmp 1))⟩,
    ⟨(some 63), (some (61, false)), .simple (.load none (.tmp 62))⟩,
    ⟨(some 64), (some (61, false)), .call (.func 87) [(.tmp 63), (.func 88)]⟩,
    ⟨(some 65), (some (61, false)), .simple (.un .not (.tmp 64))⟩,
    ⟨(some 66), none, .simple (.pick (.tmp 61) (.const (.bool true)) (.tmp 65))⟩,
    ⟨(some 67), none, .simple (.move (.tmp 66))⟩,
    ⟨(some 68), (some (67, false)), .simple (.load (some 6) (.tmp 1))⟩,
    ⟨(some 69), (some (67, false)), .call (.func 89) [(.tmp 68)]⟩,
    ⟨(some 70), (some (67, false)), .simple (.un .not (.tmp 69))⟩,
    ⟨(some 71), none, .simple (.pick (.tmp 67) (.const (.bool true)) (.tmp 70))⟩,
    ⟨(some 72), none, .simple (.move (.tmp 71))⟩,
    ⟨(some 73), (some (72, false)), .simple (.fieldAddr 5 (.tmp 1))⟩,
    ⟨(some 74), (some (72, false)), .simple (.load none (.tmp 73))⟩,
    ⟨(some 75), (some (72, false)), .call (.func 90) [(.tmp 74), (.func 91)]⟩,
    ⟨(some 76), (some (72, false)), .simple (.un .not (.tmp 75))⟩,
    ⟨(some 77), none, .simple (.pick (.tmp 72) (.const (.bool true)) (.tmp 76))⟩,
    ⟨(some 34), none, .simple (.move (.tmp 77))⟩] (some [34]))
  (.cond (.tmp 34)
   (.seq (.region [
     ⟨(some 2), none, .simple (.move (.const (.int .i64 1)))⟩] (some [2]))
   .ret)
   .skip)))))
(.seq (.region [
  ⟨(some 2), none, .simple (.move (.const (.int .i64 0)))⟩] (some [2]))
.ret))))
theorem k52 : Try.f52.body.bind (compC Try.prog G52) = some c52 := by kernel_rfl
theorem e52 : compRes Try.prog Try.f52.results.toList = some r52 := by kernel_rfl
def F52 : FunX := ⟨false, G52, c52, r52⟩
theorem o52 : FunOk Try.prog 52 F52 := ⟨Try.f52, by kernel_rfl, k52, e52, by kernel_rfl, by kernel_rfl⟩
def G53 : Cfg := ⟨[2], [(0, [0, 2]), (1, [2])], 16, []⟩
def r53 : List CRes := [.cell 2 (some 6)]
def c53 : CCode :=
(.seq (.region [
  ⟨(some 2), none, .simple (.alloc [(.d (.int .i64 0)), (.d .nils), (.d .nils), (.d .nils), (.d .nils), (.d .nils)])⟩] (some [0, 2]))
(.seq (.region [
  ⟨(some 3), none, .simple (.bslice false 3 1 2 [(.int .i64 0), (.int .i64 0)] [(0, (.const (.int .i64 10))), (1, (.const (.int .i64 0)))])⟩,
  ⟨(some 4), none, .simple (.move (.tmp 0))⟩,
  ⟨(some 5), none, .call (.func 55) [(.const (.int .i64 2)), (.const (.int .i64 3))]⟩,
  ⟨(some 6), none, .call (.func 55) [(.const (.int .i64 4)), (.const (.int .i64 5))]⟩,
  ⟨(some 7), none, .simple (.build [(.d (.int .i64 0)), (.d (.int .i64 0)), (.d (.int .i64 0)), (.d (.int .i64 0)), (.d (.int .i64 0)), (.d (.int .i64 0)), (.d (.int .i64 0))] [(1, 1, (.const (.int .i64 1))), (2, 1, (.tmp 4)), (3, 2, (.tmp 5)), (5, 2, (.tmp 6))])⟩,
  ⟨(some 8), none, .simple (.bslice false 93 7 1 [(.int .i64 0), (.int .i64 0), (.int .i64 0), (.int .i64 0), (.int .i64 0), (.int .i64 0), (.int .i64 0)] [(0, (.tmp 7))])⟩,
  ⟨(some 9), none, .simple (.build [(.d (.int .i64 0)), (.d (.int .i64 0)), (.d (.int .i64 0))] [(0, 1, (.const (.int .i64 3))), (1, 1, (.const (.int .i64 4))), (2, 1, (.const (.int .i64 5)))])⟩,
  ⟨(some 10), none, .simple (.bslice false 95 3 1 [(.int .i64 0), (.int .i64 0), (.int .i64 0)] [(0, (.tmp 9))])⟩,
  ⟨(some 11), none, .simple (.build [(.d (.int .i64 0)), (.d (.int .i64 0)), (.d (.int .i64 0))] [(0, 1, (.const (.int .i64 4))), (1, 1, (.const (.int .i64 3))), (2, 1, (.const (.int .i64 2)))])⟩,
  ⟨(some 12), none, .simple (.bslice false 96 3 1 [(.int .i64 0), (.int .i64 0), (.int .i64 0)] [(0, (.tmp 11))])⟩,
  ⟨(some 13), none, .call (.func 55) [(.const (.int .i64 5)), (.const (.int .i64 6))]⟩,
  ⟨(some 14), none, .simple (.bslice false 71 2 1 [(.int .i64 0), (.int .i64 0)] [(0, (.tmp 13))])⟩,
  ⟨(some 15), none, .simple (.build [(.d (.int .i64 0)), (.d .nils), (.d .nils), (.d .nils), (.d .nils), (.d .nils)] [(0, 1, (.const (.int .i64 2))), (1, 1, (.tmp 3)), (2, 1, (.tmp 8)), (3, 1, (.tmp 10)), (4, 1, (.tmp 12)), (5, 1, (.tmp 14))])⟩,
  ⟨none, none, .simple (.store 6 (.tmp 2) (.tmp 15))⟩] (some [2]))
.ret))
theorem k53 : Try.f53.body.bind (compC Try.prog G53) = some c53 := by kernel_rfl
theorem e53 : compRes Try.prog Try.f53.results.toList = some r53 := by kernel_rfl
def F53 : FunX := ⟨false, G53, c53, r53⟩
theorem o53 : FunOk Try.prog 53 F53 := ⟨Try.f53, by kernel_rfl, k53, e53, by kernel_rfl, by kernel_rfl⟩
end Go.Proofs.Ytdnefcjbcieecaa
namespace Go.Proofs.Ytdnefcjbcieecaa
open Go Go.Proofs
def G54 : Cfg := ⟨[4], [(0, [0, 1, 4]), (1, [4])], 10, []⟩
def r54 : List CRes := [.cell 4 (some 2)]
def c54 : CCode :=
(.seq (.region [
  ⟨(some 4), none, .simple (.alloc [(.d .nils), (.d .nils)])⟩] (some [0, 1, 4]))
(.seq (.region [
  ⟨(some 5), none, .simple (.move (.tmp 0))⟩,
  ⟨(some 6), none, .simple (.bslice false 3 1 1 [(.int .i64 0)] [(0, (.tmp 5))])⟩,
  ⟨(some 7), none, .simple (.move (.tmp 1))⟩,
  ⟨(some 8), none, .simple (.bslice false 3 1 1 [(.int .i64 0)] [(0, (.tmp 7))])⟩,
  ⟨(some 9), none, .simple (.build [(.d .nils), (.d .nils)] [(0, 1, (.tmp 6)), (1, 1, (.tmp 8))])⟩,
  ⟨none, none, .simple (.store 2 (.tmp 4) (.tmp 9))⟩] (some [4]))
.ret))
theorem k54 : Try.f54.body.bind (compC Try.prog G54) = some c54 := by kernel_rfl
theorem e54 : compRes Try.prog Try.f54.results.toList = some r54 := by kernel_rfl
def F54 : FunX := ⟨false, G54, c54, r54⟩
theorem o54 : FunOk Try.prog 54 F54 := ⟨Try.f54, by kernel_rfl, k54, e54, by kernel_rfl, by kernel_rfl⟩
def G55 : Cfg := ⟨[4], [(0, [0, 1, 4]), (1, [4])], 8, []⟩
def r55 : List CRes := [.cell 4 (some 2)]
def c55 : CCode :=
(.seq (.region [
  ⟨(some 4), none, .simple (.alloc [(.d (.int .i64 0)), (.d (.int .i64 0))])⟩] (some [0, 1, 4]))
(.seq (.region [
  ⟨(some 5), none, .simple (.move (.tmp 0))⟩,
  ⟨(some 6), none, .simple (.move (.tmp 1))⟩,
  ⟨(some 7), none, .simple (.build [(.d (.int .i64 0)), (.d (.int .i64 0))] [(0, 1, (.tmp 5)), (1, 1, (.tmp 6))])⟩,
  ⟨none, none, .simple (.store 2 (.tmp 4) (.tmp 7))⟩] (some [4]))
.ret))
theorem k55 : Try.f55.body.bind (compC Try.prog G55) = some c55 := by kernel_rfl
theorem e55 : compRes Try.prog Try.f55.results.toList = some r55 := by kernel_rfl
def F55 : FunX := ⟨false, G55, c55, r55⟩
theorem o55 : FunOk Try.prog 55 F55 := ⟨Try.f55, by kernel_rfl, k55, e55, by kernel_rfl, by kernel_rfl⟩
def G58 : Cfg := ⟨[], [(0, [2, 3]), (1, [2, 3, 6]), (2, [2, 3, 6, 11]), (3, [4, 5]), (4, [2, 3, 7]), (5, [3, 7, 15]), (7, [7, 20]), (8, [4, 5]), (6, [4, 5]), (9, [4, 5])], 26, []⟩
def r58 : List CRes := [.tmp 4, .tmp 5]
def c58 : CCode :=
(.seq (.region [
  ⟨(some 2), none, .simple (.box false (.tmp 0))⟩,
  ⟨(some 3), none, .simple (.box false (.tmp 1))⟩,
  ⟨(some 4), none, .simple (.move (.const (.pointer none)))⟩,
  ⟨(some 5), none, .simple (.move (.const (.int .i64 0)))⟩] (some [2, 3]))
(.seq (.seq (.region [
  ⟨(some 8), none, .simple (.load (some 6) (.tmp 2))⟩,
  ⟨(some 9), none, .call (.func 52) [(.tmp 8)]⟩,
  ⟨(some 6), none, .simple (.move (.tmp 9))⟩] (some [2, 3, 6]))
(.seq (.region [
  ⟨(some 10), none, .simple (.move (.tmp 6))⟩,
  ⟨(some 11), none, .simple (.bin .neq (.tmp 10) (.const (.int .i64 0)))⟩] (some [2, 3, 6, 11]))
(.cond (.tmp 11)
 (.seq (.region [
   ⟨(some 12), none, .simple (.move (.tmp 6))⟩,
   ⟨(some 4), none, .simple (.move (.const (.pointer none)))⟩,
   ⟨(some 5), none, .simple (.move (.tmp 12))⟩] (some [4, 5]))
 .ret)
 .skip)))
(.seq (.region [
  ⟨(some 13), none, .simple (.load (some 6) (.tmp 2))⟩,
  ⟨(some 14), none, .call (.func 72) [(.tmp 13)]⟩,
  ⟨(some 7), none, .simple (.move (.tmp 14))⟩] (some [2, 3, 7]))
(.seq (.block 0 (.seq (.region [
   ⟨(some 16), none, .simple (.load (some 6) (.tmp 2))⟩,
   ⟨(some 17), none, .simple (.load (some 2) (.tmp 3))⟩,
   ⟨(some 18), none, .call (.func 92) [(.tmp 16), (.tmp 17)]⟩,
   ⟨(some 19), none, .simple (.un .not (.tmp 18))⟩,
   ⟨(some 15), none, .simple (.move (.tmp 19))⟩] (some [3, 7, 15]))
 (.cond (.tmp 15)
  (.seq (.region [
    ⟨(some 4), none, .simple (.move (.const (.pointer none)))⟩,
    ⟨(some 5), none, .simple (.move (.const (.int .i64 2)))⟩] (some [4, 5]))
  .ret)
  (.seq (.region [
    ⟨(some 21), none, .simple (.move (.tmp 7))⟩,
    ⟨(some 22), none, .simple (.load (some 2) (.tmp 3))⟩,
    ⟨(some 23), none, .call (.func 93) [(.tmp 21), (.tmp 22)]⟩,
    ⟨(some 24), none, .simple (.un .not (.tmp 23))⟩,
    ⟨(some 20), none, .simple (.move (.tmp 24))⟩] (some [7, 20]))
  (.cond (.tmp 20)
   (.seq (.region [
     ⟨(some 4), none, .simple (.move (.const (.pointer none)))⟩,
     ⟨(some 5), none, .simple (.move (.const (.int .i64 11)))⟩] (some [4, 5]))
   .ret)
   .skip)))))
(.seq (.region [
  ⟨(some 25), none, .simple (.move (.tmp 7))⟩,
  ⟨(some 4), none, .simple (.move (.tmp 25))⟩,
  ⟨(some 5), none, .simple (.move (.const (.int .i64 0)))⟩] (some [4, 5]))
.ret)))))
theorem k58 : Try.f58.body.bind (compC Try.prog G58) = some c58 := by kernel_rfl
theorem e58 : compRes Try.prog Try.f58.results.toList = some r58 := by kernel_rfl
def F58 : FunX := ⟨false, G58, c58, r58⟩
theorem o58 : FunOk Try.prog 58 F58 := ⟨Try.f58, by kernel_rfl, k58, e58, by kernel_rfl, by kernel_rfl⟩
def G59 : Cfg := ⟨[], [(0, [0]), (1, [2])], 5, []⟩
def r59 : List CRes := [.tmp 2]
def c59 : CCode :=
(.seq (.region [
  ⟨(some 2), none, .simple (.move (.const (.bool false)))⟩] (some [0]))
(.seq (.region [
  ⟨(some 3), none, .simple (.move (.tmp 0))⟩,
  ⟨(some 4), none, .call (.func 71) [(.tmp 3), (.const (.int .i64 0)), (.const (.int .i64 11))]⟩,
  ⟨(some 2), none, .simple (.move (.tmp 4))⟩] (some [2]))
.ret))
theorem k59 : Try.f59.body.bind (compC Try.prog G59) = some c59 := by kernel_rfl
theorem e59 : compRes Try.prog Try.f59.results.toList = some r59 := by kernel_rfl
def F59 : FunX := ⟨false, G59, c59, r59⟩
theorem o59 : FunOk Try.prog 59 F59 := ⟨Try.f59, by kernel_rfl, k59, e59, by kernel_rfl, by kernel_rfl⟩
def G60 : Cfg := ⟨[6, 10], [(0, [0, 2, 4, 6]), (1, [0, 2, 4, 6, 17, 18, 19]), (2, [0, 2, 4, 6, 17, 18, 19, 20]), (3, [0, 2, 4, 6, 7, 8, 17, 18, 19]), (4, [0, 2, 4, 6, 17, 18, 19]), (5, [0, 2, 4, 6, 17, 18, 19]), (6, [0, 2, 4, 6, 36, 37, 38]), (7, [0, 2, 4, 6, 36, 37, 38, 39]), (8, [0, 2, 4, 6, 9, 10, 36, 37, 38]), (9, [0, 2, 4, 6, 9, 10, 11, 36, 37, 38]), (10, [0, 2, 4, 6, 9, 10, 36, 37, 38, 59]), (11, [0, 2, 4, 6, 10, 12, 36, 37, 38]), (12, [0, 2, 4, 6, 10, 12, 36, 37, 38]), (13, [0, 2, 4, 6, 36, 37, 38]), (14, [0, 2, 4, 6, 36, 37, 38]), (15, [6])], 87, []⟩
def r60 : List CRes := [.cell 6 (some 4)]
def c60 : CCode :=
(.seq (.region [
  ⟨(some 4), none, .simple (.box false (.tmp 1))⟩,
  ⟨(some 6), none, .simple (.alloc [(.d (.int .i64 0)), (.d (.int .i64 0)), (.d (.int .i64 0)), (.d (.int .i64 0))])⟩] (some [0, 2, 4, 6]))
(.seq (.seq (.region [
  ⟨(some 13), none, .simple (.move (.tmp 0))⟩,
  ⟨(some 14), none, .simple (.nilCheck (.tmp 13))⟩,
  ⟨(some 15), none, .simple (.fieldAddr 0 (.tmp 14))⟩,
  ⟨(some 16), none, .simple (.fieldAddr 1 (.tmp 15))⟩,
  ⟨(some 17), none, .simple (.load none (.tmp 16))⟩,
  ⟨(some 18), none, .simple (.len (.tmp 17))⟩,
  ⟨(some 19), none, .simple (.move (.const (.int .i64 0)))⟩] (some [0, 2, 4, 6, 17, 18, 19]))
(.block 0 (.loop (.seq (.region [
    ⟨(some 20), none, .simple (.bin .lss (.tmp 19) (.tmp 18))⟩] (some [0, 2, 4, 6, 17, 18, 19, 20]))
  (.seq (.cond (.tmp 20)
   .skip
   (.exit 0))
  (.seq (.block 1 (.seq (.region [
     ⟨(some 21), none, .simple (.move (.tmp 19))⟩,
     ⟨(some 22), none, .simple (.indexS 1 (.tmp 17) (.tmp 19))⟩,
     ⟨(some 23), none, .simple (.load none (.tmp 22))⟩,
     ⟨(some 7), none, .simple (.move (.tmp 21))⟩,
     ⟨(some 8), none, .simple (.move (.tmp 23))⟩] (some [0, 2, 4, 6, 7, 8, 17, 18, 19]))
   (.region [
     ⟨(some 24), none, .simple (.move (.tmp 7))⟩,
     ⟨(some 25), none, .simple (.move (.tmp 0))⟩,
     ⟨(some 26), none, .simple (.move (.tmp 8))⟩,
     ⟨(some 27), none, .simple (.move (.tmp 2))⟩,
     ⟨(some 28), none, .simple (.build [(.d (.int .i64 0)), (.d (.int .i64 0))] [(0, 1, (.const (.int .i64 (-1)))), (1, 1, (.tmp 27))])⟩,
     ⟨(some 29), none, .call (.func 94) [(.tmp 25), (.tmp 26), (.tmp 28)]⟩,
     ⟨(some 30), none, .simple (.indexA 4 1 (.tmp 6) (.tmp 24))⟩,
     ⟨none, none, .simple (.store 1 (.tmp 30) (.tmp 29))⟩] (some [0, 2, 4, 6, 17, 18, 19]))))
  (.region [
    ⟨(some 31), none, .simple (.bin .add (.tmp 19) (.const (.int .i64 1)))⟩,
    ⟨(some 19), none, .simple (.move (.tmp 31))⟩] (some [0, 2, 4, 6, 17, 18, 19]))))))))
(.seq (.seq (.region [
  ⟨(some 32), none, .simple (.move (.tmp 0))⟩,
  ⟨(some 33), none, .simple (.nilCheck (.tmp 32))⟩,
  ⟨(some 34), none, .simple (.fieldAddr 0 (.tmp 33))⟩,
  ⟨(some 35), none, .simple (.fieldAddr 2 (.tmp 34))⟩,
  ⟨(some 36), none, .simple (.load none (.tmp 35))⟩,
  ⟨(some 37), none, .simple (.len (.tmp 36))⟩,
  ⟨(some 38), none, .simple (.move (.const (.int .i64 0)))⟩] (some [0, 2, 4, 6, 36, 37, 38]))
(.block 2 (.loop (.seq (.region [
    ⟨(some 39), none, .simple (.bin .lss (.tmp 38) (.tmp 37))⟩] (some [0, 2, 4, 6, 36, 37, 38, 39]))
  (.seq (.cond (.tmp 39)
   .skip
   (.exit 2))
  (.seq (.block 3 (.seq (.region [
     ⟨(some 40), none, .simple (.move (.tmp 38))⟩,
     ⟨(some 41), none, .simple (.indexS 7 (.tmp 36) (.tmp 38))⟩,
     ⟨(some 42), none, .simple (.load (some 7) (.tmp 41))⟩,
     ⟨(some 10), none, .simple (.alloc [(.d (.int .i64 0)), (.d (.int .i64 0)), (.d (.int .i64 0)), (.d (.int .i64 0)), (.d (.int .i64 0)), (.d (.int .i64 0)), (.d (.int .i64 0))])⟩,
     ⟨(some 9), none, .simple (.move (.tmp 40))⟩,
     ⟨none, none, .simple (.store 7 (.tmp 10) (.tmp 42))⟩] (some [0, 2, 4, 6, 9, 10, 36, 37, 38]))
   (.seq (.region [
     ⟨(some 43), none, .simple (.move (.tmp 0))⟩,
     ⟨(some 44), none, .simple (.nilCheck (.tmp 43))⟩,
     ⟨(some 45), none, .simple (.fieldAddr 0 (.tmp 44))⟩,
     ⟨(some 46), none, .simple (.load (some 6) (.tmp 45))⟩,
     ⟨(some 47), none, .simple (.fieldAddr 1 (.tmp 4))⟩,
     ⟨(some 48), none, .simple (.load none (.tmp 47))⟩,
     ⟨(some 49), none, .simple (.move (.tmp 9))⟩,
     ⟨(some 50), none, .simple (.indexS 1 (.tmp 48) (.tmp 49))⟩,
     ⟨(some 51), none, .simple (.load none (.tmp 50))⟩,
     ⟨(some 52), none, .call (.func 82) [(.tmp 46), (.tmp 51)]⟩,
     ⟨(some 11), none, .simple (.move (.tmp 52))⟩] (some [0, 2, 4, 6, 9, 10, 11, 36, 37, 38]))
   (.seq (.region [
     ⟨(some 53), none, .simple (.move (.tmp 11))⟩,
     ⟨(some 54), none, .simple (.bin .neq (.tmp 53) (.const (.int .i64 (-1))))⟩,
     ⟨(some 55), none, .simple (.move (.tmp 54))⟩,
     ⟨(some 56), (some (55, true)), .simple (.move (.tmp 11))⟩,
     ⟨(some 57), (some (55, true)), .simple (.move (.tmp 2))⟩,
     ⟨(some 58), (some (55, true)), .simple (.bin .leq (.tmp 56) (.tmp 57))⟩,
     ⟨(some 59), none, .simple (.pick (.tmp 55) (.tmp 58) (.const (.bool false)))⟩] (some [0, 2, 4, 6, 9, 10, 36, 37, 38, 59]))
   (.cond (.tmp 59)
    (.seq (.region [
      ⟨(some 60), none, .simple (.move (.tmp 0))⟩,
      ⟨(some 61), none, .simple (.fieldAddr 2 (.tmp 10))⟩,
      ⟨(some 62), none, .simple (.load none (.tmp 61))⟩,
      ⟨(some 63), none, .simple (.fieldAddr 0 (.tmp 4))⟩,
      ⟨(some 64), none, .simple (.load none (.tmp 63))⟩,
      ⟨(some 65), none, .simple (.move (.tmp 9))⟩,
      ⟨(some 66), none, .simple (.indexS 1 (.tmp 64) (.tmp 65))⟩,
      ⟨(some 67), none, .simple (.load none (.tmp 66))⟩,
      ⟨(some 68), none, .simple (.move (.tmp 2))⟩,
      ⟨(some 69), none, .simple (.build [(.d (.int .i64 0)), (.d (.int .i64 0))] [(0, 1, (.tmp 67)), (1, 1, (.tmp 68))])⟩,
      ⟨(some 70), none, .call (.func 94) [(.tmp 60), (.tmp 62), (.tmp 69)]⟩,
      ⟨(some 12), none, .simple (.move (.tmp 70))⟩] (some [0, 2, 4, 6, 10, 12, 36, 37, 38]))
    (.seq (.region [
      ⟨(some 71), none, .simple (.fieldAddr 0 (.tmp 10))⟩,
      ⟨(some 72), none, .simple (.load none (.tmp 71))⟩,
      ⟨(some 73), none, .simple (.indexA 4 1 (.tmp 6) (.tmp 72))⟩,
      ⟨(some 74), none, .simple (.load none (.tmp 73))⟩,
      ⟨(some 75), none, .simple (.move (.tmp 12))⟩,
      ⟨(some 76), none, .simple (.bin .sub (.tmp 74) (.tmp 75))⟩,
      ⟨(some 77), none, .simple (.indexA 4 1 (.tmp 6) (.tmp 72))⟩,
      ⟨none, none, .simple (.store 1 (.tmp 77) (.tmp 76))⟩] (some [0, 2, 4, 6, 10, 12, 36, 37, 38]))
    (.region [
      ⟨(some 78), none, .simple (.fieldAddr 1 (.tmp 10))⟩,
      ⟨(some 79), none, .simple (.load none (.tmp 78))⟩,
      ⟨(some 80), none, .simple (.indexA 4 1 (.tmp 6) (.tmp 79))⟩,
      ⟨(some 81), none, .simple (.load none (.tmp 80))⟩,
      ⟨(some 82), none, .simple (.move (.tmp 12))⟩,
      ⟨(some 83), none, .simple (.bin .add (.tmp 81) (.tmp 82))⟩,
      ⟨(some 84), none, .simple (.indexA 4 1 (.tmp 6) (.tmp 79))⟩,
      ⟨none, none, .simple (.store 1 (.tmp 84) (.tmp 83))⟩] (some [0, 2, 4, 6, 36, 37, 38]))))
    .skip)))))
  (.region [
    ⟨(some 85), none, .simple (.bin .add (.tmp 38) (.const (.int .i64 1)))⟩,
    ⟨(some 38), none, .simple (.move (.tmp 85))⟩] (some [0, 2, 4, 6, 36, 37, 38]))))))))
(.seq (.region [
  ⟨(some 86), none, .simple (.load (some 4) (.tmp 6))⟩,
  ⟨none, none, .simple (.store 4 (.tmp 6) (.tmp 86))⟩] (some [6]))
.ret))))
theorem k60 : Try.f60.body.bind (compC Try.prog G60) = some c60 := by kernel_rfl
theorem e60 : compRes Try.prog Try.f60.results.toList = some r60 := by kernel_rfl
def F60 : FunX := ⟨false, G60, c60, r60⟩
theorem o60 : FunOk Try.prog 60 F60 := ⟨Try.f60, by kernel_rfl, k60, e60, by kernel_rfl, by kernel_rfl⟩
def G64 : Cfg := ⟨[32, 7], [(0, [0, 4, 5, 6]), (1, [0, 5, 6, 7]), (2, [5, 6, 20, 21, 22]), (3, [5, 6, 20, 21, 22, 23]), (4, [5, 6, 9, 20, 21, 22]), (5, [5, 6, 20, 21, 22]), (6, [5, 6, 20, 21, 22]), (7, [6])], 35, [(2, [(7, none)])]⟩
def r64 : List CRes := [.tmp 6]
def c64 : CCode :=
(.seq (.region [
  ⟨(some 4), none, .simple (.box false (.tmp 1))⟩,
  ⟨(some 5), none, .simple (.box false (.tmp 2))⟩,
  ⟨(some 6), none, .simple (.move (.const (.slice none 0 0)))⟩] (some [0, 4, 5, 6]))
(.seq (.region [
  ⟨(some 10), none, .simple (.move (.tmp 0))⟩,
  ⟨(some 11), none, .simple (.load (some 2) (.tmp 4))⟩,
  ⟨(some 12), none, .simple (.fieldAddr 1 (.tmp 5))⟩,
  ⟨(some 13), none, .simple (.load none (.tmp 12))⟩,
  ⟨(some 14), none, .call (.func 60) [(.tmp 10), (.tmp 11), (.tmp 13)]⟩,
  ⟨(some 7), none, .simple (.alloc [(.d (.int .i64 0)), (.d (.int .i64 0)), (.d (.int .i64 0)), (.d (.int .i64 0))])⟩,
  ⟨none, none, .simple (.store 4 (.tmp 7) (.tmp 14))⟩] (some [0, 5, 6, 7]))
(.seq (.seq (.seq (.frz (7, none))
(.region [
  ⟨(some 15), none, .simple (.move (.tmp 0))⟩,
  ⟨(some 16), none, .simple (.nilCheck (.tmp 15))⟩,
  ⟨(some 17), none, .simple (.fieldAddr 0 (.tmp 16))⟩,
  ⟨(some 18), none, .simple (.fieldAddr 0 (.tmp 17))⟩,
  ⟨(some 19), none, .simple (.load none (.tmp 18))⟩,
  ⟨(some 20), none, .simple (.sliceA 4 1 (.tmp 7) none (some (.tmp 19)))⟩,
  ⟨(some 21), none, .simple (.len (.tmp 20))⟩,
  ⟨(some 22), none, .simple (.move (.const (.int .i64 0)))⟩] (some [5, 6, 20, 21, 22])))
(.block 0 (.loop (.seq (.region [
    ⟨(some 23), none, .simple (.bin .lss (.tmp 22) (.tmp 21))⟩] (some [5, 6, 20, 21, 22, 23]))
  (.seq (.cond (.tmp 23)
   .skip
   (.exit 0))
  (.seq (.block 1 (.seq (.region [
     ⟨(some 24), none, .simple (.indexS 1 (.tmp 20) (.tmp 22))⟩,
     ⟨(some 25), none, .simple (.load none (.tmp 24))⟩,
     ⟨(some 9), none, .simple (.move (.tmp 25))⟩] (some [5, 6, 9, 20, 21, 22]))
   (.region [
     ⟨(some 26), none, .simple (.move (.tmp 6))⟩,
     ⟨(some 27), none, .simple (.fieldAddr 2 (.tmp 5))⟩,
     ⟨(some 28), none, .simple (.load none (.tmp 27))⟩,
     ⟨(some 29), none, .simple (.move (.tmp 9))⟩,
     ⟨(some 30), none, .simple (.bin .mul (.tmp 28) (.tmp 29))⟩,
     ⟨(some 31), none, .simple (.bslice false 3 1 1 [(.int .i64 0)] [(0, (.tmp 30))])⟩,
     ⟨(some 32), none, .app 3 1 8 (.tmp 26) (.tmp 31)⟩,
     ⟨(some 6), none, .simple (.move (.tmp 32))⟩] (some [5, 6, 20, 21, 22]))))
  (.region [
    ⟨(some 33), none, .simple (.bin .add (.tmp 22) (.const (.int .i64 1)))⟩,
    ⟨(some 22), none, .simple (.move (.tmp 33))⟩] (some [5, 6, 20, 21, 22]))))))))
(.seq (.region [
  ⟨(some 34), none, .simple (.move (.tmp 6))⟩,
  ⟨(some 6), none, .simple (.move (.tmp 34))⟩] (some [6]))
.ret))))
theorem k64 : Try.f64.body.bind (compC Try.prog G64) = some c64 := by kernel_rfl
theorem e64 : compRes Try.prog Try.f64.results.toList = some r64 := by kernel_rfl
def F64 : FunX := ⟨true, G64, c64, r64⟩
theorem o64 : FunOk Try.prog 64 F64 := ⟨Try.f64, by kernel_rfl, k64, e64, by kernel_rfl, by kernel_rfl⟩
def G65 : Cfg := ⟨[], [(0, [3, 4, 5, 6]), (1, [3, 4, 5, 6, 10, 11]), (2, [3, 4, 5, 6, 10, 11, 19]), (3, [8, 9]), (4, [3, 4, 5, 6, 10, 27]), (5, [8, 9]), (6, [8, 9])], 38, []⟩
def r65 : List CRes := [.tmp 8, .tmp 9]
def c65 : CCode :=
(.seq (.region [
  ⟨(some 4), none, .simple (.box false (.tmp 0))⟩,
  ⟨(some 5), none, .simple (.box false (.tmp 1))⟩,
  ⟨(some 6), none, .simple (.box false (.tmp 2))⟩,
  ⟨(some 8), none, .simple (.move (.const (.slice none 0 0)))⟩,
  ⟨(some 9), none, .simple (.move (.const (.int .i64 0)))⟩] (some [3, 4, 5, 6]))
(.seq (.region [
  ⟨(some 13), none, .simple (.load (some 6) (.tmp 5))⟩,
  ⟨(some 14), none, .simple (.load (some 2) (.tmp 6))⟩,
  ⟨(some 15), none, .call (.func 58) [(.tmp 13), (.tmp 14)]⟩,
  ⟨(some 12), none, .simple (.move (.tmp 15))⟩,
  ⟨(some 16), none, .simple (.extract (.tmp 12) 0)⟩,
  ⟨(some 17), none, .simple (.extract (.tmp 12) 1)⟩,
  ⟨(some 10), none, .simple (.move (.tmp 16))⟩,
  ⟨(some 11), none, .simple (.move (.tmp 17))⟩] (some [3, 4, 5, 6, 10, 11]))
(.seq (.seq (.region [
  ⟨(some 18), none, .simple (.move (.tmp 11))⟩,
  ⟨(some 19), none, .simple (.bin .neq (.tmp 18) (.const (.int .i64 0)))⟩] (some [3, 4, 5, 6, 10, 11, 19]))
(.cond (.tmp 19)
 (.seq (.region [
   ⟨(some 20), none, .simple (.move (.tmp 11))⟩,
   ⟨(some 8), none, .simple (.move (.const (.slice none 0 0)))⟩,
   ⟨(some 9), none, .simple (.move (.tmp 20))⟩] (some [8, 9]))
 .ret)
 .skip))
(.seq (.seq (.region [
  ⟨(some 21), none, .simple (.move (.tmp 3))⟩,
  ⟨(some 22), none, .simple (.fieldAddr 3 (.tmp 5))⟩,
  ⟨(some 23), none, .simple (.load none (.tmp 22))⟩,
  ⟨(some 24), none, .simple (.len (.tmp 23))⟩,
  ⟨(some 25), none, .simple (.bin .sub (.tmp 24) (.const (.int .i64 1)))⟩,
  ⟨(some 26), none, .call (.func 71) [(.tmp 21), (.const (.int .i64 0)), (.tmp 25)]⟩,
  ⟨(some 27), none, .simple (.un .not (.tmp 26))⟩] (some [3, 4, 5, 6, 10, 27]))
(.cond (.tmp 27)
 (.seq (.region [
   ⟨(some 8), none, .simple (.move (.const (.slice none 0 0)))⟩,
   ⟨(some 9), none, .simple (.move (.const (.int .i64 2)))⟩] (some [8, 9]))
 .ret)
 .skip))
(.seq (.region [
  ⟨(some 28), none, .simple (.fieldAddr 0 (.tmp 4))⟩,
  ⟨(some 29), none, .simple (.load none (.tmp 28))⟩,
  ⟨(some 30), none, .simple (.move (.tmp 10))⟩,
  ⟨(some 31), none, .simple (.load (some 2) (.tmp 6))⟩,
  ⟨(some 32), none, .simple (.fieldAddr 3 (.tmp 5))⟩,
  ⟨(some 33), none, .simple (.load none (.tmp 32))⟩,
  ⟨(some 34), none, .simple (.move (.tmp 3))⟩,
  ⟨(some 35), none, .simple (.indexS 3 (.tmp 33) (.tmp 34))⟩,
  ⟨(some 36), none, .simple (.load (some 3) (.tmp 35))⟩,
  ⟨(some 37), none, .call (.tmp 29) [(.tmp 30), (.tmp 31), (.tmp 36)]⟩,
  ⟨(some 8), none, .simple (.move (.tmp 37))⟩,
  ⟨(some 9), none, .simple (.move (.const (.int .i64 0)))⟩] (some [8, 9]))
.ret)))))
theorem k65 : Try.f65.body.bind (compC Try.prog G65) = some c65 := by kernel_rfl
theorem e65 : compRes Try.prog Try.f65.results.toList = some r65 := by kernel_rfl
def F65 : FunX := ⟨false, G65, c65, r65⟩
theorem o65 : FunOk Try.prog 65 F65 := ⟨Try.f65, by kernel_rfl, k65, e65, by kernel_rfl, by kernel_rfl⟩
def G66 : Cfg := ⟨[96, 8], [(0, [0, 4, 5, 6]), (1, [0, 4, 5, 6, 17, 18, 19]), (2, [0, 4, 5, 6, 17, 18, 19, 20]), (3, [0, 4, 5, 6, 7, 8, 17, 18, 19]), (4, [0, 4, 5, 6, 7, 8, 9, 17, 18, 19]), (5, [0, 4, 5, 6, 7, 8, 9, 10, 17, 18, 19]), (6, [0, 4, 5, 6, 7, 8, 9, 11, 12, 17, 18, 19]), (7, [0, 4, 5, 6, 7, 8, 9, 11, 12, 17, 18, 19, 50]), (9, [0, 4, 5, 6, 7, 8, 9, 17, 18, 19, 70]), (10, [0, 4, 5, 6, 9, 17, 18, 19]), (8, [0, 4, 5, 6, 9, 17, 18, 19]), (11, [0, 4, 5, 6, 17, 18, 19]), (12, [0, 4, 5, 6, 17, 18, 19]), (13, [6])], 99, []⟩
def r66 : List CRes := [.tmp 6]
def c66 : CCode :=
(.seq (.region [
  ⟨(some 4), none, .simple (.box false (.tmp 1))⟩,
  ⟨(some 5), none, .simple (.box false (.tmp 2))⟩,
  ⟨(some 6), none, .simple (.move (.const (.slice none 0 0)))⟩] (some [0, 4, 5, 6]))
(.seq (.seq (.region [
  ⟨(some 13), none, .simple (.move (.tmp 0))⟩,
  ⟨(some 14), none, .simple (.nilCheck (.tmp 13))⟩,
  ⟨(some 15), none, .simple (.fieldAddr 0 (.tmp 14))⟩,
  ⟨(some 16), none, .simple (.fieldAddr 2 (.tmp 15))⟩,
  ⟨(some 17), none, .simple (.load none (.tmp 16))⟩,
  ⟨(some 18), none, .simple (.len (.tmp 17))⟩,
  ⟨(some 19), none, .simple (.move (.const (.int .i64 0)))⟩] (some [0, 4, 5, 6, 17, 18, 19]))
(.block 0 (.loop (.seq (.region [
    ⟨(some 20), none, .simple (.bin .lss (.tmp 19) (.tmp 18))⟩] (some [0, 4, 5, 6, 17, 18, 19, 20]))
  (.seq (.cond (.tmp 20)
   .skip
   (.exit 0))
  (.seq (.block 1 (.seq (.region [
     ⟨(some 21), none, .simple (.move (.tmp 19))⟩,
     ⟨(some 22), none, .simple (.indexS 7 (.tmp 17) (.tmp 19))⟩,
     ⟨(some 23), none, .simple (.load (some 7) (.tmp 22))⟩,
     ⟨(some 8), none, .simple (.alloc [(.d (.int .i64 0)), (.d (.int .i64 0)), (.d (.int .i64 0)), (.d (.int .i64 0)), (.d (.int .i64 0)), (.d (.int .i64 0)), (.d (.int .i64 0))])⟩,
     ⟨(some 7), none, .simple (.move (.tmp 21))⟩,
     ⟨none, none, .simple (.store 7 (.tmp 8) (.tmp 23))⟩] (some [0, 4, 5, 6, 7, 8, 17, 18, 19]))
   (.seq (.region [
     ⟨(some 9), none, .simple (.move (.const (.int .i64 0)))⟩] (some [0, 4, 5, 6, 7, 8, 9, 17, 18, 19]))
   (.seq (.region [
     ⟨(some 24), none, .simple (.move (.tmp 0))⟩,
     ⟨(some 25), none, .simple (.nilCheck (.tmp 24))⟩,
     ⟨(some 26), none, .simple (.fieldAddr 0 (.tmp 25))⟩,
     ⟨(some 27), none, .simple (.load (some 6) (.tmp 26))⟩,
     ⟨(some 28), none, .simple (.fieldAddr 1 (.tmp 4))⟩,
     ⟨(some 29), none, .simple (.load none (.tmp 28))⟩,
     ⟨(some 30), none, .simple (.move (.tmp 7))⟩,
     ⟨(some 31), none, .simple (.indexS 1 (.tmp 29) (.tmp 30))⟩,
     ⟨(some 32), none, .simple (.load none (.tmp 31))⟩,
     ⟨(some 33), none, .call (.func 82) [(.tmp 27), (.tmp 32)]⟩,
     ⟨(some 10), none, .simple (.move (.tmp 33))⟩] (some [0, 4, 5, 6, 7, 8, 9, 10, 17, 18, 19]))
   (.seq (.region [
     ⟨(some 34), none, .simple (.fieldAddr 0 (.tmp 4))⟩,
     ⟨(some 35), none, .simple (.load none (.tmp 34))⟩,
     ⟨(some 36), none, .simple (.move (.tmp 7))⟩,
     ⟨(some 37), none, .simple (.indexS 1 (.tmp 35) (.tmp 36))⟩,
     ⟨(some 38), none, .simple (.load none (.tmp 37))⟩,
     ⟨(some 39), none, .simple (.fieldAddr 0 (.tmp 5))⟩,
     ⟨(some 40), none, .simple (.load none (.tmp 39))⟩,
     ⟨(some 41), none, .simple (.bin .lss (.tmp 38) (.tmp 40))⟩,
     ⟨(some 42), none, .simple (.move (.tmp 10))⟩,
     ⟨(some 43), none, .simple (.bin .eql (.tmp 42) (.const (.int .i64 (-1))))⟩,
     ⟨(some 44), none, .simple (.move (.tmp 43))⟩,
     ⟨(some 45), (some (44, false)), .simple (.move (.tmp 10))⟩,
     ⟨(some 46), (some (44, false)), .simple (.fieldAddr 1 (.tmp 5))⟩,
     ⟨(some 47), (some (44, false)), .simple (.load none (.tmp 46))⟩,
     ⟨(some 48), (some (44, false)), .simple (.bin .gtr (.tmp 45) (.tmp 47))⟩,
     ⟨(some 49), none, .simple (.pick (.tmp 44) (.const (.bool true)) (.tmp 48))⟩,
     ⟨(some 11), none, .simple (.move (.tmp 41))⟩,
     ⟨(some 12), none, .simple (.move (.tmp 49))⟩] (some [0, 4, 5, 6, 7, 8, 9, 11, 12, 17, 18, 19]))
   (.seq (.block 2 (.seq (.region [
      ⟨(some 51), none, .simple (.move (.tmp 11))⟩,
      ⟨(some 52), none, .simple (.move (.tmp 51))⟩,
      ⟨(some 53), (some (52, true)), .simple (.move (.tmp 12))⟩,
      ⟨(some 54), none, .simple (.pick (.tmp 52) (.tmp 53) (.const (.bool false)))⟩,
      ⟨(some 50), none, .simple (.move (.tmp 54))⟩] (some [0, 4, 5, 6, 7, 8, 9, 11, 12, 17, 18, 19, 50]))
    (.cond (.tmp 50)
     (.region [
       ⟨(some 55), none, .simple (.fieldAddr 2 (.tmp 5))⟩,
       ⟨(some 56), none, .simple (.load none (.tmp 55))⟩,
       ⟨(some 57), none, .simple (.move (.tmp 0))⟩,
       ⟨(some 58), none, .simple (.fieldAddr 2 (.tmp 8))⟩,
       ⟨(some 59), none, .simple (.load none (.tmp 58))⟩,
       ⟨(some 60), none, .simple (.fieldAddr 0 (.tmp 4))⟩,
       ⟨(some 61), none, .simple (.load none (.tmp 60))⟩,
       ⟨(some 62), none, .simple (.move (.tmp 7))⟩,
       ⟨(some 63), none, .simple (.indexS 1 (.tmp 61) (.tmp 62))⟩,
       ⟨(some 64), none, .simple (.load none (.tmp 63))⟩,
       ⟨(some 65), none, .simple (.fieldAddr 1 (.tmp 5))⟩,
       ⟨(some 66), none, .simple (.load none (.tmp 65))⟩,
       ⟨(some 67), none, .simple (.build [(.d (.int .i64 0)), (.d (.int .i64 0))] [(0, 1, (.tmp 64)), (1, 1, (.tmp 66))])⟩,
       ⟨(some 68), none, .callx (.func 94) [(.tmp 57), (.tmp 59), (.tmp 67)]⟩,
       ⟨(some 69), none, .simple (.bin .mul (.tmp 56) (.tmp 68))⟩,
       ⟨(some 9), none, .simple (.move (.tmp 69))⟩] (some [0, 4, 5, 6, 9, 17, 18, 19]))
     (.seq (.region [
       ⟨(some 71), none, .simple (.move (.tmp 11))⟩,
       ⟨(some 72), none, .simple (.un .not (.tmp 71))⟩,
       ⟨(some 73), none, .simple (.move (.tmp 72))⟩,
       ⟨(some 74), (some (73, true)), .simple (.move (.tmp 12))⟩,
       ⟨(some 75), (some (73, true)), .simple (.un .not (.tmp 74))⟩,
       ⟨(some 76), none, .simple (.pick (.tmp 73) (.tmp 75) (.const (.bool false)))⟩,
       ⟨(some 70), none, .simple (.move (.tmp 76))⟩] (some [0, 4, 5, 6, 7, 8, 9, 17, 18, 19, 70]))
     (.cond (.tmp 70)
      (.region [
        ⟨(some 77), none, .simple (.fieldAddr 2 (.tmp 5))⟩,
        ⟨(some 78), none, .simple (.load none (.tmp 77))⟩,
        ⟨(some 79), none, .simple (.un .neg (.tmp 78))⟩,
        ⟨(some 80), none, .simple (.move (.tmp 0))⟩,
        ⟨(some 81), none, .simple (.fieldAddr 2 (.tmp 8))⟩,
        ⟨(some 82), none, .simple (.load none (.tmp 81))⟩,
        ⟨(some 83), none, .simple (.fieldAddr 0 (.tmp 4))⟩,
        ⟨(some 84), none, .simple (.load none (.tmp 83))⟩,
        ⟨(some 85), none, .simple (.move (.tmp 7))⟩,
        ⟨(some 86), none, .simple (.indexS 1 (.tmp 84) (.tmp 85))⟩,
        ⟨(some 87), none, .simple (.load none (.tmp 86))⟩,
        ⟨(some 88), none, .simple (.fieldAddr 1 (.tmp 5))⟩,
        ⟨(some 89), none, .simple (.load none (.tmp 88))⟩,
        ⟨(some 90), none, .simple (.build [(.d (.int .i64 0)), (.d (.int .i64 0))] [(0, 1, (.tmp 87)), (1, 1, (.tmp 89))])⟩,
        ⟨(some 91), none, .callx (.func 94) [(.tmp 80), (.tmp 82), (.tmp 90)]⟩,
        ⟨(some 92), none, .simple (.bin .mul (.tmp 79) (.tmp 91))⟩,
        ⟨(some 9), none, .simple (.move (.tmp 92))⟩] (some [0, 4, 5, 6, 9, 17, 18, 19]))
      .skip)))))
   (.region [
     ⟨(some 93), none, .simple (.move (.tmp 6))⟩,
     ⟨(some 94), none, .simple (.move (.tmp 9))⟩,
     ⟨(some 95), none, .simple (.bslice false 3 1 1 [(.int .i64 0)] [(0, (.tmp 94))])⟩,
     ⟨(some 96), none, .app 3 1 8 (.tmp 93) (.tmp 95)⟩,
     ⟨(some 6), none, .simple (.move (.tmp 96))⟩] (some [0, 4, 5, 6, 17, 18, 19]))))))))
  (.region [
    ⟨(some 97), none, .simple (.bin .add (.tmp 19) (.const (.int .i64 1)))⟩,
    ⟨(some 19), none, .simple (.move (.tmp 97))⟩] (some [0, 4, 5, 6, 17, 18, 19]))))))))
(.seq (.region [
  ⟨(some 98), none, .simple (.move (.tmp 6))⟩,
  ⟨(some 6), none, .simple (.move (.tmp 98))⟩] (some [6]))
.ret)))
theorem k66 : Try.f66.body.bind (compC Try.prog G66) = some c66 := by kernel_rfl
theorem e66 : compRes Try.prog Try.f66.results.toList = some r66 := by kernel_rfl
def F66 : FunX := ⟨false, G66, c66, r66⟩
theorem o66 : FunOk Try.prog 66 F66 := ⟨Try.f66, by kernel_rfl, k66, e66, by kernel_rfl, by kernel_rfl⟩
def G67 : Cfg := ⟨[], [(0, [0, 4, 5]), (1, [0, 4, 5, 7]), (2, [0, 7, 17, 18, 19]), (3, [0, 7, 17, 18, 19, 20]), (4, [0, 7, 8, 9, 17, 18, 19]), (5, [0, 7, 8, 9, 17, 18, 19]), (6, [0, 7, 17, 18, 19]), (7, [0, 7, 17, 18, 19]), (8, [6])], 56, []⟩
def r67 : List CRes := [.tmp 6]
def c67 : CCode :=
(.seq (.region [
  ⟨(some 4), none, .simple (.box false (.tmp 1))⟩,
  ⟨(some 5), none, .simple (.box false (.tmp 2))⟩,
  ⟨(some 6), none, .simple (.move (.const (.slice none 0 0)))⟩] (some [0, 4, 5]))
(.seq (.region [
  ⟨(some 10), none, .simple (.move (.tmp 0))⟩,
  ⟨(some 11), none, .simple (.load (some 2) (.tmp 4))⟩,
  ⟨(some 12), none, .simple (.load (some 3) (.tmp 5))⟩,
  ⟨(some 13), none, .call (.func 64) [(.tmp 10), (.tmp 11), (.tmp 12)]⟩,
  ⟨(some 7), none, .simple (.move (.tmp 13))⟩] (some [0, 4, 5, 7]))
(.seq (.seq (.region [
  ⟨(some 14), none, .simple (.move (.tmp 0))⟩,
  ⟨(some 15), none, .simple (.load (some 2) (.tmp 4))⟩,
  ⟨(some 16), none, .simple (.load (some 3) (.tmp 5))⟩,
  ⟨(some 17), none, .call (.func 66) [(.tmp 14), (.tmp 15), (.tmp 16)]⟩,
  ⟨(some 18), none, .simple (.len (.tmp 17))⟩,
  ⟨(some 19), none, .simple (.move (.const (.int .i64 0)))⟩] (some [0, 7, 17, 18, 19]))
(.block 0 (.loop (.seq (.region [
    ⟨(some 20), none, .simple (.bin .lss (.tmp 19) (.tmp 18))⟩] (some [0, 7, 17, 18, 19, 20]))
  (.seq (.cond (.tmp 20)
   .skip
   (.exit 0))
  (.seq (.block 1 (.seq (.region [
     ⟨(some 21), none, .simple (.move (.tmp 19))⟩,
     ⟨(some 22), none, .simple (.indexS 1 (.tmp 17) (.tmp 19))⟩,
     ⟨(some 23), none, .simple (.load none (.tmp 22))⟩,
     ⟨(some 8), none, .simple (.move (.tmp 21))⟩,
     ⟨(some 9), none, .simple (.move (.tmp 23))⟩] (some [0, 7, 8, 9, 17, 18, 19]))
   (.seq (.region [
     ⟨(some 24), none, .simple (.move (.tmp 7))⟩,
     ⟨(some 25), none, .simple (.move (.tmp 0))⟩,
     ⟨(some 26), none, .simple (.nilCheck (.tmp 25))⟩,
     ⟨(some 27), none, .simple (.fieldAddr 0 (.tmp 26))⟩,
     ⟨(some 28), none, .simple (.fieldAddr 2 (.tmp 27))⟩,
     ⟨(some 29), none, .simple (.load none (.tmp 28))⟩,
     ⟨(some 30), none, .simple (.move (.tmp 8))⟩,
     ⟨(some 31), none, .simple (.indexS 7 (.tmp 29) (.tmp 30))⟩,
     ⟨(some 32), none, .simple (.fieldAddr 0 (.tmp 31))⟩,
     ⟨(some 33), none, .simple (.load none (.tmp 32))⟩,
     ⟨(some 34), none, .simple (.indexS 1 (.tmp 24) (.tmp 33))⟩,
     ⟨(some 35), none, .simple (.load none (.tmp 34))⟩,
     ⟨(some 36), none, .simple (.move (.tmp 9))⟩,
     ⟨(some 37), none, .simple (.bin .sub (.tmp 35) (.tmp 36))⟩,
     ⟨(some 38), none, .simple (.indexS 1 (.tmp 24) (.tmp 33))⟩,
     ⟨none, none, .simple (.store 1 (.tmp 38) (.tmp 37))⟩] (some [0, 7, 8, 9, 17, 18, 19]))
   (.region [
     ⟨(some 39), none, .simple (.move (.tmp 7))⟩,
     ⟨(some 40), none, .simple (.move (.tmp 0))⟩,
     ⟨(some 41), none, .simple (.nilCheck (.tmp 40))⟩,
     ⟨(some 42), none, .simple (.fieldAddr 0 (.tmp 41))⟩,
     ⟨(some 43), none, .simple (.fieldAddr 2 (.tmp 42))⟩,
     ⟨(some 44), none, .simple (.load none (.tmp 43))⟩,
     ⟨(some 45), none, .simple (.move (.tmp 8))⟩,
     ⟨(some 46), none, .simple (.indexS 7 (.tmp 44) (.tmp 45))⟩,
     ⟨(some 47), none, .simple (.fieldAddr 1 (.tmp 46))⟩,
     ⟨(some 48), none, .simple (.load none (.tmp 47))⟩,
     ⟨(some 49), none, .simple (.indexS 1 (.tmp 39) (.tmp 48))⟩,
     ⟨(some 50), none, .simple (.load none (.tmp 49))⟩,
     ⟨(some 51), none, .simple (.move (.tmp 9))⟩,
     ⟨(some 52), none, .simple (.bin .add (.tmp 50) (.tmp 51))⟩,
     ⟨(some 53), none, .simple (.indexS 1 (.tmp 39) (.tmp 48))⟩,
     ⟨none, none, .simple (.store 1 (.tmp 53) (.tmp 52))⟩] (some [0, 7, 17, 18, 19])))))
  (.region [
    ⟨(some 54), none, .simple (.bin .add (.tmp 19) (.const (.int .i64 1)))⟩,
    ⟨(some 19), none, .simple (.move (.tmp 54))⟩] (some [0, 7, 17, 18, 19]))))))))
(.seq (.region [
  ⟨(some 55), none, .simple (.move (.tmp 7))⟩,
  ⟨(some 6), none, .simple (.move (.tmp 55))⟩] (some [6]))
.ret))))
theorem k67 : Try.f67.body.bind (compC Try.prog G67) = some c67 := by kernel_rfl
theorem e67 : compRes Try.prog Try.f67.results.toList = some r67 := by kernel_rfl
def F67 : FunX := ⟨false, G67, c67, r67⟩
theorem o67 : FunOk Try.prog 67 F67 := ⟨Try.f67, by kernel_rfl, k67, e67, by kernel_rfl, by kernel_rfl⟩
def G68 : Cfg := ⟨[], [(0, [0, 1]), (1, [0, 1, 5]), (2, [0, 1, 5, 15]), (4, [0, 1, 5, 26]), (5, [4]), (3, [0, 1, 5]), (6, [4])], 41, []⟩
def r68 : List CRes := [.tmp 4]
def c68 : CCode :=
(.seq (.region [
  ⟨(some 4), none, .simple (.move (.const (.bool false)))⟩] (some [0, 1]))
(.seq (.seq (.region [
  ⟨(some 5), none, .simple (.move (.const (.int .i64 0)))⟩] (some [0, 1, 5]))
(.block 0 (.loop (.seq (.seq (.region [
    ⟨(some 6), none, .simple (.move (.tmp 5))⟩,
    ⟨(some 7), none, .simple (.move (.tmp 0))⟩,
    ⟨(some 8), none, .simple (.len (.tmp 7))⟩,
    ⟨(some 9), none, .simple (.bin .lss (.tmp 6) (.tmp 8))⟩,
    ⟨(some 10), none, .simple (.move (.tmp 9))⟩,
    ⟨(some 11), (some (10, true)), .simple (.move (.tmp 5))⟩,
    ⟨(some 12), (some (10, true)), .simple (.move (.tmp 1))⟩,
    ⟨(some 13), (some (10, true)), .simple (.len (.tmp 12))⟩,
    ⟨(some 14), (some (10, true)), .simple (.bin .lss (.tmp 11) (.tmp 13))⟩,
    ⟨(some 15), none, .simple (.pick (.tmp 10) (.tmp 14) (.const (.bool false)))⟩] (some [0, 1, 5, 15]))
  (.cond (.tmp 15)
   .skip
   (.exit 0)))
  (.seq (.block 1 (.seq (.region [
     ⟨(some 18), none, .simple (.move (.tmp 0))⟩,
     ⟨(some 19), none, .simple (.move (.tmp 5))⟩,
     ⟨(some 20), none, .simple (.indexS 1 (.tmp 18) (.tmp 19))⟩,
     ⟨(some 21), none, .simple (.load none (.tmp 20))⟩,
     ⟨(some 22), none, .simple (.move (.tmp 1))⟩,
     ⟨(some 23), none, .simple (.move (.tmp 5))⟩,
     ⟨(some 24), none, .simple (.indexS 1 (.tmp 22) (.tmp 23))⟩,
     ⟨(some 25), none, .simple (.load none (.tmp 24))⟩,
     ⟨(some 26), none, .simple (.bin .neq (.tmp 21) (.tmp 25))⟩] (some [0, 1, 5, 26]))
   (.cond (.tmp 26)
    (.seq (.region [
      ⟨(some 27), none, .simple (.move (.tmp 0))⟩,
      ⟨(some 28), none, .simple (.move (.tmp 5))⟩,
      ⟨(some 29), none, .simple (.indexS 1 (.tmp 27) (.tmp 28))⟩,
      ⟨(some 30), none, .simple (.load none (.tmp 29))⟩,
      ⟨(some 31), none, .simple (.move (.tmp 1))⟩,
      ⟨(some 32), none, .simple (.move (.tmp 5))⟩,
      ⟨(some 33), none, .simple (.indexS 1 (.tmp 31) (.tmp 32))⟩,
      ⟨(some 34), none, .simple (.load none (.tmp 33))⟩,
      ⟨(some 35), none, .simple (.bin .lss (.tmp 30) (.tmp 34))⟩,
      ⟨(some 4), none, .simple (.move (.tmp 35))⟩] (some [4]))
    .ret)
    .skip)))
  (.region [
    ⟨(some 16), none, .simple (.move (.tmp 5))⟩,
    ⟨(some 17), none, .simple (.bin .add (.tmp 16) (.const (.int .i64 1)))⟩,
    ⟨(some 5), none, .simple (.move (.tmp 17))⟩] (some [0, 1, 5])))))))
(.seq (.region [
  ⟨(some 36), none, .simple (.move (.tmp 0))⟩,
  ⟨(some 37), none, .simple (.len (.tmp 36))⟩,
  ⟨(some 38), none, .simple (.move (.tmp 1))⟩,
  ⟨(some 39), none, .simple (.len (.tmp 38))⟩,
  ⟨(some 40), none, .simple (.bin .lss (.tmp 37) (.tmp 39))⟩,
  ⟨(some 4), none, .simple (.move (.tmp 40))⟩] (some [4]))
.ret)))
theorem k68 : Try.f68.body.bind (compC Try.prog G68) = some c68 := by kernel_rfl
theorem e68 : compRes Try.prog Try.f68.results.toList = some r68 := by kernel_rfl
def F68 : FunX := ⟨false, G68, c68, r68⟩
theorem o68 : FunOk Try.prog 68 F68 := ⟨Try.f68, by kernel_rfl, k68, e68, by kernel_rfl, by kernel_rfl⟩
def G71 : Cfg := ⟨[], [(0, [0, 1, 2]), (1, [6])], 15, []⟩
def r71 : List CRes := [.tmp 6]
def c71 : CCode :=
(.seq (.region [
  ⟨(some 6), none, .simple (.move (.const (.bool false)))⟩] (some [0, 1, 2]))
(.seq (.region [
  ⟨(some 7), none, .simple (.move (.tmp 1))⟩,
  ⟨(some 8), none, .simple (.move (.tmp 0))⟩,
  ⟨(some 9), none, .simple (.bin .leq (.tmp 7) (.tmp 8))⟩,
  ⟨(some 10), none, .simple (.move (.tmp 9))⟩,
  ⟨(some 11), (some (10, true)), .simple (.move (.tmp 0))⟩,
  ⟨(some 12), (some (10, true)), .simple (.move (.tmp 2))⟩,
  ⟨(some 13), (some (10, true)), .simple (.bin .leq (.tmp 11) (.tmp 12))⟩,
  ⟨(some 14), none, .simple (.pick (.tmp 10) (.tmp 13) (.const (.bool false)))⟩,
  ⟨(some 6), none, .simple (.move (.tmp 14))⟩] (some [6]))
.ret))
theorem k71 : Try.f71.body.bind (compC Try.prog G71) = some c71 := by kernel_rfl
theorem e71 : compRes Try.prog Try.f71.results.toList = some r71 := by kernel_rfl
def F71 : FunX := ⟨false, G71, c71, r71⟩
theorem o71 : FunOk Try.prog 71 F71 := ⟨Try.f71, by kernel_rfl, k71, e71, by kernel_rfl, by kernel_rfl⟩
def G72 : Cfg := ⟨[6], [(0, [1]), (1, [2])], 7, []⟩
def r72 : List CRes := [.tmp 2]
def c72 : CCode :=
(.seq (.region [
  ⟨(some 1), none, .simple (.box false (.tmp 0))⟩,
  ⟨(some 2), none, .simple (.move (.const (.pointer none)))⟩] (some [1]))
(.seq (.region [
  ⟨(some 3), none, .simple (.load (some 6) (.tmp 1))⟩,
  ⟨(some 4), none, .simple (.mkmap)⟩,
  ⟨(some 5), none, .simple (.build [(.d (.int .i64 0)), (.d .nils), (.d .nils), (.d .nils), (.d .nils), (.d .nils), (.d .any)] [(0, 6, (.tmp 3)), (6, 1, (.tmp 4))])⟩,
  ⟨(some 6), none, .simple (.box true (.tmp 5))⟩,
  ⟨(some 2), none, .simple (.move (.tmp 6))⟩] (some [2]))
.ret))
theorem k72 : Try.f72.body.bind (compC Try.prog G72) = some c72 := by kernel_rfl
theorem e72 : compRes Try.prog Try.f72.results.toList = some r72 := by kernel_rfl
def F72 : FunX := ⟨false, G72, c72, r72⟩
theorem o72 : FunOk Try.prog 72 F72 := ⟨Try.f72, by kernel_rfl, k72, e72, by kernel_rfl, by kernel_rfl⟩
def G73 : Cfg := ⟨[3, 33, 8, 6, 7], [(0, [3, 4, 5, 6, 7, 13]), (1, [3, 4, 5, 6, 7, 12, 13]), (2, [3, 4, 5, 6, 7, 8]), (3, [6, 7, 19, 20, 21]), (4, [6, 7, 19, 20, 21, 22]), (5, [6, 7, 9, 10, 19, 20, 21]), (6, [6, 7, 9, 10, 19, 20, 21, 27]), (7, [6, 7, 9, 10, 19, 20, 21]), (8, [6, 7, 19, 20, 21]), (9, [6, 7, 19, 20, 21]), (10, []), (11, [6, 7])], 56, []⟩
def r73 : List CRes := [.cell 6 none, .cell 7 none]
def c73 : CCode :=
(.seq (.region [
  ⟨(some 3), none, .simple (.box true (.tmp 0))⟩,
  ⟨(some 4), none, .simple (.box false (.tmp 1))⟩,
  ⟨(some 5), none, .simple (.box false (.tmp 2))⟩,
  ⟨(some 6), none, .simple (.alloc [(.d .nils)])⟩,
  ⟨(some 7), none, .simple (.alloc [(.d (.bool false))])⟩] (some [3, 4, 5, 6, 7, 13]))
(.seq (.seq (.region [
  ⟨(some 11), none, .simple (.load none (.tmp 3))⟩,
  ⟨(some 12), none, .call (.func 95) [(.tmp 11)]⟩] (some [3, 4, 5, 6, 7, 12, 13]))
(.block 0 (.rangeF (.tmp 12) [13]
  (.region [
    ⟨(some 8), none, .simple (.alloc [(.d .nils), (.d .nils)])⟩,
    ⟨none, none, .simple (.store 2 (.tmp 8) (.tmp 13))⟩] (some [3, 4, 5, 6, 7, 8]))
  (.block 1 (.seq (.seq (.region [
     ⟨(some 14), none, .simple (.fieldAddr 0 (.tmp 4))⟩,
     ⟨(some 15), none, .simple (.load none (.tmp 14))⟩,
     ⟨(some 16), none, .simple (.load none (.tmp 3))⟩,
     ⟨(some 17), none, .simple (.load (some 2) (.tmp 8))⟩,
     ⟨(some 18), none, .simple (.load (some 3) (.tmp 5))⟩,
     ⟨(some 19), none, .call (.tmp 15) [(.tmp 16), (.tmp 17), (.tmp 18)]⟩,
     ⟨(some 20), none, .simple (.len (.tmp 19))⟩,
     ⟨(some 21), none, .simple (.move (.const (.int .i64 0)))⟩] (some [6, 7, 19, 20, 21]))
   (.block 2 (.loop (.seq (.region [
       ⟨(some 22), none, .simple (.bin .lss (.tmp 21) (.tmp 20))⟩] (some [6, 7, 19, 20, 21, 22]))
     (.seq (.cond (.tmp 22)
      .skip
      (.exit 2))
     (.seq (.block 3 (.seq (.region [
        ⟨(some 23), none, .simple (.move (.tmp 21))⟩,
        ⟨(some 24), none, .simple (.indexS 1 (.tmp 19) (.tmp 21))⟩,
        ⟨(some 25), none, .simple (.load none (.tmp 24))⟩,
        ⟨(some 9), none, .simple (.move (.tmp 23))⟩,
        ⟨(some 10), none, .simple (.move (.tmp 25))⟩] (some [6, 7, 9, 10, 19, 20, 21]))
      (.seq (.seq (.region [
        ⟨(some 26), none, .simple (.load none (.tmp 7))⟩,
        ⟨(some 27), none, .simple (.un .not (.tmp 26))⟩] (some [6, 7, 9, 10, 19, 20, 21, 27]))
      (.cond (.tmp 27)
       (.region [
         ⟨(some 28), none, .simple (.load none (.tmp 6))⟩,
         ⟨(some 29), none, .simple (.move (.tmp 10))⟩,
         ⟨(some 30), none, .simple (.move (.tmp 10))⟩,
         ⟨(some 31), none, .simple (.build [(.d (.int .i64 0)), (.d (.int .i64 0))] [(0, 1, (.tmp 29)), (1, 1, (.tmp 30))])⟩,
         ⟨(some 32), none, .simple (.bslice false 71 2 1 [(.int .i64 0), (.int .i64 0)] [(0, (.tmp 31))])⟩,
         ⟨(some 33), none, .app 71 2 16 (.tmp 28) (.tmp 32)⟩,
         ⟨none, none, .simple (.store 1 (.tmp 6) (.tmp 33))⟩] (some [6, 7, 9, 10, 19, 20, 21]))
       .skip))
      (.region [
        ⟨(some 34), none, .simple (.load none (.tmp 6))⟩,
        ⟨(some 35), none, .simple (.move (.tmp 9))⟩,
        ⟨(some 36), none, .simple (.load none (.tmp 6))⟩,
        ⟨(some 37), none, .simple (.move (.tmp 9))⟩,
        ⟨(some 38), none, .simple (.indexS 2 (.tmp 36) (.tmp 37))⟩,
        ⟨(some 39), none, .simple (.fieldAddr 0 (.tmp 38))⟩,
        ⟨(some 40), none, .simple (.load none (.tmp 39))⟩,
        ⟨(some 41), none, .simple (.move (.tmp 10))⟩,
        ⟨(some 42), none, .simple (.bslice false 3 1 2 [(.int .i64 0), (.int .i64 0)] [(0, (.tmp 40)), (1, (.tmp 41))])⟩,
        ⟨(some 44), none, .simple (.load none (.tmp 6))⟩,
        ⟨(some 45), none, .simple (.move (.tmp 9))⟩,
        ⟨(some 46), none, .simple (.indexS 2 (.tmp 44) (.tmp 45))⟩,
        ⟨(some 47), none, .simple (.fieldAddr 1 (.tmp 46))⟩,
        ⟨(some 48), none, .simple (.load none (.tmp 47))⟩,
        ⟨(some 49), none, .simple (.move (.tmp 10))⟩,
        ⟨(some 50), none, .simple (.max [(.tmp 48), (.tmp 49)])⟩,
        ⟨(some 43), none, .callx (.func 96) [(.tmp 42)]⟩,
        ⟨(some 51), none, .simple (.build [(.d (.int .i64 0)), (.d (.int .i64 0))] [(0, 1, (.tmp 43)), (1, 1, (.tmp 50))])⟩,
        ⟨(some 52), none, .simple (.indexS 2 (.tmp 34) (.tmp 35))⟩,
        ⟨none, none, .simple (.store 2 (.tmp 52) (.tmp 51))⟩] (some [6, 7, 19, 20, 21])))))
     (.region [
       ⟨(some 53), none, .simple (.bin .add (.tmp 21) (.const (.int .i64 1)))⟩,
       ⟨(some 21), none, .simple (.move (.tmp 53))⟩] (some [6, 7, 19, 20, 21]))))))))
   (.region [
     ⟨none, none, .simple (.store 1 (.tmp 7) (.const (.bool true)))⟩] (some [])))))))
(.seq (.seq (.region [
  ⟨(some 54), none, .simple (.load none (.tmp 6))⟩] none)
(.both (.region [
   ⟨(some 55), none, .simple (.load none (.tmp 7))⟩,
   ⟨none, none, .simple (.store 1 (.tmp 6) (.tmp 54))⟩,
   ⟨none, none, .simple (.store 1 (.tmp 7) (.tmp 55))⟩] (some [6, 7]))
 (.region [
   ⟨none, none, .simple (.store 1 (.tmp 6) (.tmp 54))⟩,
   ⟨(some 55), none, .simple (.load none (.tmp 7))⟩,
   ⟨none, none, .simple (.store 1 (.tmp 7) (.tmp 55))⟩] (some [6, 7]))))
.ret)))
theorem k73 : Try.f73.body.bind (compC Try.prog G73) = some c73 := by kernel_rfl
theorem e73 : compRes Try.prog Try.f73.results.toList = some r73 := by kernel_rfl
def F73 : FunX := ⟨false, G73, c73, r73⟩
theorem o73 : FunOk Try.prog 73 F73 := ⟨Try.f73, by kernel_rfl, k73, e73, by kernel_rfl, by kernel_rfl⟩
end Go.Proofs.Ytdnefcjbcieecaa
namespace Go.Proofs.Ytdnefcjbcieecaa
open Go Go.Proofs
def G75 : Cfg := ⟨[53, 34, 10, 12], [(0, [0, 1, 2, 3, 4, 5]), (1, [0, 1, 2, 3, 4, 5, 15]), (2, [0, 3, 4, 10]), (3, [0, 3, 4, 10]), (4, [0, 4, 10, 19, 20, 21]), (5, [0, 4, 10, 19, 20, 21, 22]), (6, [0, 4, 10, 11, 12, 19, 20, 21]), (7, [0, 4, 10, 12, 19, 20, 21, 29]), (8, [0, 4, 10, 19, 20, 21]), (9, [0, 4, 10, 19, 20, 21]), (10, [10]), (11, [9]), (12, [0, 2, 3, 5, 13]), (13, [0, 2, 3, 5, 13, 45]), (15, [0, 2, 3, 5, 13, 58]), (16, [9]), (14, [0, 2, 3, 5, 13]), (17, [9])], 59, [(10, [(10, (some 2))])]⟩
def r75 : List CRes := [.tmp 9]
def c75 : CCode :=
(.seq (.region [
  ⟨(some 9), none, .simple (.move (.const (.bool false)))⟩] (some [0, 1, 2, 3, 4, 5]))
(.seq (.seq (.region [
  ⟨(some 14), none, .simple (.move (.tmp 2))⟩,
  ⟨(some 15), none, .simple (.bin .eql (.tmp 14) (.const (.int .i64 0)))⟩] (some [0, 1, 2, 3, 4, 5, 15]))
(.cond (.tmp 15)
 (.seq (.region [
   ⟨(some 16), none, .simple (.load (some 6) (.tmp 3))⟩,
   ⟨(some 10), none, .simple (.alloc [(.d (.int .i64 0)), (.d .nils), (.d .nils), (.d .nils), (.d .nils), (.d .nils)])⟩,
   ⟨none, none, .simple (.store 6 (.tmp 10) (.tmp 16))⟩] (some [0, 3, 4, 10]))
 (.seq (.region [
   ⟨(some 17), none, .simple (.fieldAddr 2 (.tmp 10))⟩,
   ⟨none, none, .simple (.store 1 (.tmp 17) (.const (.slice none 0 0)))⟩] (some [0, 3, 4, 10]))
 (.seq (.seq (.region [
   ⟨(some 18), none, .simple (.fieldAddr 2 (.tmp 3))⟩,
   ⟨(some 19), none, .simple (.load none (.tmp 18))⟩,
   ⟨(some 20), none, .simple (.len (.tmp 19))⟩,
   ⟨(some 21), none, .simple (.move (.const (.int .i64 0)))⟩] (some [0, 4, 10, 19, 20, 21]))
 (.block 0 (.loop (.seq (.region [
     ⟨(some 22), none, .simple (.bin .lss (.tmp 21) (.tmp 20))⟩] (some [0, 4, 10, 19, 20, 21, 22]))
   (.seq (.cond (.tmp 22)
    .skip
    (.exit 0))
   (.seq (.block 1 (.seq (.region [
      ⟨(some 23), none, .simple (.move (.tmp 21))⟩,
      ⟨(some 24), none, .simple (.indexS 7 (.tmp 19) (.tmp 21))⟩,
      ⟨(some 25), none, .simple (.load (some 7) (.tmp 24))⟩,
      ⟨(some 12), none, .simple (.alloc [(.d (.int .i64 0)), (.d (.int .i64 0)), (.d (.int .i64 0)), (.d (.int .i64 0)), (.d (.int .i64 0)), (.d (.int .i64 0)), (.d (.int .i64 0))])⟩,
      ⟨(some 11), none, .simple (.move (.tmp 23))⟩,
      ⟨none, none, .simple (.store 7 (.tmp 12) (.tmp 25))⟩] (some [0, 4, 10, 11, 12, 19, 20, 21]))
    (.seq (.region [
      ⟨(some 26), none, .simple (.move (.tmp 0))⟩,
      ⟨(some 27), none, .simple (.move (.tmp 11))⟩,
      ⟨(some 28), none, .call (.func 76) [(.tmp 26), (.tmp 27)]⟩,
      ⟨(some 29), none, .simple (.un .not (.tmp 28))⟩] (some [0, 4, 10, 12, 19, 20, 21, 29]))
    (.cond (.tmp 29)
     (.region [
       ⟨(some 30), none, .simple (.fieldAddr 2 (.tmp 10))⟩,
       ⟨(some 31), none, .simple (.load none (.tmp 30))⟩,
       ⟨(some 32), none, .simple (.load (some 7) (.tmp 12))⟩,
       ⟨(some 33), none, .simple (.bslice false 93 7 1 [(.int .i64 0), (.int .i64 0), (.int .i64 0), (.int .i64 0), (.int .i64 0), (.int .i64 0), (.int .i64 0)] [(0, (.tmp 32))])⟩,
       ⟨(some 34), none, .app 93 7 56 (.tmp 31) (.tmp 33)⟩,
       ⟨(some 35), none, .simple (.fieldAddr 2 (.tmp 10))⟩,
       ⟨none, none, .simple (.store 1 (.tmp 35) (.tmp 34))⟩] (some [0, 4, 10, 19, 20, 21]))
     .skip))))
   (.region [
     ⟨(some 36), none, .simple (.bin .add (.tmp 21) (.const (.int .i64 1)))⟩,
     ⟨(some 21), none, .simple (.move (.tmp 36))⟩] (some [0, 4, 10, 19, 20, 21]))))))))
 (.seq (.seq (.frz (10, (some 2)))
 (.region [
   ⟨(some 37), none, .simple (.move (.tmp 0))⟩,
   ⟨none, none, .simple (.store 1 (.tmp 4) (.tmp 37))⟩] (some [10])))
 (.seq (.region [
   ⟨(some 38), none, .simple (.load (some 6) (.tmp 10))⟩,
   ⟨(some 39), none, .call (.func 77) [(.tmp 38)]⟩,
   ⟨(some 9), none, .simple (.move (.tmp 39))⟩] (some [9]))
 .ret)))))
 .skip))
(.seq (.seq (.region [
  ⟨(some 40), none, .simple (.move (.tmp 1))⟩,
  ⟨(some 13), none, .simple (.move (.tmp 40))⟩] (some [0, 2, 3, 5, 13]))
(.block 2 (.loop (.seq (.seq (.region [
    ⟨(some 41), none, .simple (.move (.tmp 13))⟩,
    ⟨(some 42), none, .simple (.fieldAddr 2 (.tmp 3))⟩,
    ⟨(some 43), none, .simple (.load none (.tmp 42))⟩,
    ⟨(some 44), none, .simple (.len (.tmp 43))⟩,
    ⟨(some 45), none, .simple (.bin .lss (.tmp 41) (.tmp 44))⟩] (some [0, 2, 3, 5, 13, 45]))
  (.cond (.tmp 45)
   .skip
   (.exit 2)))
  (.seq (.block 3 (.seq (.seq (.region [
     ⟨(some 49), none, .simple (.move (.tmp 0))⟩,
     ⟨(some 51), none, .simple (.move (.tmp 13))⟩,
     ⟨(some 52), none, .simple (.bslice false 3 1 1 [(.int .i64 0)] [(0, (.tmp 51))])⟩,
     ⟨(some 54), none, .simple (.move (.tmp 13))⟩,
     ⟨(some 55), none, .simple (.bin .add (.tmp 54) (.const (.int .i64 1)))⟩,
     ⟨(some 56), none, .simple (.move (.tmp 2))⟩,
     ⟨(some 57), none, .simple (.bin .sub (.tmp 56) (.const (.int .i64 1)))⟩] none)
   (.both (.region [
      ⟨(some 48), none, .simple (.load none (.tmp 5))⟩,
      ⟨(some 50), none, .callx (.func 78) [(.tmp 49)]⟩,
      ⟨(some 53), none, .app 3 1 8 (.tmp 50) (.tmp 52)⟩,
      ⟨(some 58), none, .call (.tmp 48) [(.tmp 53), (.tmp 55), (.tmp 57)]⟩] (some [0, 2, 3, 5, 13, 58]))
    (.seq (.region [
      ⟨(some 50), none, .callx (.func 78) [(.tmp 49)]⟩] none)
    (.both (.region [
       ⟨(some 48), none, .simple (.load none (.tmp 5))⟩,
       ⟨(some 53), none, .app 3 1 8 (.tmp 50) (.tmp 52)⟩,
       ⟨(some 58), none, .call (.tmp 48) [(.tmp 53), (.tmp 55), (.tmp 57)]⟩] (some [0, 2, 3, 5, 13, 58]))
     (.region [
       ⟨(some 53), none, .app 3 1 8 (.tmp 50) (.tmp 52)⟩,
       ⟨(some 48), none, .simple (.load none (.tmp 5))⟩,
       ⟨(some 58), none, .call (.tmp 48) [(.tmp 53), (.tmp 55), (.tmp 57)]⟩] (some [0, 2, 3, 5, 13, 58]))))))
   (.cond (.tmp 58)
    (.seq (.region [
      ⟨(some 9), none, .simple (.move (.const (.bool true)))⟩] (some [9]))
    .ret)
    .skip)))
  (.region [
    ⟨(some 46), none, .simple (.move (.tmp 13))⟩,
    ⟨(some 47), none, .simple (.bin .add (.tmp 46) (.const (.int .i64 1)))⟩,
    ⟨(some 13), none, .simple (.move (.tmp 47))⟩] (some [0, 2, 3, 5, 13])))))))
(.seq (.region [
  ⟨(some 9), none, .simple (.move (.const (.bool false)))⟩] (some [9]))
.ret))))
theorem k75 : Try.f75.body.bind (compC Try.prog G75) = some c75 := by kernel_rfl
theorem e75 : compRes Try.prog Try.f75.results.toList = some r75 := by kernel_rfl
def F75 : FunX := ⟨false, G75, c75, r75⟩
theorem o75 : FunOk Try.prog 75 F75 := ⟨Try.f75, by kernel_rfl, k75, e75, by kernel_rfl, by kernel_rfl⟩
def G76 : Cfg := ⟨[], [(0, [0, 1]), (1, [4])], 9, []⟩
def r76 : List CRes := [.tmp 4]
def c76 : CCode :=
(.seq (.region [
  ⟨(some 4), none, .simple (.move (.const (.bool false)))⟩] (some [0, 1]))
(.seq (.region [
  ⟨(some 5), none, .simple (.move (.tmp 0))⟩,
  ⟨(some 6), none, .simple (.move (.tmp 1))⟩,
  ⟨(some 7), none, .call (.func 97) [(.tmp 5), (.tmp 6)]⟩,
  ⟨(some 8), none, .simple (.bin .geq (.tmp 7) (.const (.int .i64 0)))⟩,
  ⟨(some 4), none, .simple (.move (.tmp 8))⟩] (some [4]))
.ret))
theorem k76 : Try.f76.body.bind (compC Try.prog G76) = some c76 := by kernel_rfl
theorem e76 : compRes Try.prog Try.f76.results.toList = some r76 := by kernel_rfl
def F76 : FunX := ⟨false, G76, c76, r76⟩
theorem o76 : FunOk Try.prog 76 F76 := ⟨Try.f76, by kernel_rfl, k76, e76, by kernel_rfl, by kernel_rfl⟩
def G77 : Cfg := ⟨[2], [(0, [1, 2]), (1, [2, 5]), (2, [2]), (3, [2])], 7, []⟩
def r77 : List CRes := [.cell 2 none]
def c77 : CCode :=
(.seq (.region [
  ⟨(some 1), none, .simple (.box false (.tmp 0))⟩,
  ⟨(some 2), none, .simple (.alloc [(.d (.bool false))])⟩] (some [1, 2]))
(.seq (.seq (.region [
  ⟨(some 3), none, .simple (.load (some 6) (.tmp 1))⟩,
  ⟨(some 4), none, .call (.func 72) [(.tmp 3)]⟩,
  ⟨(some 5), none, .call (.func 95) [(.tmp 4)]⟩] (some [2, 5]))
(.block 0 (.rangeF (.tmp 5) [6]
  .skip
  (.block 1 (.seq (.region [
     ⟨none, none, .simple (.store 1 (.tmp 2) (.const (.bool true)))⟩] (some [2]))
   .ret)))))
(.seq (.region [
  ⟨none, none, .simple (.store 1 (.tmp 2) (.const (.bool false)))⟩] (some [2]))
.ret)))
theorem k77 : Try.f77.body.bind (compC Try.prog G77) = some c77 := by kernel_rfl
theorem e77 : compRes Try.prog Try.f77.results.toList = some r77 := by kernel_rfl
def F77 : FunX := ⟨false, G77, c77, r77⟩
theorem o77 : FunOk Try.prog 77 F77 := ⟨Try.f77, by kernel_rfl, k77, e77, by kernel_rfl, by kernel_rfl⟩
def G78 : Cfg := ⟨[7, 5], [(0, [0]), (1, [0, 4]), (2, [2]), (3, [2])], 8, []⟩
def r78 : List CRes := [.tmp 2]
def c78 : CCode :=
(.seq (.region [
  ⟨(some 2), none, .simple (.move (.const (.slice none 0 0)))⟩] (some [0]))
(.seq (.seq (.region [
  ⟨(some 3), none, .simple (.move (.tmp 0))⟩,
  ⟨(some 4), none, .simple (.isNil 0 false (.tmp 3))⟩] (some [0, 4]))
(.cond (.tmp 4)
 (.seq (.region [
   ⟨(some 2), none, .simple (.move (.const (.slice none 0 0)))⟩] (some [2]))
 .ret)
 .skip))
(.seq (.region [
  ⟨(some 5), none, .simple (.bslice true 3 1 0 [] [])⟩,
  ⟨(some 6), none, .simple (.move (.tmp 0))⟩,
  ⟨(some 7), none, .app 3 1 8 (.tmp 5) (.tmp 6)⟩,
  ⟨(some 2), none, .simple (.move (.tmp 7))⟩] (some [2]))
.ret)))
theorem k78 : Try.f78.body.bind (compC Try.prog G78) = some c78 := by kernel_rfl
theorem e78 : compRes Try.prog Try.f78.results.toList = some r78 := by kernel_rfl
def F78 : FunX := ⟨false, G78, c78, r78⟩
theorem o78 : FunOk Try.prog 78 F78 := ⟨Try.f78, by kernel_rfl, k78, e78, by kernel_rfl, by kernel_rfl⟩
def G82 : Cfg := ⟨[3], [(0, [2, 3]), (1, [2, 3, 6]), (3, [2, 3, 13]), (4, [4]), (2, [2, 3]), (5, [4])], 15, []⟩
def r82 : List CRes := [.tmp 4]
def c82 : CCode :=
(.seq (.region [
  ⟨(some 2), none, .simple (.box false (.tmp 0))⟩,
  ⟨(some 3), none, .simple (.box true (.tmp 1))⟩,
  ⟨(some 4), none, .simple (.move (.const (.int .i64 0)))⟩] (some [2, 3]))
(.seq (.block 0 (.loop (.seq (.seq (.region [
    ⟨(some 5), none, .simple (.load none (.tmp 3))⟩,
    ⟨(some 6), none, .call (.func 59) [(.tmp 5)]⟩] (some [2, 3, 6]))
  (.cond (.tmp 6)
   .skip
   (.exit 0)))
  (.seq (.block 1 (.seq (.region [
     ⟨(some 9), none, .simple (.fieldAddr 5 (.tmp 2))⟩,
     ⟨(some 10), none, .simple (.load none (.tmp 9))⟩,
     ⟨(some 11), none, .simple (.mkfn (.func 99) [] [(.tmp 3)])⟩,
     ⟨(some 12), none, .call (.func 98) [(.tmp 10), (.tmp 11)]⟩,
     ⟨(some 13), none, .simple (.un .not (.tmp 12))⟩] (some [2, 3, 13]))
   (.cond (.tmp 13)
    (.seq (.region [
      ⟨(some 14), none, .simple (.load none (.tmp 3))⟩,
      ⟨(some 4), none, .simple (.move (.tmp 14))⟩] (some [4]))
    .ret)
    .skip)))
  (.region [
    ⟨(some 7), none, .simple (.load none (.tmp 3))⟩,
    ⟨(some 8), none, .simple (.bin .add (.tmp 7) (.const (.int .i64 1)))⟩,
    ⟨none, none, .simple (.store 1 (.tmp 3) (.tmp 8))⟩] (some [2, 3]))))))
(.seq (.region [
  ⟨(some 4), none, .simple (.move (.const (.int .i64 (-1))))⟩] (some [4]))
.ret)))
theorem k82 : Try.f82.body.bind (compC Try.prog G82) = some c82 := by kernel_rfl
theorem e82 : compRes Try.prog Try.f82.results.toList = some r82 := by kernel_rfl
def F82 : FunX := ⟨false, G82, c82, r82⟩
theorem o82 : FunOk Try.prog 82 F82 := ⟨Try.f82, by kernel_rfl, k82, e82, by kernel_rfl, by kernel_rfl⟩
def G83 : Cfg := ⟨[], [(0, [2, 3]), (1, [4])], 37, []⟩
def r83 : List CRes := [.tmp 4]
def c83 : CCode :=
(.seq (.region [
  ⟨(some 2), none, .simple (.box false (.tmp 0))⟩,
  ⟨(some 3), none, .simple (.box false (.tmp 1))⟩,
  ⟨(some 4), none, .simple (.move (.const (.bool false)))⟩] (some [2, 3]))
(.seq (.region [
  ⟨(some 5), none, .simple (.load (some 6) (.tmp 2))⟩,
  ⟨(some 6), none, .simple (.fieldAddr 0 (.tmp 3))⟩,
  ⟨(some 7), none, .simple (.load none (.tmp 6))⟩,
  ⟨(some 8), none, .call (.func 100) [(.tmp 5), (.tmp 7)]⟩,
  ⟨(some 9), none, .simple (.move (.tmp 8))⟩,
  ⟨(some 10), (some (9, true)), .simple (.load (some 6) (.tmp 2))⟩,
  ⟨(some 11), (some (9, true)), .simple (.fieldAddr 1 (.tmp 3))⟩,
  ⟨(some 12), (some (9, true)), .simple (.load none (.tmp 11))⟩,
  ⟨(some 13), (some (9, true)), .call (.func 100) [(.tmp 10), (.tmp 12)]⟩,
  ⟨(some 14), none, .simple (.pick (.tmp 9) (.tmp 13) (.const (.bool false)))⟩,
  ⟨(some 15), none, .simple (.move (.tmp 14))⟩,
  ⟨(some 16), (some (15, true)), .simple (.fieldAddr 0 (.tmp 3))⟩,
  ⟨(some 17), (some (15, true)), .simple (.load none (.tmp 16))⟩,
  ⟨(some 18), (some (15, true)), .simple (.fieldAddr 1 (.tmp 3))⟩,
  ⟨(some 19), (some (15, true)), .simple (.load none (.tmp 18))⟩,
  ⟨(some 20), (some (15, true)), .simple (.bin .neq (.tmp 17) (.tmp 19))⟩,
  ⟨(some 21), none, .simple (.pick (.tmp 15) (.tmp 20) (.const (.bool false)))⟩,
  ⟨(some 22), none, .simple (.move (.tmp 21))⟩,
  ⟨(some 23), (some (22, true)), .simple (.fieldAddr 2 (.tmp 3))⟩,
  ⟨(some 24), (some (22, true)), .simple (.load none (.tmp 23))⟩,
  ⟨(some 25), (some (22, true)), .call (.func 71) [(.tmp 24), (.const (.int .i64 1)), (.const (.int .i64 100))]⟩,
  ⟨(some 26), none, .simple (.pick (.tmp 22) (.tmp 25) (.const (.bool false)))⟩,
  ⟨(some 27), none, .simple (.move (.tmp 26))⟩,
  ⟨(some 28), (some (27, true)), .simple (.fieldAddr 3 (.tmp 3))⟩,
  ⟨(some 29), (some (27, true)), .simple (.load (some 2) (.tmp 28))⟩,
  ⟨(some 30), (some (27, true)), .call (.func 101) [(.tmp 29)]⟩,
  ⟨(some 31), none, .simple (.pick (.tmp 27) (.tmp 30) (.const (.bool false)))⟩,
  ⟨(some 32), none, .simple (.move (.tmp 31))⟩,
  ⟨(some 33), (some (32, true)), .simple (.fieldAddr 5 (.tmp 3))⟩,
  ⟨(some 34), (some (32, true)), .simple (.load (some 2) (.tmp 33))⟩,
  ⟨(some 35), (some (32, true)), .call (.func 101) [(.tmp 34)]⟩,
  ⟨(some 36), none, .simple (.pick (.tmp 32) (.tmp 35) (.const (.bool false)))⟩,
  ⟨(some 4), none, .simple (.move (.tmp 36))⟩] (some [4]))
.ret))
theorem k83 : Try.f83.body.bind (compC Try.prog G83) = some c83 := by kernel_rfl
theorem e83 : compRes Try.prog Try.f83.results.toList = some r83 := by kernel_rfl
def F83 : FunX := ⟨false, G83, c83, r83⟩
theorem o83 : FunOk Try.prog 83 F83 := ⟨Try.f83, by kernel_rfl, k83, e83, by kernel_rfl, by kernel_rfl⟩
def G84 : Cfg := ⟨[3], [(0, [0, 3]), (1, [4])], 9, []⟩
def r84 : List CRes := [.tmp 4]
def c84 : CCode :=
(.seq (.region [
  ⟨(some 3), none, .simple (.box true (.tmp 1))⟩,
  ⟨(some 4), none, .simple (.move (.const (.bool false)))⟩] (some [0, 3]))
(.seq (.region [
  ⟨(some 5), none, .simple (.move (.tmp 0))⟩,
  ⟨(some 6), none, .simple (.mkfn (.func 103) [] [(.tmp 3)])⟩,
  ⟨(some 7), none, .call (.func 102) [(.tmp 5), (.tmp 6)]⟩,
  ⟨(some 8), none, .simple (.un .not (.tmp 7))⟩,
  ⟨(some 4), none, .simple (.move (.tmp 8))⟩] (some [4]))
.ret))
theorem k84 : Try.f84.body.bind (compC Try.prog G84) = some c84 := by kernel_rfl
theorem e84 : compRes Try.prog Try.f84.results.toList = some r84 := by kernel_rfl
def F84 : FunX := ⟨false, G84, c84, r84⟩
theorem o84 : FunOk Try.prog 84 F84 := ⟨Try.f84, by kernel_rfl, k84, e84, by kernel_rfl, by kernel_rfl⟩
def G85 : Cfg := ⟨[], [(0, [1, 2]), (1, [4])], 11, []⟩
def r85 : List CRes := [.tmp 4]
def c85 : CCode :=
(.seq (.region [
  ⟨(some 2), none, .simple (.box false (.tmp 0))⟩,
  ⟨(some 4), none, .simple (.move (.const (.bool false)))⟩] (some [1, 2]))
(.seq (.region [
  ⟨(some 5), none, .simple (.move (.tmp 1))⟩,
  ⟨(some 6), none, .simple (.fieldAddr 0 (.tmp 2))⟩,
  ⟨(some 7), none, .simple (.load none (.tmp 6))⟩,
  ⟨(some 8), none, .simple (.fieldAddr 1 (.tmp 2))⟩,
  ⟨(some 9), none, .simple (.load none (.tmp 8))⟩,
  ⟨(some 10), none, .call (.func 71) [(.tmp 5), (.tmp 7), (.tmp 9)]⟩,
  ⟨(some 4), none, .simple (.move (.tmp 10))⟩] (some [4]))
.ret))
theorem k85 : Try.f85.body.bind (compC Try.prog G85) = some c85 := by kernel_rfl
theorem e85 : compRes Try.prog Try.f85.results.toList = some r85 := by kernel_rfl
def F85 : FunX := ⟨false, G85, c85, r85⟩
theorem o85 : FunOk Try.prog 85 F85 := ⟨Try.f85, by kernel_rfl, k85, e85, by kernel_rfl, by kernel_rfl⟩
def G86 : Cfg := ⟨[3], [(0, [0, 3]), (1, [4])], 9, []⟩
def r86 : List CRes := [.tmp 4]
def c86 : CCode :=
(.seq (.region [
  ⟨(some 3), none, .simple (.box true (.tmp 1))⟩,
  ⟨(some 4), none, .simple (.move (.const (.bool false)))⟩] (some [0, 3]))
(.seq (.region [
  ⟨(some 5), none, .simple (.move (.tmp 0))⟩,
  ⟨(some 6), none, .simple (.mkfn (.func 105) [] [(.tmp 3)])⟩,
  ⟨(some 7), none, .call (.func 104) [(.tmp 5), (.tmp 6)]⟩,
  ⟨(some 8), none, .simple (.un .not (.tmp 7))⟩,
  ⟨(some 4), none, .simple (.move (.tmp 8))⟩] (some [4]))
.ret))
theorem k86 : Try.f86.body.bind (compC Try.prog G86) = some c86 := by kernel_rfl
theorem e86 : compRes Try.prog Try.f86.results.toList = some r86 := by kernel_rfl
def F86 : FunX := ⟨false, G86, c86, r86⟩
theorem o86 : FunOk Try.prog 86 F86 := ⟨Try.f86, by kernel_rfl, k86, e86, by kernel_rfl, by kernel_rfl⟩
def G87 : Cfg := ⟨[3], [(0, [0, 3]), (1, [4])], 9, []⟩
def r87 : List CRes := [.tmp 4]
def c87 : CCode :=
(.seq (.region [
  ⟨(some 3), none, .simple (.box true (.tmp 1))⟩,
  ⟨(some 4), none, .simple (.move (.const (.bool false)))⟩] (some [0, 3]))
(.seq (.region [
  ⟨(some 5), none, .simple (.move (.tmp 0))⟩,
  ⟨(some 6), none, .simple (.mkfn (.func 107) [] [(.tmp 3)])⟩,
  ⟨(some 7), none, .call (.func 106) [(.tmp 5), (.tmp 6)]⟩,
  ⟨(some 8), none, .simple (.un .not (.tmp 7))⟩,
  ⟨(some 4), none, .simple (.move (.tmp 8))⟩] (some [4]))
.ret))
theorem k87 : Try.f87.body.bind (compC Try.prog G87) = some c87 := by kernel_rfl
theorem e87 : compRes Try.prog Try.f87.results.toList = some r87 := by kernel_rfl
def F87 : FunX := ⟨false, G87, c87, r87⟩
theorem o87 : FunOk Try.prog 87 F87 := ⟨Try.f87, by kernel_rfl, k87, e87, by kernel_rfl, by kernel_rfl⟩
def G88 : Cfg := ⟨[], [(0, [1]), (1, [2])], 14, []⟩
def r88 : List CRes := [.tmp 2]
def c88 : CCode :=
(.seq (.region [
  ⟨(some 1), none, .simple (.box false (.tmp 0))⟩,
  ⟨(some 2), none, .simple (.move (.const (.bool false)))⟩] (some [1]))
(.seq (.region [
  ⟨(some 3), none, .simple (.fieldAddr 0 (.tmp 1))⟩,
  ⟨(some 4), none, .simple (.load none (.tmp 3))⟩,
  ⟨(some 5), none, .simple (.fieldAddr 1 (.tmp 1))⟩,
  ⟨(some 6), none, .simple (.load none (.tmp 5))⟩,
  ⟨(some 7), none, .simple (.build [(.d (.int .i64 0)), (.d (.int .i64 0))] [(0, 1, (.tmp 4)), (1, 1, (.tmp 6))])⟩,
  ⟨(some 8), none, .call (.func 91) [(.tmp 7)]⟩,
  ⟨(some 9), none, .simple (.move (.tmp 8))⟩,
  ⟨(some 10), (some (9, true)), .simple (.fieldAddr 2 (.tmp 1))⟩,
  ⟨(some 11), (some (9, true)), .simple (.load none (.tmp 10))⟩,
  ⟨(some 12), (some (9, true)), .call (.func 71) [(.tmp 11), (.const (.int .i64 0)), (.const (.int .i64 50))]⟩,
  ⟨(some 13), none, .simple (.pick (.tmp 9) (.tmp 12) (.const (.bool false)))⟩,
  ⟨(some 2), none, .simple (.move (.tmp 13))⟩] (some [2]))
.ret))
theorem k88 : Try.f88.body.bind (compC Try.prog G88) = some c88 := by kernel_rfl
theorem e88 : compRes Try.prog Try.f88.results.toList = some r88 := by kernel_rfl
def F88 : FunX := ⟨false, G88, c88, r88⟩
theorem o88 : FunOk Try.prog 88 F88 := ⟨Try.f88, by kernel_rfl, k88, e88, by kernel_rfl, by kernel_rfl⟩
def G89 : Cfg := ⟨[3], [(0, [1]), (1, [1, 3]), (2, [2])], 8, []⟩
def r89 : List CRes := [.tmp 2]
def c89 : CCode :=
(.seq (.region [
  ⟨(some 1), none, .simple (.box false (.tmp 0))⟩,
  ⟨(some 2), none, .simple (.move (.const (.bool false)))⟩] (some [1]))
(.seq (.region [
  ⟨(some 3), none, .simple (.alloc [(.d (.int .i64 0))])⟩,
  ⟨none, none, .simple (.store 1 (.tmp 3) (.const (.int .i64 (-1))))⟩] (some [1, 3]))
(.seq (.region [
  ⟨(some 4), none, .simple (.fieldAddr 4 (.tmp 1))⟩,
  ⟨(some 5), none, .simple (.load none (.tmp 4))⟩,
  ⟨(some 6), none, .simple (.mkfn (.func 109) [] [(.tmp 3)])⟩,
  ⟨(some 7), none, .call (.func 108) [(.tmp 5), (.tmp 6)]⟩,
  ⟨(some 2), none, .simple (.move (.tmp 7))⟩] (some [2]))
.ret)))
theorem k89 : Try.f89.body.bind (compC Try.prog G89) = some c89 := by kernel_rfl
theorem e89 : compRes Try.prog Try.f89.results.toList = some r89 := by kernel_rfl
def F89 : FunX := ⟨false, G89, c89, r89⟩
theorem o89 : FunOk Try.prog 89 F89 := ⟨Try.f89, by kernel_rfl, k89, e89, by kernel_rfl, by kernel_rfl⟩
def G90 : Cfg := ⟨[3], [(0, [0, 3]), (1, [4])], 9, []⟩
def r90 : List CRes := [.tmp 4]
def c90 : CCode :=
(.seq (.region [
  ⟨(some 3), none, .simple (.box true (.tmp 1))⟩,
  ⟨(some 4), none, .simple (.move (.const (.bool false)))⟩] (some [0, 3]))
(.seq (.region [
  ⟨(some 5), none, .simple (.move (.tmp 0))⟩,
  ⟨(some 6), none, .simple (.mkfn (.func 110) [] [(.tmp 3)])⟩,
  ⟨(some 7), none, .call (.func 98) [(.tmp 5), (.tmp 6)]⟩,
  ⟨(some 8), none, .simple (.un .not (.tmp 7))⟩,
  ⟨(some 4), none, .simple (.move (.tmp 8))⟩] (some [4]))
.ret))
theorem k90 : Try.f90.body.bind (compC Try.prog G90) = some c90 := by kernel_rfl
theorem e90 : compRes Try.prog Try.f90.results.toList = some r90 := by kernel_rfl
def F90 : FunX := ⟨false, G90, c90, r90⟩
theorem o90 : FunOk Try.prog 90 F90 := ⟨Try.f90, by kernel_rfl, k90, e90, by kernel_rfl, by kernel_rfl⟩
def G91 : Cfg := ⟨[], [(0, [1]), (1, [2])], 18, []⟩
def r91 : List CRes := [.tmp 2]
def c91 : CCode :=
(.seq (.region [
  ⟨(some 1), none, .simple (.box false (.tmp 0))⟩,
  ⟨(some 2), none, .simple (.move (.const (.bool false)))⟩] (some [1]))
(.seq (.region [
  ⟨(some 3), none, .simple (.fieldAddr 0 (.tmp 1))⟩,
  ⟨(some 4), none, .simple (.load none (.tmp 3))⟩,
  ⟨(some 5), none, .call (.func 59) [(.tmp 4)]⟩,
  ⟨(some 6), none, .simple (.move (.tmp 5))⟩,
  ⟨(some 7), (some (6, true)), .simple (.fieldAddr 1 (.tmp 1))⟩,
  ⟨(some 8), (some (6, true)), .simple (.load none (.tmp 7))⟩,
  ⟨(some 9), (some (6, true)), .call (.func 59) [(.tmp 8)]⟩,
  ⟨(some 10), none, .simple (.pick (.tmp 6) (.tmp 9) (.const (.bool false)))⟩,
  ⟨(some 11), none, .simple (.move (.tmp 10))⟩,
  ⟨(some 12), (some (11, true)), .simple (.fieldAddr 0 (.tmp 1))⟩,
  ⟨(some 13), (some (11, true)), .simple (.load none (.tmp 12))⟩,
  ⟨(some 14), (some (11, true)), .simple (.fieldAddr 1 (.tmp 1))⟩,
  ⟨(some 15), (some (11, true)), .simple (.load none (.tmp 14))⟩,
  ⟨(some 16), (some (11, true)), .simple (.bin .leq (.tmp 13) (.tmp 15))⟩,
  ⟨(some 17), none, .simple (.pick (.tmp 11) (.tmp 16) (.const (.bool false)))⟩,
  ⟨(some 2), none, .simple (.move (.tmp 17))⟩] (some [2]))
.ret))
theorem k91 : Try.f91.body.bind (compC Try.prog G91) = some c91 := by kernel_rfl
theorem e91 : compRes Try.prog Try.f91.results.toList = some r91 := by kernel_rfl
def F91 : FunX := ⟨false, G91, c91, r91⟩
theorem o91 : FunOk Try.prog 91 F91 := ⟨Try.f91, by kernel_rfl, k91, e91, by kernel_rfl, by kernel_rfl⟩
def G92 : Cfg := ⟨[6], [(0, [2, 3]), (1, [2, 3, 22]), (2, [4]), (3, [3, 24, 25, 26]), (4, [3, 24, 25, 26, 27]), (5, [3, 5, 6, 24, 25, 26]), (6, [3, 24, 25, 26, 63]), (7, [4]), (8, [3, 24, 25, 26]), (9, [4])], 65, []⟩
def r92 : List CRes := [.tmp 4]
def c92 : CCode :=
(.seq (.region [
  ⟨(some 2), none, .simple (.box false (.tmp 0))⟩,
  ⟨(some 3), none, .simple (.box false (.tmp 1))⟩,
  ⟨(some 4), none, .simple (.move (.const (.bool false)))⟩] (some [2, 3]))
(.seq (.seq (.region [
  ⟨(some 7), none, .simple (.fieldAddr 0 (.tmp 3))⟩,
  ⟨(some 8), none, .simple (.load none (.tmp 7))⟩,
  ⟨(some 9), none, .simple (.len (.tmp 8))⟩,
  ⟨(some 10), none, .simple (.fieldAddr 2 (.tmp 2))⟩,
  ⟨(some 11), none, .simple (.load none (.tmp 10))⟩,
  ⟨(some 12), none, .simple (.len (.tmp 11))⟩,
  ⟨(some 13), none, .simple (.bin .neq (.tmp 9) (.tmp 12))⟩,
  ⟨(some 14), none, .simple (.move (.tmp 13))⟩,
  ⟨(some 15), (some (14, false)), .simple (.fieldAddr 1 (.tmp 3))⟩,
  ⟨(some 16), (some (14, false)), .simple (.load none (.tmp 15))⟩,
  ⟨(some 17), (some (14, false)), .simple (.len (.tmp 16))⟩,
  ⟨(some 18), (some (14, false)), .simple (.fieldAddr 2 (.tmp 2))⟩,
  ⟨(some 19), (some (14, false)), .simple (.load none (.tmp 18))⟩,
  ⟨(some 20), (some (14, false)), .simple (.len (.tmp 19))⟩,
  ⟨(some 21), (some (14, false)), .simple (.bin .neq (.tmp 17) (.tmp 20))⟩,
  ⟨(some 22), none, .simple (.pick (.tmp 14) (.const (.bool true)) (.tmp 21))⟩] (some [2, 3, 22]))
(.cond (.tmp 22)
 (.seq (.region [
   ⟨(some 4), none, .simple (.move (.const (.bool false)))⟩] (some [4]))
 .ret)
 .skip))
(.seq (.seq (.region [
  ⟨(some 23), none, .simple (.fieldAddr 2 (.tmp 2))⟩,
  ⟨(some 24), none, .simple (.load none (.tmp 23))⟩,
  ⟨(some 25), none, .simple (.len (.tmp 24))⟩,
  ⟨(some 26), none, .simple (.move (.const (.int .i64 0)))⟩] (some [3, 24, 25, 26]))
(.block 0 (.loop (.seq (.region [
    ⟨(some 27), none, .simple (.bin .lss (.tmp 26) (.tmp 25))⟩] (some [3, 24, 25, 26, 27]))
  (.seq (.cond (.tmp 27)
   .skip
   (.exit 0))
  (.seq (.block 1 (.seq (.region [
     ⟨(some 28), none, .simple (.move (.tmp 26))⟩,
     ⟨(some 29), none, .simple (.indexS 7 (.tmp 24) (.tmp 26))⟩,
     ⟨(some 30), none, .simple (.load (some 7) (.tmp 29))⟩,
     ⟨(some 6), none, .simple (.alloc [(.d (.int .i64 0)), (.d (.int .i64 0)), (.d (.int .i64 0)), (.d (.int .i64 0)), (.d (.int .i64 0)), (.d (.int .i64 0)), (.d (.int .i64 0))])⟩,
     ⟨(some 5), none, .simple (.move (.tmp 28))⟩,
     ⟨none, none, .simple (.store 7 (.tmp 6) (.tmp 30))⟩] (some [3, 5, 6, 24, 25, 26]))
   (.seq (.region [
     ⟨(some 31), none, .simple (.fieldAddr 3 (.tmp 6))⟩,
     ⟨(some 32), none, .simple (.load (some 2) (.tmp 31))⟩,
     ⟨(some 33), none, .simple (.fieldAddr 0 (.tmp 3))⟩,
     ⟨(some 34), none, .simple (.load none (.tmp 33))⟩,
     ⟨(some 35), none, .simple (.move (.tmp 5))⟩,
     ⟨(some 36), none, .simple (.indexS 1 (.tmp 34) (.tmp 35))⟩,
     ⟨(some 37), none, .simple (.load none (.tmp 36))⟩,
     ⟨(some 38), none, .call (.func 85) [(.tmp 32), (.tmp 37)]⟩,
     ⟨(some 39), none, .simple (.un .not (.tmp 38))⟩,
     ⟨(some 40), none, .simple (.move (.tmp 39))⟩,
     ⟨(some 41), (some (40, false)), .simple (.fieldAddr 5 (.tmp 6))⟩,
     ⟨(some 42), (some (40, false)), .simple (.load (some 2) (.tmp 41))⟩,
     ⟨(some 43), (some (40, false)), .simple (.fieldAddr 1 (.tmp 3))⟩,
     ⟨(some 44), (some (40, false)), .simple (.load none (.tmp 43))⟩,
     ⟨(some 45), (some (40, false)), .simple (.move (.tmp 5))⟩,
     ⟨(some 46), (some (40, false)), .simple (.indexS 1 (.tmp 44) (.tmp 45))⟩,
     ⟨(some 47), (some (40, false)), .simple (.load none (.tmp 46))⟩,
     ⟨(some 48), (some (40, false)), .call (.func 85) [(.tmp 42), (.tmp 47)]⟩,
     ⟨(some 49), (some (40, false)), .simple (.un .not (.tmp 48))⟩,
     ⟨(some 50), none, .simple (.pick (.tmp 40) (.const (.bool true)) (.tmp 49))⟩,
     ⟨(some 51), none, .simple (.move (.tmp 50))⟩,
     ⟨(some 52), (some (51, false)), .simple (.fieldAddr 1 (.tmp 3))⟩,
     ⟨(some 53), (some (51, false)), .simple (.load none (.tmp 52))⟩,
     ⟨(some 54), (some (51, false)), .simple (.move (.tmp 5))⟩,
     ⟨(some 55), (some (51, false)), .simple (.indexS 1 (.tmp 53) (.tmp 54))⟩,
     ⟨(some 56), (some (51, false)), .simple (.load none (.tmp 55))⟩,
     ⟨(some 57), (some (51, false)), .simple (.fieldAddr 0 (.tmp 3))⟩,
     ⟨(some 58), (some (51, false)), .simple (.load none (.tmp 57))⟩,
     ⟨(some 59), (some (51, false)), .simple (.move (.tmp 5))⟩,
     ⟨(some 60), (some (51, false)), .simple (.indexS 1 (.tmp 58) (.tmp 59))⟩,
     ⟨(some 61), (some (51, false)), .simple (.load none (.tmp 60))⟩,
     ⟨(some 62), (some (51, false)), .simple (.bin .lss (.tmp 56) (.tmp 61))⟩,
     ⟨(some 63), none, .simple (.pick (.tmp 51) (.const (.bool true)) (.tmp 62))⟩] (some [3, 24, 25, 26, 63]))
   (.cond (.tmp 63)
    (.seq (.region [
      ⟨(some 4), none, .simple (.move (.const (.bool false)))⟩] (some [4]))
    .ret)
    .skip))))
  (.region [
    ⟨(some 64), none, .simple (.bin .add (.tmp 26) (.const (.int .i64 1)))⟩,
    ⟨(some 26), none, .simple (.move (.tmp 64))⟩] (some [3, 24, 25, 26]))))))))
(.seq (.region [
  ⟨(some 4), none, .simple (.move (.const (.bool true)))⟩] (some [4]))
.ret))))
theorem k92 : Try.f92.body.bind (compC Try.prog G92) = some c92 := by kernel_rfl
theorem e92 : compRes Try.prog Try.f92.results.toList = some r92 := by kernel_rfl
def F92 : FunX := ⟨false, G92, c92, r92⟩
theorem o92 : FunOk Try.prog 92 F92 := ⟨Try.f92, by kernel_rfl, k92, e92, by kernel_rfl, by kernel_rfl⟩
def G93 : Cfg := ⟨[7, 5], [(0, [0, 3]), (1, [0, 3, 5]), (2, [0, 3, 5, 8]), (3, [0, 3, 5, 8, 9]), (4, [0, 3, 5, 6, 8]), (5, [0, 3, 5, 7, 8]), (6, [0, 3, 5, 7, 8, 17]), (7, [0, 3, 5, 7, 8, 20]), (8, [4]), (9, [0, 3, 5, 8]), (10, [0, 3, 5, 8]), (11, [4])], 23, [(7, [(7, none)])]⟩
def r93 : List CRes := [.tmp 4]
def c93 : CCode :=
(.seq (.region [
  ⟨(some 3), none, .simple (.box false (.tmp 1))⟩,
  ⟨(some 4), none, .simple (.move (.const (.bool false)))⟩] (some [0, 3]))
(.seq (.region [
  ⟨(some 5), none, .simple (.alloc [(.d (.int .i64 0)), (.d (.int .i64 0)), (.d (.int .i64 0)), (.d (.int .i64 0))])⟩] (some [0, 3, 5]))
(.seq (.seq (.region [
  ⟨(some 8), none, .simple (.move (.const (.int .i64 0)))⟩] (some [0, 3, 5, 8]))
(.block 0 (.loop (.seq (.region [
    ⟨(some 9), none, .simple (.bin .lss (.tmp 8) (.const (.int .i64 12)))⟩] (some [0, 3, 5, 8, 9]))
  (.seq (.cond (.tmp 9)
   .skip
   (.exit 0))
  (.seq (.block 1 (.seq (.region [
     ⟨(some 10), none, .simple (.move (.tmp 8))⟩,
     ⟨(some 6), none, .simple (.move (.tmp 10))⟩] (some [0, 3, 5, 6, 8]))
   (.seq (.region [
     ⟨(some 11), none, .simple (.move (.tmp 0))⟩,
     ⟨(some 12), none, .simple (.load (some 2) (.tmp 3))⟩,
     ⟨(some 13), none, .simple (.move (.tmp 6))⟩,
     ⟨(some 14), none, .call (.func 60) [(.tmp 11), (.tmp 12), (.tmp 13)]⟩,
     ⟨(some 7), none, .simple (.alloc [(.d (.int .i64 0)), (.d (.int .i64 0)), (.d (.int .i64 0)), (.d (.int .i64 0))])⟩,
     ⟨none, none, .simple (.store 4 (.tmp 7) (.tmp 14))⟩] (some [0, 3, 5, 7, 8]))
   (.seq (.seq (.region [
     ⟨(some 15), none, .simple (.load (some 4) (.tmp 7))⟩,
     ⟨(some 16), none, .simple (.load (some 4) (.tmp 5))⟩,
     ⟨(some 17), none, .simple (.eqA false [(.int .i64), (.int .i64), (.int .i64), (.int .i64)] (.tmp 15) (.tmp 16))⟩] (some [0, 3, 5, 7, 8, 17]))
   (.cond (.tmp 17)
    (.exit 1)
    .skip))
   (.seq (.seq (.seq (.frz (7, none))
   (.region [
     ⟨(some 18), none, .simple (.sliceA 4 1 (.tmp 7) none none)⟩,
     ⟨(some 19), none, .call (.func 96) [(.tmp 18)]⟩,
     ⟨(some 20), none, .simple (.bin .lss (.tmp 19) (.const (.int .i64 0)))⟩] (some [0, 3, 5, 7, 8, 20])))
   (.cond (.tmp 20)
    (.seq (.region [
      ⟨(some 4), none, .simple (.move (.const (.bool false)))⟩] (some [4]))
    .ret)
    .skip))
   (.region [
     ⟨(some 21), none, .simple (.load (some 4) (.tmp 7))⟩,
     ⟨none, none, .simple (.store 4 (.tmp 5) (.tmp 21))⟩] (some [0, 3, 5, 8])))))))
  (.region [
    ⟨(some 22), none, .simple (.bin .add (.tmp 8) (.const (.int .i64 1)))⟩,
    ⟨(some 8), none, .simple (.move (.tmp 22))⟩] (some [0, 3, 5, 8]))))))))
(.seq (.region [
  ⟨(some 4), none, .simple (.move (.const (.bool true)))⟩] (some [4]))
.ret))))
theorem k93 : Try.f93.body.bind (compC Try.prog G93) = some c93 := by kernel_rfl
theorem e93 : compRes Try.prog Try.f93.results.toList = some r93 := by kernel_rfl
def F93 : FunX := ⟨false, G93, c93, r93⟩
theorem o93 : FunOk Try.prog 93 F93 := ⟨Try.f93, by kernel_rfl, k93, e93, by kernel_rfl, by kernel_rfl⟩
def G94 : Cfg := ⟨[10], [(0, [0, 1, 5]), (1, [0, 1, 5, 7, 8]), (2, [0, 1, 5, 7, 21]), (3, [0, 1, 5, 7]), (4, [0, 1, 5, 7, 26, 27, 28]), (5, [0, 1, 5, 7, 26, 27, 28, 29]), (6, [0, 1, 5, 7, 10, 26, 27, 28]), (7, [0, 1, 5, 7, 10, 26, 27, 28, 43]), (8, [0, 1, 5, 7, 26, 27, 28]), (9, [0, 1, 5, 7, 26, 27, 28]), (10, [1, 7]), (11, [6])], 61, []⟩
def r94 : List CRes := [.tmp 6]
def c94 : CCode :=
(.seq (.region [
  ⟨(some 5), none, .simple (.box false (.tmp 2))⟩,
  ⟨(some 6), none, .simple (.move (.const (.int .i64 0)))⟩] (some [0, 1, 5]))
(.seq (.region [
  ⟨(some 12), none, .simple (.move (.tmp 0))⟩,
  ⟨(some 13), none, .simple (.nilCheck (.tmp 12))⟩,
  ⟨(some 14), none, .simple (.fieldAddr 6 (.tmp 13))⟩,
  ⟨(some 15), none, .simple (.load none (.tmp 14))⟩,
  ⟨(some 16), none, .simple (.load (some 2) (.tmp 5))⟩,
  ⟨(some 17), none, .simple (.lookup true [(.int .i64), (.int .i64)] (.d (.int .i64 0)) true (.tmp 15) (.tmp 16))⟩,
  ⟨(some 11), none, .simple (.move (.tmp 17))⟩,
  ⟨(some 18), none, .simple (.extract (.tmp 11) 0)⟩,
  ⟨(some 19), none, .simple (.extract (.tmp 11) 1)⟩,
  ⟨(some 7), none, .simple (.move (.tmp 18))⟩,
  ⟨(some 8), none, .simple (.move (.tmp 19))⟩] (some [0, 1, 5, 7, 8]))
(.seq (.seq (.region [
  ⟨(some 20), none, .simple (.move (.tmp 8))⟩,
  ⟨(some 21), none, .simple (.un .not (.tmp 20))⟩] (some [0, 1, 5, 7, 21]))
(.cond (.tmp 21)
 (.seq (.region [
   ⟨(some 7), none, .simple (.move (.const (.int .i64 720)))⟩] (some [0, 1, 5, 7]))
 (.seq (.seq (.region [
   ⟨(some 22), none, .simple (.move (.tmp 0))⟩,
   ⟨(some 23), none, .simple (.nilCheck (.tmp 22))⟩,
   ⟨(some 24), none, .simple (.fieldAddr 0 (.tmp 23))⟩,
   ⟨(some 25), none, .simple (.fieldAddr 4 (.tmp 24))⟩,
   ⟨(some 26), none, .simple (.load none (.tmp 25))⟩,
   ⟨(some 27), none, .simple (.len (.tmp 26))⟩,
   ⟨(some 28), none, .simple (.move (.const (.int .i64 0)))⟩] (some [0, 1, 5, 7, 26, 27, 28]))
 (.block 0 (.loop (.seq (.region [
     ⟨(some 29), none, .simple (.bin .lss (.tmp 28) (.tmp 27))⟩] (some [0, 1, 5, 7, 26, 27, 28, 29]))
   (.seq (.cond (.tmp 29)
    .skip
    (.exit 0))
   (.seq (.block 1 (.seq (.region [
      ⟨(some 30), none, .simple (.indexS 3 (.tmp 26) (.tmp 28))⟩,
      ⟨(some 31), none, .simple (.load (some 3) (.tmp 30))⟩,
      ⟨(some 10), none, .simple (.alloc [(.d (.int .i64 0)), (.d (.int .i64 0)), (.d (.int .i64 0))])⟩,
      ⟨none, none, .simple (.store 3 (.tmp 10) (.tmp 31))⟩] (some [0, 1, 5, 7, 10, 26, 27, 28]))
    (.seq (.region [
      ⟨(some 32), none, .simple (.fieldAddr 0 (.tmp 5))⟩,
      ⟨(some 33), none, .simple (.load none (.tmp 32))⟩,
      ⟨(some 34), none, .simple (.fieldAddr 0 (.tmp 10))⟩,
      ⟨(some 35), none, .simple (.load none (.tmp 34))⟩,
      ⟨(some 36), none, .simple (.bin .lss (.tmp 33) (.tmp 35))⟩,
      ⟨(some 37), none, .simple (.move (.tmp 36))⟩,
      ⟨(some 38), (some (37, true)), .simple (.fieldAddr 0 (.tmp 10))⟩,
      ⟨(some 39), (some (37, true)), .simple (.load none (.tmp 38))⟩,
      ⟨(some 40), (some (37, true)), .simple (.fieldAddr 1 (.tmp 5))⟩,
      ⟨(some 41), (some (37, true)), .simple (.load none (.tmp 40))⟩,
      ⟨(some 42), (some (37, true)), .simple (.bin .leq (.tmp 39) (.tmp 41))⟩,
      ⟨(some 43), none, .simple (.pick (.tmp 37) (.tmp 42) (.const (.bool false)))⟩] (some [0, 1, 5, 7, 10, 26, 27, 28, 43]))
    (.cond (.tmp 43)
     (.region [
       ⟨(some 44), none, .simple (.move (.tmp 7))⟩,
       ⟨(some 45), none, .simple (.fieldAddr 1 (.tmp 10))⟩,
       ⟨(some 46), none, .simple (.load none (.tmp 45))⟩,
       ⟨(some 47), none, .simple (.bin .mul (.tmp 44) (.tmp 46))⟩,
       ⟨(some 48), none, .simple (.fieldAddr 2 (.tmp 10))⟩,
       ⟨(some 49), none, .simple (.load none (.tmp 48))⟩,
       ⟨(some 50), none, .simple (.bin .quo (.tmp 47) (.tmp 49))⟩,
       ⟨(some 7), none, .simple (.move (.tmp 50))⟩] (some [0, 1, 5, 7, 26, 27, 28]))
     .skip))))
   (.region [
     ⟨(some 51), none, .simple (.bin .add (.tmp 28) (.const (.int .i64 1)))⟩,
     ⟨(some 28), none, .simple (.move (.tmp 51))⟩] (some [0, 1, 5, 7, 26, 27, 28]))))))))
 (.region [
   ⟨(some 52), none, .simple (.move (.tmp 0))⟩,
   ⟨(some 53), none, .simple (.nilCheck (.tmp 52))⟩,
   ⟨(some 54), none, .simple (.fieldAddr 6 (.tmp 53))⟩,
   ⟨(some 55), none, .simple (.load none (.tmp 54))⟩,
   ⟨(some 56), none, .simple (.load (some 2) (.tmp 5))⟩,
   ⟨(some 57), none, .simple (.move (.tmp 7))⟩,
   ⟨none, none, .simple (.mupd true [(.int .i64), (.int .i64)] (.tmp 55) (.tmp 56) (.tmp 57))⟩] (some [1, 7]))))
 .skip))
(.seq (.region [
  ⟨(some 58), none, .simple (.move (.tmp 1))⟩,
  ⟨(some 59), none, .simple (.move (.tmp 7))⟩,
  ⟨(some 60), none, .simple (.bin .mul (.tmp 58) (.tmp 59))⟩,
  ⟨(some 6), none, .simple (.move (.tmp 60))⟩] (some [6]))
.ret))))
theorem k94 : Try.f94.body.bind (compC Try.prog G94) = some c94 := by kernel_rfl
theorem e94 : compRes Try.prog Try.f94.results.toList = some r94 := by kernel_rfl
def F94 : FunX := ⟨false, G94, c94, r94⟩
theorem o94 : FunOk Try.prog 94 F94 := ⟨Try.f94, by kernel_rfl, k94, e94, by kernel_rfl, by kernel_rfl⟩
def G95 : Cfg := ⟨[1], [(0, [1]), (1, [2])], 4, []⟩
def r95 : List CRes := [.tmp 2]
def c95 : CCode :=
(.seq (.region [
  ⟨(some 1), none, .simple (.box true (.tmp 0))⟩,
  ⟨(some 2), none, .simple (.move (.const .nilFunc))⟩] (some [1]))
(.seq (.region [
  ⟨(some 3), none, .simple (.mkfn (.func 111) [] [(.tmp 1)])⟩,
  ⟨(some 2), none, .simple (.move (.tmp 3))⟩] (some [2]))
.ret))
theorem k95 : Try.f95.body.bind (compC Try.prog G95) = some c95 := by kernel_rfl
theorem e95 : compRes Try.prog Try.f95.results.toList = some r95 := by kernel_rfl
def F95 : FunX := ⟨false, G95, c95, r95⟩
theorem o95 : FunOk Try.prog 95 F95 := ⟨Try.f95, by kernel_rfl, k95, e95, by kernel_rfl, by kernel_rfl⟩
end Go.Proofs.Ytdnefcjbcieecaa
namespace Go.Proofs.Ytdnefcjbcieecaa
open Go Go.Proofs
def G96 : Cfg := ⟨[], [(0, [0]), (1, [2])], 5, []⟩
def r96 : List CRes := [.tmp 2]
def c96 : CCode :=
(.seq (.region [
  ⟨(some 2), none, .simple (.move (.const (.int .i64 0)))⟩] (some [0]))
(.seq (.region [
  ⟨(some 3), none, .simple (.move (.tmp 0))⟩,
  ⟨(some 4), none, .call (.func 113) [(.tmp 3)]⟩,
  ⟨(some 2), none, .simple (.move (.tmp 4))⟩] (some [2]))
.ret))
theorem k96 : Try.f96.body.bind (compC Try.prog G96) = some c96 := by kernel_rfl
theorem e96 : compRes Try.prog Try.f96.results.toList = some r96 := by kernel_rfl
def F96 : FunX := ⟨false, G96, c96, r96⟩
theorem o96 : FunOk Try.prog 96 F96 := ⟨Try.f96, by kernel_rfl, k96, e96, by kernel_rfl, by kernel_rfl⟩
def G97 : Cfg := ⟨[], [(0, [0, 1]), (1, [0, 1, 7, 8]), (2, [0, 1, 7, 8, 9]), (3, [0, 1, 5, 7, 8]), (4, [0, 1, 5, 7, 8, 16]), (5, [4]), (6, [0, 1, 7, 8]), (7, [4])], 19, []⟩
def r97 : List CRes := [.tmp 4]
def c97 : CCode :=
(.seq (.region [
  ⟨(some 4), none, .simple (.move (.const (.int .i64 0)))⟩] (some [0, 1]))
(.seq (.seq (.region [
  ⟨(some 6), none, .simple (.move (.tmp 0))⟩,
  ⟨(some 7), none, .simple (.len (.tmp 6))⟩,
  ⟨(some 8), none, .simple (.move (.const (.int .i64 0)))⟩] (some [0, 1, 7, 8]))
(.block 0 (.loop (.seq (.region [
    ⟨(some 9), none, .simple (.bin .lss (.tmp 8) (.tmp 7))⟩] (some [0, 1, 7, 8, 9]))
  (.seq (.cond (.tmp 9)
   .skip
   (.exit 0))
  (.seq (.block 1 (.seq (.region [
     ⟨(some 10), none, .simple (.move (.tmp 8))⟩,
     ⟨(some 5), none, .simple (.move (.tmp 10))⟩] (some [0, 1, 5, 7, 8]))
   (.seq (.region [
     ⟨(some 11), none, .simple (.move (.tmp 1))⟩,
     ⟨(some 12), none, .simple (.move (.tmp 0))⟩,
     ⟨(some 13), none, .simple (.move (.tmp 5))⟩,
     ⟨(some 14), none, .simple (.indexS 1 (.tmp 12) (.tmp 13))⟩,
     ⟨(some 15), none, .simple (.load none (.tmp 14))⟩,
     ⟨(some 16), none, .simple (.bin .eql (.tmp 11) (.tmp 15))⟩] (some [0, 1, 5, 7, 8, 16]))
   (.cond (.tmp 16)
    (.seq (.region [
      ⟨(some 17), none, .simple (.move (.tmp 5))⟩,
      ⟨(some 4), none, .simple (.move (.tmp 17))⟩] (some [4]))
    .ret)
    .skip))))
  (.region [
    ⟨(some 18), none, .simple (.bin .add (.tmp 8) (.const (.int .i64 1)))⟩,
    ⟨(some 8), none, .simple (.move (.tmp 18))⟩] (some [0, 1, 7, 8]))))))))
(.seq (.region [
  ⟨(some 4), none, .simple (.move (.const (.int .i64 (-1))))⟩] (some [4]))
.ret)))
theorem k97 : Try.f97.body.bind (compC Try.prog G97) = some c97 := by kernel_rfl
theorem e97 : compRes Try.prog Try.f97.results.toList = some r97 := by kernel_rfl
def F97 : FunX := ⟨false, G97, c97, r97⟩
theorem o97 : FunOk Try.prog 97 F97 := ⟨Try.f97, by kernel_rfl, k97, e97, by kernel_rfl, by kernel_rfl⟩
def G98 : Cfg := ⟨[], [(0, [0, 1]), (1, [4])], 9, []⟩
def r98 : List CRes := [.tmp 4]
def c98 : CCode :=
(.seq (.region [
  ⟨(some 4), none, .simple (.move (.const (.bool false)))⟩] (some [0, 1]))
(.seq (.region [
  ⟨(some 5), none, .simple (.move (.tmp 0))⟩,
  ⟨(some 6), none, .simple (.move (.tmp 1))⟩,
  ⟨(some 7), none, .call (.func 114) [(.tmp 5), (.tmp 6)]⟩,
  ⟨(some 8), none, .simple (.bin .geq (.tmp 7) (.const (.int .i64 0)))⟩,
  ⟨(some 4), none, .simple (.move (.tmp 8))⟩] (some [4]))
.ret))
theorem k98 : Try.f98.body.bind (compC Try.prog G98) = some c98 := by kernel_rfl
theorem e98 : compRes Try.prog Try.f98.results.toList = some r98 := by kernel_rfl
def F98 : FunX := ⟨false, G98, c98, r98⟩
theorem o98 : FunOk Try.prog 98 F98 := ⟨Try.f98, by kernel_rfl, k98, e98, by kernel_rfl, by kernel_rfl⟩
def G99 : Cfg := ⟨[], [(0, [1, 2]), (1, [3])], 7, []⟩
def r99 : List CRes := [.tmp 3]
def c99 : CCode :=
(.seq (.region [
  ⟨(some 2), none, .simple (.box false (.tmp 0))⟩,
  ⟨(some 3), none, .simple (.move (.const (.bool false)))⟩] (some [1, 2]))
(.seq (.region [
  ⟨(some 4), none, .simple (.load (some 2) (.tmp 2))⟩,
  ⟨(some 5), none, .simple (.load none (.tmp 1))⟩,
  ⟨(some 6), none, .call (.func 85) [(.tmp 4), (.tmp 5)]⟩,
  ⟨(some 3), none, .simple (.move (.tmp 6))⟩] (some [3]))
.ret))
theorem k99 : Try.f99.body.bind (compC Try.prog G99) = some c99 := by kernel_rfl
theorem e99 : compRes Try.prog Try.f99.results.toList = some r99 := by kernel_rfl
def F99 : FunX := ⟨false, G99, c99, r99⟩
theorem o99 : FunOk Try.prog 99 F99 := ⟨Try.f99, by kernel_rfl, k99, e99, by kernel_rfl, by kernel_rfl⟩
def G100 : Cfg := ⟨[], [(0, [1, 2]), (1, [4])], 10, []⟩
def r100 : List CRes := [.tmp 4]
def c100 : CCode :=
(.seq (.region [
  ⟨(some 2), none, .simple (.box false (.tmp 0))⟩,
  ⟨(some 4), none, .simple (.move (.const (.bool false)))⟩] (some [1, 2]))
(.seq (.region [
  ⟨(some 5), none, .simple (.move (.tmp 1))⟩,
  ⟨(some 6), none, .simple (.fieldAddr 0 (.tmp 2))⟩,
  ⟨(some 7), none, .simple (.load none (.tmp 6))⟩,
  ⟨(some 8), none, .simple (.bin .sub (.tmp 7) (.const (.int .i64 1)))⟩,
  ⟨(some 9), none, .call (.func 71) [(.tmp 5), (.const (.int .i64 0)), (.tmp 8)]⟩,
  ⟨(some 4), none, .simple (.move (.tmp 9))⟩] (some [4]))
.ret))
theorem k100 : Try.f100.body.bind (compC Try.prog G100) = some c100 := by kernel_rfl
theorem e100 : compRes Try.prog Try.f100.results.toList = some r100 := by kernel_rfl
def F100 : FunX := ⟨false, G100, c100, r100⟩
theorem o100 : FunOk Try.prog 100 F100 := ⟨Try.f100, by kernel_rfl, k100, e100, by kernel_rfl, by kernel_rfl⟩
def G101 : Cfg := ⟨[], [(0, [1]), (1, [2])], 13, []⟩
def r101 : List CRes := [.tmp 2]
def c101 : CCode :=
(.seq (.region [
  ⟨(some 1), none, .simple (.box false (.tmp 0))⟩,
  ⟨(some 2), none, .simple (.move (.const (.bool false)))⟩] (some [1]))
(.seq (.region [
  ⟨(some 3), none, .simple (.load (some 2) (.tmp 1))⟩,
  ⟨(some 4), none, .call (.func 91) [(.tmp 3)]⟩,
  ⟨(some 5), none, .simple (.move (.tmp 4))⟩,
  ⟨(some 6), (some (5, true)), .simple (.fieldAddr 1 (.tmp 1))⟩,
  ⟨(some 7), (some (5, true)), .simple (.load none (.tmp 6))⟩,
  ⟨(some 8), (some (5, true)), .simple (.fieldAddr 0 (.tmp 1))⟩,
  ⟨(some 9), (some (5, true)), .simple (.load none (.tmp 8))⟩,
  ⟨(some 10), (some (5, true)), .simple (.bin .sub (.tmp 7) (.tmp 9))⟩,
  ⟨(some 11), (some (5, true)), .simple (.bin .leq (.tmp 10) (.const (.int .i64 2)))⟩,
  ⟨(some 12), none, .simple (.pick (.tmp 5) (.tmp 11) (.const (.bool false)))⟩,
  ⟨(some 2), none, .simple (.move (.tmp 12))⟩] (some [2]))
.ret))
theorem k101 : Try.f101.body.bind (compC Try.prog G101) = some c101 := by kernel_rfl
theorem e101 : compRes Try.prog Try.f101.results.toList = some r101 := by kernel_rfl
def F101 : FunX := ⟨false, G101, c101, r101⟩
theorem o101 : FunOk Try.prog 101 F101 := ⟨Try.f101, by kernel_rfl, k101, e101, by kernel_rfl, by kernel_rfl⟩
def G102 : Cfg := ⟨[], [(0, [0, 1]), (1, [4])], 9, []⟩
def r102 : List CRes := [.tmp 4]
def c102 : CCode :=
(.seq (.region [
  ⟨(some 4), none, .simple (.move (.const (.bool false)))⟩] (some [0, 1]))
(.seq (.region [
  ⟨(some 5), none, .simple (.move (.tmp 0))⟩,
  ⟨(some 6), none, .simple (.move (.tmp 1))⟩,
  ⟨(some 7), none, .call (.func 115) [(.tmp 5), (.tmp 6)]⟩,
  ⟨(some 8), none, .simple (.bin .geq (.tmp 7) (.const (.int .i64 0)))⟩,
  ⟨(some 4), none, .simple (.move (.tmp 8))⟩] (some [4]))
.ret))
theorem k102 : Try.f102.body.bind (compC Try.prog G102) = some c102 := by kernel_rfl
theorem e102 : compRes Try.prog Try.f102.results.toList = some r102 := by kernel_rfl
def F102 : FunX := ⟨false, G102, c102, r102⟩
theorem o102 : FunOk Try.prog 102 F102 := ⟨Try.f102, by kernel_rfl, k102, e102, by kernel_rfl, by kernel_rfl⟩
def G103 : Cfg := ⟨[], [(0, [0, 1]), (1, [3])], 8, []⟩
def r103 : List CRes := [.tmp 3]
def c103 : CCode :=
(.seq (.region [
  ⟨(some 3), none, .simple (.move (.const (.bool false)))⟩] (some [0, 1]))
(.seq (.region [
  ⟨(some 4), none, .simple (.load none (.tmp 1))⟩,
  ⟨(some 5), none, .simple (.move (.tmp 0))⟩,
  ⟨(some 6), none, .call (.tmp 4) [(.tmp 5)]⟩,
  ⟨(some 7), none, .simple (.un .not (.tmp 6))⟩,
  ⟨(some 3), none, .simple (.move (.tmp 7))⟩] (some [3]))
.ret))
theorem k103 : Try.f103.body.bind (compC Try.prog G103) = some c103 := by kernel_rfl
theorem e103 : compRes Try.prog Try.f103.results.toList = some r103 := by kernel_rfl
def F103 : FunX := ⟨false, G103, c103, r103⟩
theorem o103 : FunOk Try.prog 103 F103 := ⟨Try.f103, by kernel_rfl, k103, e103, by kernel_rfl, by kernel_rfl⟩
def G104 : Cfg := ⟨[], [(0, [0, 1]), (1, [4])], 9, []⟩
def r104 : List CRes := [.tmp 4]
def c104 : CCode :=
(.seq (.region [
  ⟨(some 4), none, .simple (.move (.const (.bool false)))⟩] (some [0, 1]))
(.seq (.region [
  ⟨(some 5), none, .simple (.move (.tmp 0))⟩,
  ⟨(some 6), none, .simple (.move (.tmp 1))⟩,
  ⟨(some 7), none, .call (.func 116) [(.tmp 5), (.tmp 6)]⟩,
  ⟨(some 8), none, .simple (.bin .geq (.tmp 7) (.const (.int .i64 0)))⟩,
  ⟨(some 4), none, .simple (.move (.tmp 8))⟩] (some [4]))
.ret))
theorem k104 : Try.f104.body.bind (compC Try.prog G104) = some c104 := by kernel_rfl
theorem e104 : compRes Try.prog Try.f104.results.toList = some r104 := by kernel_rfl
def F104 : FunX := ⟨false, G104, c104, r104⟩
theorem o104 : FunOk Try.prog 104 F104 := ⟨Try.f104, by kernel_rfl, k104, e104, by kernel_rfl, by kernel_rfl⟩
def G105 : Cfg := ⟨[], [(0, [1, 2]), (1, [3])], 8, []⟩
def r105 : List CRes := [.tmp 3]
def c105 : CCode :=
(.seq (.region [
  ⟨(some 2), none, .simple (.box false (.tmp 0))⟩,
  ⟨(some 3), none, .simple (.move (.const (.bool false)))⟩] (some [1, 2]))
(.seq (.region [
  ⟨(some 4), none, .simple (.load none (.tmp 1))⟩,
  ⟨(some 5), none, .simple (.load (some 7) (.tmp 2))⟩,
  ⟨(some 6), none, .call (.tmp 4) [(.tmp 5)]⟩,
  ⟨(some 7), none, .simple (.un .not (.tmp 6))⟩,
  ⟨(some 3), none, .simple (.move (.tmp 7))⟩] (some [3]))
.ret))
theorem k105 : Try.f105.body.bind (compC Try.prog G105) = some c105 := by kernel_rfl
theorem e105 : compRes Try.prog Try.f105.results.toList = some r105 := by kernel_rfl
def F105 : FunX := ⟨false, G105, c105, r105⟩
theorem o105 : FunOk Try.prog 105 F105 := ⟨Try.f105, by kernel_rfl, k105, e105, by kernel_rfl, by kernel_rfl⟩
def G106 : Cfg := ⟨[], [(0, [0, 1]), (1, [4])], 9, []⟩
def r106 : List CRes := [.tmp 4]
def c106 : CCode :=
(.seq (.region [
  ⟨(some 4), none, .simple (.move (.const (.bool false)))⟩] (some [0, 1]))
(.seq (.region [
  ⟨(some 5), none, .simple (.move (.tmp 0))⟩,
  ⟨(some 6), none, .simple (.move (.tmp 1))⟩,
  ⟨(some 7), none, .call (.func 117) [(.tmp 5), (.tmp 6)]⟩,
  ⟨(some 8), none, .simple (.bin .geq (.tmp 7) (.const (.int .i64 0)))⟩,
  ⟨(some 4), none, .simple (.move (.tmp 8))⟩] (some [4]))
.ret))
theorem k106 : Try.f106.body.bind (compC Try.prog G106) = some c106 := by kernel_rfl
theorem e106 : compRes Try.prog Try.f106.results.toList = some r106 := by kernel_rfl
def F106 : FunX := ⟨false, G106, c106, r106⟩
theorem o106 : FunOk Try.prog 106 F106 := ⟨Try.f106, by kernel_rfl, k106, e106, by kernel_rfl, by kernel_rfl⟩
def G107 : Cfg := ⟨[], [(0, [1, 2]), (1, [3])], 8, []⟩
def r107 : List CRes := [.tmp 3]
def c107 : CCode :=
(.seq (.region [
  ⟨(some 2), none, .simple (.box false (.tmp 0))⟩,
  ⟨(some 3), none, .simple (.move (.const (.bool false)))⟩] (some [1, 2]))
(.seq (.region [
  ⟨(some 4), none, .simple (.load none (.tmp 1))⟩,
  ⟨(some 5), none, .simple (.load (some 3) (.tmp 2))⟩,
  ⟨(some 6), none, .call (.tmp 4) [(.tmp 5)]⟩,
  ⟨(some 7), none, .simple (.un .not (.tmp 6))⟩,
  ⟨(some 3), none, .simple (.move (.tmp 7))⟩] (some [3]))
.ret))
theorem k107 : Try.f107.body.bind (compC Try.prog G107) = some c107 := by kernel_rfl
theorem e107 : compRes Try.prog Try.f107.results.toList = some r107 := by kernel_rfl
def F107 : FunX := ⟨false, G107, c107, r107⟩
theorem o107 : FunOk Try.prog 107 F107 := ⟨Try.f107, by kernel_rfl, k107, e107, by kernel_rfl, by kernel_rfl⟩
def G108 : Cfg := ⟨[3], [(0, [0, 3]), (1, [4])], 9, []⟩
def r108 : List CRes := [.tmp 4]
def c108 : CCode :=
(.seq (.region [
  ⟨(some 3), none, .simple (.box true (.tmp 1))⟩,
  ⟨(some 4), none, .simple (.move (.const (.bool false)))⟩] (some [0, 3]))
(.seq (.region [
  ⟨(some 5), none, .simple (.move (.tmp 0))⟩,
  ⟨(some 6), none, .simple (.mkfn (.func 119) [] [(.tmp 3)])⟩,
  ⟨(some 7), none, .call (.func 118) [(.tmp 5), (.tmp 6)]⟩,
  ⟨(some 8), none, .simple (.un .not (.tmp 7))⟩,
  ⟨(some 4), none, .simple (.move (.tmp 8))⟩] (some [4]))
.ret))
theorem k108 : Try.f108.body.bind (compC Try.prog G108) = some c108 := by kernel_rfl
theorem e108 : compRes Try.prog Try.f108.results.toList = some r108 := by kernel_rfl
def F108 : FunX := ⟨false, G108, c108, r108⟩
theorem o108 : FunOk Try.prog 108 F108 := ⟨Try.f108, by kernel_rfl, k108, e108, by kernel_rfl, by kernel_rfl⟩
def G109 : Cfg := ⟨[], [(0, [1, 2]), (1, [1, 2, 4]), (2, [4]), (3, [3])], 23, []⟩
def r109 : List CRes := [.tmp 3]
def c109 : CCode :=
(.seq (.region [
  ⟨(some 2), none, .simple (.box false (.tmp 0))⟩,
  ⟨(some 3), none, .simple (.move (.const (.bool false)))⟩] (some [1, 2]))
(.seq (.region [
  ⟨(some 5), none, .simple (.fieldAddr 0 (.tmp 2))⟩,
  ⟨(some 6), none, .simple (.load none (.tmp 5))⟩,
  ⟨(some 7), none, .simple (.load none (.tmp 1))⟩,
  ⟨(some 8), none, .simple (.bin .add (.tmp 7) (.const (.int .i64 1)))⟩,
  ⟨(some 9), none, .call (.func 71) [(.tmp 6), (.tmp 8), (.const (.int .i64 11))]⟩,
  ⟨(some 10), none, .simple (.move (.tmp 9))⟩,
  ⟨(some 11), (some (10, true)), .simple (.fieldAddr 1 (.tmp 2))⟩,
  ⟨(some 12), (some (10, true)), .simple (.load none (.tmp 11))⟩,
  ⟨(some 13), (some (10, true)), .call (.func 71) [(.tmp 12), (.const (.int .i64 1)), (.const (.int .i64 6))]⟩,
  ⟨(some 14), none, .simple (.pick (.tmp 10) (.tmp 13) (.const (.bool false)))⟩,
  ⟨(some 15), none, .simple (.move (.tmp 14))⟩,
  ⟨(some 16), (some (15, true)), .simple (.fieldAddr 2 (.tmp 2))⟩,
  ⟨(some 17), (some (15, true)), .simple (.load none (.tmp 16))⟩,
  ⟨(some 18), (some (15, true)), .call (.func 71) [(.tmp 17), (.const (.int .i64 1)), (.const (.int .i64 4))]⟩,
  ⟨(some 19), none, .simple (.pick (.tmp 15) (.tmp 18) (.const (.bool false)))⟩,
  ⟨(some 4), none, .simple (.move (.tmp 19))⟩] (some [1, 2, 4]))
(.seq (.region [
  ⟨(some 20), none, .simple (.fieldAddr 0 (.tmp 2))⟩,
  ⟨(some 21), none, .simple (.load none (.tmp 20))⟩,
  ⟨none, none, .simple (.store 1 (.tmp 1) (.tmp 21))⟩] (some [4]))
(.seq (.region [
  ⟨(some 22), none, .simple (.move (.tmp 4))⟩,
  ⟨(some 3), none, .simple (.move (.tmp 22))⟩] (some [3]))
.ret))))
theorem k109 : Try.f109.body.bind (compC Try.prog G109) = some c109 := by kernel_rfl
theorem e109 : compRes Try.prog Try.f109.results.toList = some r109 := by kernel_rfl
def F109 : FunX := ⟨false, G109, c109, r109⟩
theorem o109 : FunOk Try.prog 109 F109 := ⟨Try.f109, by kernel_rfl, k109, e109, by kernel_rfl, by kernel_rfl⟩
def G110 : Cfg := ⟨[], [(0, [1, 2]), (1, [3])], 8, []⟩
def r110 : List CRes := [.tmp 3]
def c110 : CCode :=
(.seq (.region [
  ⟨(some 2), none, .simple (.box false (.tmp 0))⟩,
  ⟨(some 3), none, .simple (.move (.const (.bool false)))⟩] (some [1, 2]))
(.seq (.region [
  ⟨(some 4), none, .simple (.load none (.tmp 1))⟩,
  ⟨(some 5), none, .simple (.load (some 2) (.tmp 2))⟩,
  ⟨(some 6), none, .call (.tmp 4) [(.tmp 5)]⟩,
  ⟨(some 7), none, .simple (.un .not (.tmp 6))⟩,
  ⟨(some 3), none, .simple (.move (.tmp 7))⟩] (some [3]))
.ret))
theorem k110 : Try.f110.body.bind (compC Try.prog G110) = some c110 := by kernel_rfl
theorem e110 : compRes Try.prog Try.f110.results.toList = some r110 := by kernel_rfl
def F110 : FunX := ⟨false, G110, c110, r110⟩
theorem o110 : FunOk Try.prog 110 F110 := ⟨Try.f110, by kernel_rfl, k110, e110, by kernel_rfl, by kernel_rfl⟩
def G111 : Cfg := ⟨[3, 2, 4], [(0, [1, 2]), (1, [1, 2, 3]), (2, [1, 2, 3, 4]), (3, [4]), (4, [])], 8, []⟩
def r111 : List CRes := []
def c111 : CCode :=
(.seq (.region [
  ⟨(some 2), none, .simple (.box true (.tmp 0))⟩] (some [1, 2]))
(.seq (.region [
  ⟨(some 3), none, .simple (.alloc [(.d .nils), (.d .nils)])⟩] (some [1, 2, 3]))
(.seq (.region [
  ⟨(some 4), none, .simple (.alloc [(.d .nilf)])⟩] (some [1, 2, 3, 4]))
(.seq (.region [
  ⟨(some 5), none, .simple (.mkfn (.func 112) [] [(.tmp 1), (.tmp 3), (.tmp 2), (.tmp 4)])⟩,
  ⟨none, none, .simple (.store 1 (.tmp 4) (.tmp 5))⟩] (some [4]))
(.region [
  ⟨(some 6), none, .simple (.load none (.tmp 4))⟩,
  ⟨(some 7), none, .call (.tmp 6) [(.const (.int .i64 0))]⟩] (some []))))))
theorem k111 : Try.f111.body.bind (compC Try.prog G111) = some c111 := by kernel_rfl
theorem e111 : compRes Try.prog Try.f111.results.toList = some r111 := by kernel_rfl
def F111 : FunX := ⟨false, G111, c111, r111⟩
theorem o111 : FunOk Try.prog 111 F111 := ⟨Try.f111, by kernel_rfl, k111, e111, by kernel_rfl, by kernel_rfl⟩
def G112 : Cfg := ⟨[7], [(0, [0, 1, 2, 3, 4]), (1, [0, 1, 2, 3, 4, 19]), (2, [6]), (3, [0, 2, 4, 7]), (4, [0, 2, 4, 7, 8, 9]), (5, [0, 2, 4, 7, 8, 9, 10]), (6, [0, 2, 4, 7, 8, 9, 10, 48]), (8, [0, 2, 4, 7, 8, 9, 10, 11]), (9, [0, 2, 4, 7, 8, 9, 10, 11, 60]), (11, [0, 2, 4, 7, 8, 9, 10, 11]), (12, [0, 2, 4, 7, 8, 9, 10, 11, 83]), (13, [6]), (10, [0, 2, 4, 7, 8, 9, 10, 11]), (7, [0, 2, 4, 7, 8, 9, 10]), (14, [6])], 84, []⟩
def r112 : List CRes := [.tmp 6]
def c112 : CCode :=
(.seq (.region [
  ⟨(some 6), none, .simple (.move (.const (.bool false)))⟩] (some [0, 1, 2, 3, 4]))
(.seq (.seq (.region [
  ⟨(some 12), none, .simple (.move (.tmp 0))⟩,
  ⟨(some 13), none, .simple (.load none (.tmp 1))⟩,
  ⟨(some 14), none, .simple (.nilCheck (.tmp 13))⟩,
  ⟨(some 15), none, .simple (.fieldAddr 0 (.tmp 14))⟩,
  ⟨(some 16), none, .simple (.fieldAddr 2 (.tmp 15))⟩,
  ⟨(some 17), none, .simple (.load none (.tmp 16))⟩,
  ⟨(some 18), none, .simple (.len (.tmp 17))⟩,
  ⟨(some 19), none, .simple (.bin .eql (.tmp 12) (.tmp 18))⟩] (some [0, 1, 2, 3, 4, 19]))
(.cond (.tmp 19)
 (.seq (.region [
   ⟨(some 20), none, .simple (.load none (.tmp 1))⟩,
   ⟨(some 21), none, .simple (.load (some 2) (.tmp 2))⟩,
   ⟨(some 22), none, .call (.func 93) [(.tmp 20), (.tmp 21)]⟩,
   ⟨(some 23), none, .simple (.un .not (.tmp 22))⟩,
   ⟨(some 24), none, .simple (.move (.tmp 23))⟩,
   ⟨(some 25), (some (24, false)), .simple (.load none (.tmp 3))⟩,
   ⟨(some 26), (some (24, false)), .simple (.load (some 2) (.tmp 2))⟩,
   ⟨(some 27), (some (24, false)), .call (.tmp 25) [(.tmp 26)]⟩,
   ⟨(some 28), none, .simple (.pick (.tmp 24) (.const (.bool true)) (.tmp 27))⟩,
   ⟨(some 6), none, .simple (.move (.tmp 28))⟩] (some [6]))
 .ret)
 .skip))
(.seq (.region [
  ⟨(some 29), none, .simple (.load none (.tmp 1))⟩,
  ⟨(some 30), none, .simple (.nilCheck (.tmp 29))⟩,
  ⟨(some 31), none, .simple (.fieldAddr 0 (.tmp 30))⟩,
  ⟨(some 32), none, .simple (.fieldAddr 2 (.tmp 31))⟩,
  ⟨(some 33), none, .simple (.load none (.tmp 32))⟩,
  ⟨(some 34), none, .simple (.move (.tmp 0))⟩,
  ⟨(some 35), none, .simple (.indexS 7 (.tmp 33) (.tmp 34))⟩,
  ⟨(some 36), none, .simple (.load (some 7) (.tmp 35))⟩,
  ⟨(some 7), none, .simple (.alloc [(.d (.int .i64 0)), (.d (.int .i64 0)), (.d (.int .i64 0)), (.d (.int .i64 0)), (.d (.int .i64 0)), (.d (.int .i64 0)), (.d (.int .i64 0))])⟩,
  ⟨none, none, .simple (.store 7 (.tmp 7) (.tmp 36))⟩] (some [0, 2, 4, 7]))
(.seq (.region [
  ⟨(some 37), none, .simple (.fieldAddr 0 (.tmp 2))⟩,
  ⟨(some 38), none, .simple (.load none (.tmp 37))⟩,
  ⟨(some 39), none, .simple (.fieldAddr 1 (.tmp 2))⟩,
  ⟨(some 40), none, .simple (.load none (.tmp 39))⟩,
  ⟨(some 8), none, .simple (.move (.tmp 38))⟩,
  ⟨(some 9), none, .simple (.move (.tmp 40))⟩] (some [0, 2, 4, 7, 8, 9]))
(.seq (.seq (.region [
  ⟨(some 41), none, .simple (.fieldAddr 3 (.tmp 7))⟩,
  ⟨(some 42), none, .simple (.fieldAddr 0 (.tmp 41))⟩,
  ⟨(some 43), none, .simple (.load none (.tmp 42))⟩,
  ⟨(some 10), none, .simple (.move (.tmp 43))⟩] (some [0, 2, 4, 7, 8, 9, 10]))
(.block 0 (.loop (.seq (.seq (.region [
    ⟨(some 44), none, .simple (.move (.tmp 10))⟩,
    ⟨(some 45), none, .simple (.fieldAddr 3 (.tmp 7))⟩,
    ⟨(some 46), none, .simple (.fieldAddr 1 (.tmp 45))⟩,
    ⟨(some 47), none, .simple (.load none (.tmp 46))⟩,
    ⟨(some 48), none, .simple (.bin .leq (.tmp 44) (.tmp 47))⟩] (some [0, 2, 4, 7, 8, 9, 10, 48]))
  (.cond (.tmp 48)
   .skip
   (.exit 0)))
  (.seq (.block 1 (.seq (.region [
     ⟨(some 51), none, .simple (.move (.tmp 10))⟩,
     ⟨(some 52), none, .simple (.fieldAddr 5 (.tmp 7))⟩,
     ⟨(some 53), none, .simple (.fieldAddr 0 (.tmp 52))⟩,
     ⟨(some 54), none, .simple (.load none (.tmp 53))⟩,
     ⟨(some 55), none, .simple (.max [(.tmp 51), (.tmp 54)])⟩,
     ⟨(some 11), none, .simple (.move (.tmp 55))⟩] (some [0, 2, 4, 7, 8, 9, 10, 11]))
   (.block 2 (.loop (.seq (.seq (.region [
       ⟨(some 56), none, .simple (.move (.tmp 11))⟩,
       ⟨(some 57), none, .simple (.fieldAddr 5 (.tmp 7))⟩,
       ⟨(some 58), none, .simple (.fieldAddr 1 (.tmp 57))⟩,
       ⟨(some 59), none, .simple (.load none (.tmp 58))⟩,
       ⟨(some 60), none, .simple (.bin .leq (.tmp 56) (.tmp 59))⟩] (some [0, 2, 4, 7, 8, 9, 10, 11, 60]))
     (.cond (.tmp 60)
      .skip
      (.exit 2)))
     (.seq (.block 3 (.seq (.region [
        ⟨(some 63), none, .simple (.move (.tmp 8))⟩,
        ⟨(some 64), none, .simple (.move (.tmp 0))⟩,
        ⟨(some 65), none, .simple (.move (.tmp 0))⟩,
        ⟨(some 66), none, .simple (.sliceS 1 (.tmp 63) none (some (.tmp 64)) (some (.tmp 65)))⟩,
        ⟨(some 67), none, .simple (.move (.tmp 10))⟩,
        ⟨(some 68), none, .simple (.bslice false 3 1 1 [(.int .i64 0)] [(0, (.tmp 67))])⟩,
        ⟨(some 69), none, .simple (.append false 3 1 8 (.tmp 66) (.tmp 68))⟩,
        ⟨(some 70), none, .simple (.move (.tmp 9))⟩,
        ⟨(some 71), none, .simple (.move (.tmp 0))⟩,
        ⟨(some 72), none, .simple (.move (.tmp 0))⟩,
        ⟨(some 73), none, .simple (.sliceS 1 (.tmp 70) none (some (.tmp 71)) (some (.tmp 72)))⟩,
        ⟨(some 74), none, .simple (.move (.tmp 11))⟩,
        ⟨(some 75), none, .simple (.bslice false 3 1 1 [(.int .i64 0)] [(0, (.tmp 74))])⟩,
        ⟨(some 76), none, .simple (.append false 3 1 8 (.tmp 73) (.tmp 75))⟩,
        ⟨(some 77), none, .simple (.fieldAddr 0 (.tmp 2))⟩,
        ⟨none, none, .simple (.store 1 (.tmp 77) (.tmp 69))⟩,
        ⟨(some 78), none, .simple (.fieldAddr 1 (.tmp 2))⟩,
        ⟨none, none, .simple (.store 1 (.tmp 78) (.tmp 76))⟩] (some [0, 2, 4, 7, 8, 9, 10, 11]))
      (.seq (.region [
        ⟨(some 79), none, .simple (.load none (.tmp 4))⟩,
        ⟨(some 80), none, .simple (.move (.tmp 0))⟩,
        ⟨(some 81), none, .simple (.bin .add (.tmp 80) (.const (.int .i64 1)))⟩,
        ⟨(some 82), none, .call (.tmp 79) [(.tmp 81)]⟩,
        ⟨(some 83), none, .simple (.un .not (.tmp 82))⟩] (some [0, 2, 4, 7, 8, 9, 10, 11, 83]))
      (.cond (.tmp 83)
       (.seq (.region [
         ⟨(some 6), none, .simple (.move (.const (.bool false)))⟩] (some [6]))
       .ret)
       .skip))))
     (.region [
       ⟨(some 61), none, .simple (.move (.tmp 11))⟩,
       ⟨(some 62), none, .simple (.bin .add (.tmp 61) (.const (.int .i64 1)))⟩,
       ⟨(some 11), none, .simple (.move (.tmp 62))⟩] (some [0, 2, 4, 7, 8, 9, 10, 11]))))))))
  (.region [
    ⟨(some 49), none, .simple (.move (.tmp 10))⟩,
    ⟨(some 50), none, .simple (.bin .add (.tmp 49) (.const (.int .i64 1)))⟩,
    ⟨(some 10), none, .simple (.move (.tmp 50))⟩] (some [0, 2, 4, 7, 8, 9, 10])))))))
(.seq (.region [
  ⟨(some 6), none, .simple (.move (.const (.bool true)))⟩] (some [6]))
.ret))))))
theorem k112 : Try.f112.body.bind (compC Try.prog G112) = some c112 := by kernel_rfl
theorem e112 : compRes Try.prog Try.f112.results.toList = some r112 := by kernel_rfl
def F112 : FunX := ⟨false, G112, c112, r112⟩
theorem o112 : FunOk Try.prog 112 F112 := ⟨Try.f112, by kernel_rfl, k112, e112, by kernel_rfl, by kernel_rfl⟩
def G113 : Cfg := ⟨[], [(0, [0]), (1, [0, 7]), (2, [0]), (3, [0, 3]), (4, [0, 3, 4]), (5, [0, 3, 4, 15]), (7, [0, 3, 4]), (6, [0, 3, 4]), (8, [2])], 25, []⟩
-- BAD 113 region 2 at sort.go:67: other op
def r113 : List CRes := [.tmp 2]
def c113 : CCode :=
(.seq (.region [
  ⟨(some 2), none, .simple (.move (.const (.int .i64 0)))⟩] (some [0]))
(.seq (.seq (.region [
  ⟨(some 5), none, .simple (.move (.tmp 0))⟩,
  ⟨(some 6), none, .simple (.len (.tmp 5))⟩,
  ⟨(some 7), none, .simple (.bin .lss (.tmp 6) (.const (.int .i64 1)))⟩] (some [0, 7]))
(.cond (.tmp 7)
 (.region [
   ⟨(some 8), none, .simple (.bad)⟩,
   ⟨none, none, .simple (.panic (.tmp 8))⟩] (some [0]))
 .skip))
(.seq (.region [
  ⟨(some 9), none, .simple (.move (.tmp 0))⟩,
  ⟨(some 10), none, .simple (.indexS 1 (.tmp 9) (.const (.int .i64 0)))⟩,
  ⟨(some 11), none, .simple (.load none (.tmp 10))⟩,
  ⟨(some 3), none, .simple (.move (.tmp 11))⟩] (some [0, 3]))
(.seq (.seq (.region [
  ⟨(some 4), none, .simple (.move (.const (.int .i64 1)))⟩] (some [0, 3, 4]))
(.block 0 (.loop (.seq (.seq (.region [
    ⟨(some 12), none, .simple (.move (.tmp 4))⟩,
    ⟨(some 13), none, .simple (.move (.tmp 0))⟩,
    ⟨(some 14), none, .simple (.len (.tmp 13))⟩,
    ⟨(some 15), none, .simple (.bin .lss (.tmp 12) (.tmp 14))⟩] (some [0, 3, 4, 15]))
  (.cond (.tmp 15)
   .skip
   (.exit 0)))
  (.seq (.block 1 (.region [
     ⟨(some 18), none, .simple (.move (.tmp 3))⟩,
     ⟨(some 19), none, .simple (.move (.tmp 0))⟩,
     ⟨(some 20), none, .simple (.move (.tmp 4))⟩,
     ⟨(some 21), none, .simple (.indexS 1 (.tmp 19) (.tmp 20))⟩,
     ⟨(some 22), none, .simple (.load none (.tmp 21))⟩,
     ⟨(some 23), none, .simple (.min [(.tmp 18), (.tmp 22)])⟩,
     ⟨(some 3), none, .simple (.move (.tmp 23))⟩] (some [0, 3, 4])))
  (.region [
    ⟨(some 16), none, .simple (.move (.tmp 4))⟩,
    ⟨(some 17), none, .simple (.bin .add (.tmp 16) (.const (.int .i64 1)))⟩,
    ⟨(some 4), none, .simple (.move (.tmp 17))⟩] (some [0, 3, 4])))))))
(.seq (.region [
  ⟨(some 24), none, .simple (.move (.tmp 3))⟩,
  ⟨(some 2), none, .simple (.move (.tmp 24))⟩] (some [2]))
.ret)))))
theorem k113 : Try.f113.body.bind (compC Try.prog G113) = some c113 := by kernel_rfl
theorem e113 : compRes Try.prog Try.f113.results.toList = some r113 := by kernel_rfl
def F113 : FunX := ⟨false, G113, c113, r113⟩
theorem o113 : FunOk Try.prog 113 F113 := ⟨Try.f113, by kernel_rfl, k113, e113, by kernel_rfl, by kernel_rfl⟩
def G114 : Cfg := ⟨[], [(0, [0, 1]), (1, [0, 1, 7, 8]), (2, [0, 1, 7, 8, 9]), (3, [0, 1, 5, 7, 8]), (4, [0, 1, 5, 7, 8, 16]), (5, [4]), (6, [0, 1, 7, 8]), (7, [4])], 19, []⟩
def r114 : List CRes := [.tmp 4]
def c114 : CCode :=
(.seq (.region [
  ⟨(some 4), none, .simple (.move (.const (.int .i64 0)))⟩] (some [0, 1]))
(.seq (.seq (.region [
  ⟨(some 6), none, .simple (.move (.tmp 0))⟩,
  ⟨(some 7), none, .simple (.len (.tmp 6))⟩,
  ⟨(some 8), none, .simple (.move (.const (.int .i64 0)))⟩] (some [0, 1, 7, 8]))
(.block 0 (.loop (.seq (.region [
    ⟨(some 9), none, .simple (.bin .lss (.tmp 8) (.tmp 7))⟩] (some [0, 1, 7, 8, 9]))
  (.seq (.cond (.tmp 9)
   .skip
   (.exit 0))
  (.seq (.block 1 (.seq (.region [
     ⟨(some 10), none, .simple (.move (.tmp 8))⟩,
     ⟨(some 5), none, .simple (.move (.tmp 10))⟩] (some [0, 1, 5, 7, 8]))
   (.seq (.region [
     ⟨(some 11), none, .simple (.move (.tmp 1))⟩,
     ⟨(some 12), none, .simple (.move (.tmp 0))⟩,
     ⟨(some 13), none, .simple (.move (.tmp 5))⟩,
     ⟨(some 14), none, .simple (.indexS 2 (.tmp 12) (.tmp 13))⟩,
     ⟨(some 15), none, .simple (.load (some 2) (.tmp 14))⟩,
     ⟨(some 16), none, .call (.tmp 11) [(.tmp 15)]⟩] (some [0, 1, 5, 7, 8, 16]))
   (.cond (.tmp 16)
    (.seq (.region [
      ⟨(some 17), none, .simple (.move (.tmp 5))⟩,
      ⟨(some 4), none, .simple (.move (.tmp 17))⟩] (some [4]))
    .ret)
    .skip))))
  (.region [
    ⟨(some 18), none, .simple (.bin .add (.tmp 8) (.const (.int .i64 1)))⟩,
    ⟨(some 8), none, .simple (.move (.tmp 18))⟩] (some [0, 1, 7, 8]))))))))
(.seq (.region [
  ⟨(some 4), none, .simple (.move (.const (.int .i64 (-1))))⟩] (some [4]))
.ret)))
theorem k114 : Try.f114.body.bind (compC Try.prog G114) = some c114 := by kernel_rfl
theorem e114 : compRes Try.prog Try.f114.results.toList = some r114 := by kernel_rfl
def F114 : FunX := ⟨false, G114, c114, r114⟩
theorem o114 : FunOk Try.prog 114 F114 := ⟨Try.f114, by kernel_rfl, k114, e114, by kernel_rfl, by kernel_rfl⟩
def G115 : Cfg := ⟨[], [(0, [0, 1]), (1, [0, 1, 7, 8]), (2, [0, 1, 7, 8, 9]), (3, [0, 1, 5, 7, 8]), (4, [0, 1, 5, 7, 8, 16]), (5, [4]), (6, [0, 1, 7, 8]), (7, [4])], 19, []⟩
def r115 : List CRes := [.tmp 4]
def c115 : CCode :=
(.seq (.region [
  ⟨(some 4), none, .simple (.move (.const (.int .i64 0)))⟩] (some [0, 1]))
(.seq (.seq (.region [
  ⟨(some 6), none, .simple (.move (.tmp 0))⟩,
  ⟨(some 7), none, .simple (.len (.tmp 6))⟩,
  ⟨(some 8), none, .simple (.move (.const (.int .i64 0)))⟩] (some [0, 1, 7, 8]))
(.block 0 (.loop (.seq (.region [
    ⟨(some 9), none, .simple (.bin .lss (.tmp 8) (.tmp 7))⟩] (some [0, 1, 7, 8, 9]))
  (.seq (.cond (.tmp 9)
   .skip
   (.exit 0))
  (.seq (.block 1 (.seq (.region [
     ⟨(some 10), none, .simple (.move (.tmp 8))⟩,
     ⟨(some 5), none, .simple (.move (.tmp 10))⟩] (some [0, 1, 5, 7, 8]))
   (.seq (.region [
     ⟨(some 11), none, .simple (.move (.tmp 1))⟩,
     ⟨(some 12), none, .simple (.move (.tmp 0))⟩,
     ⟨(some 13), none, .simple (.move (.tmp 5))⟩,
     ⟨(some 14), none, .simple (.indexS 1 (.tmp 12) (.tmp 13))⟩,
     ⟨(some 15), none, .simple (.load none (.tmp 14))⟩,
     ⟨(some 16), none, .call (.tmp 11) [(.tmp 15)]⟩] (some [0, 1, 5, 7, 8, 16]))
   (.cond (.tmp 16)
    (.seq (.region [
      ⟨(some 17), none, .simple (.move (.tmp 5))⟩,
      ⟨(some 4), none, .simple (.move (.tmp 17))⟩] (some [4]))
    .ret)
    .skip))))
  (.region [
    ⟨(some 18), none, .simple (.bin .add (.tmp 8) (.const (.int .i64 1)))⟩,
    ⟨(some 8), none, .simple (.move (.tmp 18))⟩] (some [0, 1, 7, 8]))))))))
(.seq (.region [
  ⟨(some 4), none, .simple (.move (.const (.int .i64 (-1))))⟩] (some [4]))
.ret)))
theorem k115 : Try.f115.body.bind (compC Try.prog G115) = some c115 := by kernel_rfl
theorem e115 : compRes Try.prog Try.f115.results.toList = some r115 := by kernel_rfl
def F115 : FunX := ⟨false, G115, c115, r115⟩
theorem o115 : FunOk Try.prog 115 F115 := ⟨Try.f115, by kernel_rfl, k115, e115, by kernel_rfl, by kernel_rfl⟩
def G116 : Cfg := ⟨[], [(0, [0, 1]), (1, [0, 1, 7, 8]), (2, [0, 1, 7, 8, 9]), (3, [0, 1, 5, 7, 8]), (4, [0, 1, 5, 7, 8, 16]), (5, [4]), (6, [0, 1, 7, 8]), (7, [4])], 19, []⟩
def r116 : List CRes := [.tmp 4]
def c116 : CCode :=
(.seq (.region [
  ⟨(some 4), none, .simple (.move (.const (.int .i64 0)))⟩] (some [0, 1]))
(.seq (.seq (.region [
  ⟨(some 6), none, .simple (.move (.tmp 0))⟩,
  ⟨(some 7), none, .simple (.len (.tmp 6))⟩,
  ⟨(some 8), none, .simple (.move (.const (.int .i64 0)))⟩] (some [0, 1, 7, 8]))
(.block 0 (.loop (.seq (.region [
    ⟨(some 9), none, .simple (.bin .lss (.tmp 8) (.tmp 7))⟩] (some [0, 1, 7, 8, 9]))
  (.seq (.cond (.tmp 9)
   .skip
   (.exit 0))
  (.seq (.block 1 (.seq (.region [
     ⟨(some 10), none, .simple (.move (.tmp 8))⟩,
     ⟨(some 5), none, .simple (.move (.tmp 10))⟩] (some [0, 1, 5, 7, 8]))
   (.seq (.region [
     ⟨(some 11), none, .simple (.move (.tmp 1))⟩,
     ⟨(some 12), none, .simple (.move (.tmp 0))⟩,
     ⟨(some 13), none, .simple (.move (.tmp 5))⟩,
     ⟨(some 14), none, .simple (.indexS 7 (.tmp 12) (.tmp 13))⟩,
     ⟨(some 15), none, .simple (.load (some 7) (.tmp 14))⟩,
     ⟨(some 16), none, .call (.tmp 11) [(.tmp 15)]⟩] (some [0, 1, 5, 7, 8, 16]))
   (.cond (.tmp 16)
    (.seq (.region [
      ⟨(some 17), none, .simple (.move (.tmp 5))⟩,
      ⟨(some 4), none, .simple (.move (.tmp 17))⟩] (some [4]))
    .ret)
    .skip))))
  (.region [
    ⟨(some 18), none, .simple (.bin .add (.tmp 8) (.const (.int .i64 1)))⟩,
    ⟨(some 8), none, .simple (.move (.tmp 18))⟩] (some [0, 1, 7, 8]))))))))
(.seq (.region [
  ⟨(some 4), none, .simple (.move (.const (.int .i64 (-1))))⟩] (some [4]))
.ret)))
theorem k116 : Try.f116.body.bind (compC Try.prog G116) = some c116 := by kernel_rfl
theorem e116 : compRes Try.prog Try.f116.results.toList = some r116 := by kernel_rfl
def F116 : FunX := ⟨false, G116, c116, r116⟩
theorem o116 : FunOk Try.prog 116 F116 := ⟨Try.f116, by kernel_rfl, k116, e116, by kernel_rfl, by kernel_rfl⟩
def G117 : Cfg := ⟨[], [(0, [0, 1]), (1, [0, 1, 7, 8]), (2, [0, 1, 7, 8, 9]), (3, [0, 1, 5, 7, 8]), (4, [0, 1, 5, 7, 8, 16]), (5, [4]), (6, [0, 1, 7, 8]), (7, [4])], 19, []⟩
def r117 : List CRes := [.tmp 4]
def c117 : CCode :=
(.seq (.region [
  ⟨(some 4), none, .simple (.move (.const (.int .i64 0)))⟩] (some [0, 1]))
(.seq (.seq (.region [
  ⟨(some 6), none, .simple (.move (.tmp 0))⟩,
  ⟨(some 7), none, .simple (.len (.tmp 6))⟩,
  ⟨(some 8), none, .simple (.move (.const (.int .i64 0)))⟩] (some [0, 1, 7, 8]))
(.block 0 (.loop (.seq (.region [
    ⟨(some 9), none, .simple (.bin .lss (.tmp 8) (.tmp 7))⟩] (some [0, 1, 7, 8, 9]))
  (.seq (.cond (.tmp 9)
   .skip
   (.exit 0))
  (.seq (.block 1 (.seq (.region [
     ⟨(some 10), none, .simple (.move (.tmp 8))⟩,
     ⟨(some 5), none, .simple (.move (.tmp 10))⟩] (some [0, 1, 5, 7, 8]))
   (.seq (.region [
     ⟨(some 11), none, .simple (.move (.tmp 1))⟩,
     ⟨(some 12), none, .simple (.move (.tmp 0))⟩,
     ⟨(some 13), none, .simple (.move (.tmp 5))⟩,
     ⟨(some 14), none, .simple (.indexS 3 (.tmp 12) (.tmp 13))⟩,
     ⟨(some 15), none, .simple (.load (some 3) (.tmp 14))⟩,
     ⟨(some 16), none, .call (.tmp 11) [(.tmp 15)]⟩] (some [0, 1, 5, 7, 8, 16]))
   (.cond (.tmp 16)
    (.seq (.region [
      ⟨(some 17), none, .simple (.move (.tmp 5))⟩,
      ⟨(some 4), none, .simple (.move (.tmp 17))⟩] (some [4]))
    .ret)
    .skip))))
  (.region [
    ⟨(some 18), none, .simple (.bin .add (.tmp 8) (.const (.int .i64 1)))⟩,
    ⟨(some 8), none, .simple (.move (.tmp 18))⟩] (some [0, 1, 7, 8]))))))))
(.seq (.region [
  ⟨(some 4), none, .simple (.move (.const (.int .i64 (-1))))⟩] (some [4]))
.ret)))
theorem k117 : Try.f117.body.bind (compC Try.prog G117) = some c117 := by kernel_rfl
theorem e117 : compRes Try.prog Try.f117.results.toList = some r117 := by kernel_rfl
def F117 : FunX := ⟨false, G117, c117, r117⟩
theorem o117 : FunOk Try.prog 117 F117 := ⟨Try.f117, by kernel_rfl, k117, e117, by kernel_rfl, by kernel_rfl⟩
def G118 : Cfg := ⟨[], [(0, [0, 1]), (1, [4])], 9, []⟩
def r118 : List CRes := [.tmp 4]
def c118 : CCode :=
(.seq (.region [
  ⟨(some 4), none, .simple (.move (.const (.bool false)))⟩] (some [0, 1]))
(.seq (.region [
  ⟨(some 5), none, .simple (.move (.tmp 0))⟩,
  ⟨(some 6), none, .simple (.move (.tmp 1))⟩,
  ⟨(some 7), none, .call (.func 120) [(.tmp 5), (.tmp 6)]⟩,
  ⟨(some 8), none, .simple (.bin .geq (.tmp 7) (.const (.int .i64 0)))⟩,
  ⟨(some 4), none, .simple (.move (.tmp 8))⟩] (some [4]))
.ret))
theorem k118 : Try.f118.body.bind (compC Try.prog G118) = some c118 := by kernel_rfl
theorem e118 : compRes Try.prog Try.f118.results.toList = some r118 := by kernel_rfl
def F118 : FunX := ⟨false, G118, c118, r118⟩
theorem o118 : FunOk Try.prog 118 F118 := ⟨Try.f118, by kernel_rfl, k118, e118, by kernel_rfl, by kernel_rfl⟩
end Go.Proofs.Ytdnefcjbcieecaa
namespace Go.Proofs.Ytdnefcjbcieecaa
open Go Go.Proofs
def G119 : Cfg := ⟨[], [(0, [1, 2]), (1, [3])], 8, []⟩
def r119 : List CRes := [.tmp 3]
def c119 : CCode :=
(.seq (.region [
  ⟨(some 2), none, .simple (.box false (.tmp 0))⟩,
  ⟨(some 3), none, .simple (.move (.const (.bool false)))⟩] (some [1, 2]))
(.seq (.region [
  ⟨(some 4), none, .simple (.load none (.tmp 1))⟩,
  ⟨(some 5), none, .simple (.load (some 3) (.tmp 2))⟩,
  ⟨(some 6), none, .call (.tmp 4) [(.tmp 5)]⟩,
  ⟨(some 7), none, .simple (.un .not (.tmp 6))⟩,
  ⟨(some 3), none, .simple (.move (.tmp 7))⟩] (some [3]))
.ret))
theorem k119 : Try.f119.body.bind (compC Try.prog G119) = some c119 := by kernel_rfl
theorem e119 : compRes Try.prog Try.f119.results.toList = some r119 := by kernel_rfl
def F119 : FunX := ⟨false, G119, c119, r119⟩
theorem o119 : FunOk Try.prog 119 F119 := ⟨Try.f119, by kernel_rfl, k119, e119, by kernel_rfl, by kernel_rfl⟩
def G120 : Cfg := ⟨[], [(0, [0, 1]), (1, [0, 1, 7, 8]), (2, [0, 1, 7, 8, 9]), (3, [0, 1, 5, 7, 8]), (4, [0, 1, 5, 7, 8, 16]), (5, [4]), (6, [0, 1, 7, 8]), (7, [4])], 19, []⟩
def r120 : List CRes := [.tmp 4]
def c120 : CCode :=
(.seq (.region [
  ⟨(some 4), none, .simple (.move (.const (.int .i64 0)))⟩] (some [0, 1]))
(.seq (.seq (.region [
  ⟨(some 6), none, .simple (.move (.tmp 0))⟩,
  ⟨(some 7), none, .simple (.len (.tmp 6))⟩,
  ⟨(some 8), none, .simple (.move (.const (.int .i64 0)))⟩] (some [0, 1, 7, 8]))
(.block 0 (.loop (.seq (.region [
    ⟨(some 9), none, .simple (.bin .lss (.tmp 8) (.tmp 7))⟩] (some [0, 1, 7, 8, 9]))
  (.seq (.cond (.tmp 9)
   .skip
   (.exit 0))
  (.seq (.block 1 (.seq (.region [
     ⟨(some 10), none, .simple (.move (.tmp 8))⟩,
     ⟨(some 5), none, .simple (.move (.tmp 10))⟩] (some [0, 1, 5, 7, 8]))
   (.seq (.region [
     ⟨(some 11), none, .simple (.move (.tmp 1))⟩,
     ⟨(some 12), none, .simple (.move (.tmp 0))⟩,
     ⟨(some 13), none, .simple (.move (.tmp 5))⟩,
     ⟨(some 14), none, .simple (.indexS 3 (.tmp 12) (.tmp 13))⟩,
     ⟨(some 15), none, .simple (.load (some 3) (.tmp 14))⟩,
     ⟨(some 16), none, .call (.tmp 11) [(.tmp 15)]⟩] (some [0, 1, 5, 7, 8, 16]))
   (.cond (.tmp 16)
    (.seq (.region [
      ⟨(some 17), none, .simple (.move (.tmp 5))⟩,
      ⟨(some 4), none, .simple (.move (.tmp 17))⟩] (some [4]))
    .ret)
    .skip))))
  (.region [
    ⟨(some 18), none, .simple (.bin .add (.tmp 8) (.const (.int .i64 1)))⟩,
    ⟨(some 8), none, .simple (.move (.tmp 18))⟩] (some [0, 1, 7, 8]))))))))
(.seq (.region [
  ⟨(some 4), none, .simple (.move (.const (.int .i64 (-1))))⟩] (some [4]))
.ret)))
theorem k120 : Try.f120.body.bind (compC Try.prog G120) = some c120 := by kernel_rfl
theorem e120 : compRes Try.prog Try.f120.results.toList = some r120 := by kernel_rfl
-- no function 160
def F120 : FunX := ⟨false, G120, c120, r120⟩
theorem o120 : FunOk Try.prog 120 F120 := ⟨Try.f120, by kernel_rfl, k120, e120, by kernel_rfl, by kernel_rfl⟩
end Go.Proofs.Ytdnefcjbcieecaa
namespace Go.Proofs.Ytdnefcjbcieecaa
open Go Go.Proofs
noncomputable section
theorem q23 : FunIs Try.prog 23 G23 c23 r23 := ⟨Try.f23, Try.func23, k23, e23, by kernel_rfl, by kernel_rfl⟩
theorem q43 : FunIs Try.prog 43 G43 c43 r43 := ⟨Try.f43, Try.func43, k43, e43, by kernel_rfl, by kernel_rfl⟩
theorem q71 : FunIs Try.prog 71 G71 c71 r71 := ⟨Try.f71, Try.func71, k71, e71, by kernel_rfl, by kernel_rfl⟩
theorem q59 : FunIs Try.prog 59 G59 c59 r59 := ⟨Try.f59, Try.func59, k59, e59, by kernel_rfl, by kernel_rfl⟩
theorem q91 : FunIs Try.prog 91 G91 c91 r91 := ⟨Try.f91, Try.func91, k91, e91, by kernel_rfl, by kernel_rfl⟩
theorem q85 : FunIs Try.prog 85 G85 c85 r85 := ⟨Try.f85, Try.func85, k85, e85, by kernel_rfl, by kernel_rfl⟩
theorem q101 : FunIs Try.prog 101 G101 c101 r101 := ⟨Try.f101, Try.func101, k101, e101, by kernel_rfl, by kernel_rfl⟩
theorem q100 : FunIs Try.prog 100 G100 c100 r100 := ⟨Try.f100, Try.func100, k100, e100, by kernel_rfl, by kernel_rfl⟩
theorem q83 : FunIs Try.prog 83 G83 c83 r83 := ⟨Try.f83, Try.func83, k83, e83, by kernel_rfl, by kernel_rfl⟩
theorem q88 : FunIs Try.prog 88 G88 c88 r88 := ⟨Try.f88, Try.func88, k88, e88, by kernel_rfl, by kernel_rfl⟩
theorem q17 : FunIs Try.prog 17 G17 c17 r17 := ⟨Try.f17, Try.func17, k17, e17, by kernel_rfl, by kernel_rfl⟩
theorem q61 : FunIs Try.prog 61 G61 c61 r61 := ⟨Try.f61, Try.func61, k61, e61, by kernel_rfl, by kernel_rfl⟩
theorem q55 : FunIs Try.prog 55 G55 c55 r55 := ⟨Try.f55, Try.func55, k55, e55, by kernel_rfl, by kernel_rfl⟩
def X0 : Sx := mkX spNil
theorem X0_ok : SpOk Try.prog X0.sp := spNil_ok _
theorem w23 (n lo hi : Int) : sx X0 c23 [] (doneF 0 r23) (envOf [vi n, vi lo, vi hi]) [] [] =
    Tr.br (decide (lo ≤ n)) (Tr.done (V.d (D.bool (decide (n ≤ hi)))) []) (Tr.done (V.d (D.bool false)) []) := by kernel_rfl
theorem y23 (n lo hi : Int) : Yields Try.prog 23 [vi n, vi lo, vi hi] (vb (inR n lo hi)) := by
  refine q23.yields X0_ok rfl rfl rfl (w23 n lo hi) ?_
  simp only [holds]
  grind [VLe.of_eq, inR, vb]
theorem w71 (n lo hi : Int) : sx X0 c71 [] (doneF 0 r71) (envOf [vi n, vi lo, vi hi]) [] [] =
    Tr.br (decide (lo ≤ n)) (Tr.done (V.d (D.bool (decide (n ≤ hi)))) []) (Tr.done (V.d (D.bool false)) []) := by kernel_rfl
theorem y71 (n lo hi : Int) : Yields Try.prog 71 [vi n, vi lo, vi hi] (vb (inR n lo hi)) := by
  refine q71.yields X0_ok rfl rfl rfl (w71 n lo hi) ?_
  simp only [holds]
  grind [VLe.of_eq, inR, vb]
theorem w61 (r : Rng) : sx X0 c61 [] (doneF 0 r61) (envOf [Rv r]) [] [] =
    Tr.done (V.agg [V.d (D.int IntKind.i64 (Rng.lo r)), V.d (D.int IntKind.i64 (Rng.hi r))]) [] := by kernel_rfl
theorem y61 (r : Rng) : Yields Try.prog 61 [Rv r] (Rv r) := by
  refine q61.yields X0_ok rfl rfl rfl (w61 r) ?_
  simp only [holds]
  exact .refl _
theorem w55 (lo hi : Int) : sx X0 c55 [] (doneF 0 r55) (envOf [vi lo, vi hi]) [] [] =
    Tr.done (V.agg [V.d (D.int IntKind.i64 lo), V.d (D.int IntKind.i64 hi)]) [] := by kernel_rfl
theorem y55 (lo hi : Int) : Yields Try.prog 55 [vi lo, vi hi] (Rv ⟨lo, hi⟩) := by
  refine q55.yields X0_ok rfl rfl rfl (w55 lo hi) ?_
  simp only [holds]
  exact .refl _
def thin (c : Cmp) (t : Tru) : Bool := decide (c.held.length ≤ 7 ∧ c.trades.length ≤ 7 ∧ c.divs.length ≤ 7 ∧ c.splits.length ≤ 7 ∧ c.closed.length ≤ 7 ∧ t.sold.length ≤ 7 ∧ t.deliv.length ≤ 7)
theorem w17 (c : Cmp) (t : Tru) : sx X0 c17 [] (doneF 0 r17) (envOf [Cv c, Uv t]) [] [] =
    Tr.br (decide (Int.ofNat (List.length (Cmp.held c)) ≤ (7 : Int))) (Tr.br (decide (Int.ofNat (List.length (Cmp.trades c)) ≤ (7 : Int))) (Tr.br (decide (Int.ofNat (List.length (Cmp.divs c)) ≤ (7 : Int))) (Tr.br (decide (Int.ofNat (List.length (Cmp.splits c)) ≤ (7 : Int))) (Tr.br (decide (Int.ofNat (List.length (Cmp.closed c)) ≤ (7 : Int))) (Tr.br (decide (Int.ofNat (List.length (Tru.sold t)) ≤ (7 : Int))) (Tr.done (V.d (D.bool (decide (Int.ofNat (List.length (Tru.deliv t)) ≤ (7 : Int))))) []) (Tr.done (V.d (D.bool false)) [])) (Tr.done (V.d (D.bool false)) [])) (Tr.done (V.d (D.bool false)) [])) (Tr.done (V.d (D.bool false)) [])) (Tr.done (V.d (D.bool false)) [])) (Tr.done (V.d (D.bool false)) []) := by kernel_rfl
theorem y17 (c : Cmp) (t : Tru) : Yields Try.prog 17 [Cv c, Uv t] (vb (thin c t)) := by
  refine q17.yields X0_ok rfl rfl rfl (w17 c t) ?_
  simp only [holds]
  grind [VLe.of_eq, thin, vb]
def entIII (m : Int → Int → Int → V) : Ent := fun args h => match args with
  | [.d (.int .i64 a), .d (.int .i64 b), .d (.int .i64 c)] => some (True, m a b c, none)
  | _ => none
theorem entIII_ok {P : Program} {f : Nat} {m : Int → Int → Int → V} (hy : ∀ a b c, Yields P f [vi a, vi b, vi c] (m a b c)) : EntOk P f (entIII m) := by
  intro args h p v h' he hp
  unfold entIII at he
  split at he
  · cases he; exact hy _ _ _ h
  · cases he
def entI (m : Int → V) : Ent := fun args h => match args with
  | [.d (.int .i64 a)] => some (True, m a, none)
  | _ => none
theorem entI_ok {P : Program} {f : Nat} {m : Int → V} (hy : ∀ a, Yields P f [vi a] (m a)) : EntOk P f (entI m) := by
  intro args h p v h' he hp
  unfold entI at he
  split at he
  · cases he; exact hy _ h
  · cases he
def entII (m : Int → Int → V) : Ent := fun args h => match args with
  | [.d (.int .i64 a), .d (.int .i64 b)] => some (True, m a b, none)
  | _ => none
theorem entII_ok {P : Program} {f : Nat} {m : Int → Int → V} (hy : ∀ a b, Yields P f [vi a, vi b] (m a b)) : EntOk P f (entII m) := by
  intro args h p v h' he hp
  unfold entII at he
  split at he
  · cases he; exact hy _ _ h
  · cases he
def entR (m : Rng → V) : Ent := fun args h => match args with
  | [.agg [.d (.int .i64 a), .d (.int .i64 b)]] => some (True, m ⟨a, b⟩, none)
  | _ => none
theorem entR_ok {P : Program} {f : Nat} {m : Rng → V} (hy : ∀ r, Yields P f [Rv r] (m r)) : EntOk P f (entR m) := by
  intro args h p v h' he hp
  unfold entR at he
  split at he
  · cases he; exact hy ⟨_, _⟩ h
  · cases he
def entRI (m : Rng → Int → V) : Ent := fun args h => match args with
  | [.agg [.d (.int .i64 a), .d (.int .i64 b)], .d (.int .i64 n)] => some (True, m ⟨a, b⟩ n, none)
  | _ => none
theorem entRI_ok {P : Program} {f : Nat} {m : Rng → Int → V} (hy : ∀ r n, Yields P f [Rv r, vi n] (m r n)) : EntOk P f (entRI m) := by
  intro args h p v h' he hp
  unfold entRI at he
  split at he
  · cases he; exact hy ⟨_, _⟩ _ h
  · cases he
def asC : V → Option Cmp
  | .agg [.d (.int .i64 hs), .d (.sl false n1 d1), .d (.sl false n2 d2), .d (.sl false n3 d3), .d (.sl false n4 d4), .d (.sl false n5 d5)] => some (dC hs n1 d1 n2 d2 n3 d3 n4 d4 n5 d5)
  | _ => none
def asU : V → Option Tru
  | .agg [.d (.sl false n1 d1), .d (.sl false n2 d2)] => some (dU n1 d1 n2 d2)
  | _ => none
def ent23 := entIII fun n lo hi => vb (inR n lo hi)
theorem ent23_ok : EntOk Try.prog 23 ent23 := entIII_ok y23
def ent71 := entIII fun n lo hi => vb (inR n lo hi)
theorem ent71_ok : EntOk Try.prog 71 ent71 := entIII_ok y71
def ent61 := entR fun r => Rv r
theorem ent61_ok : EntOk Try.prog 61 ent61 := entR_ok y61
def ent55 := entII fun lo hi => Rv ⟨lo, hi⟩
theorem ent55_ok : EntOk Try.prog 55 ent55 := entII_ok y55
def tab1 : Spec := (spAdd 55 ent55 (spAdd 61 ent61 (spAdd 71 ent71 (spAdd 23 ent23 spNil))))
theorem tab1_ok : SpOk Try.prog tab1 := (spAdd_ok ent55_ok (spAdd_ok ent61_ok (spAdd_ok ent71_ok (spAdd_ok ent23_ok (spNil_ok _)))))
def X1 : Sx := mkX tab1
theorem X1_ok : SpOk Try.prog X1.sp := tab1_ok
theorem w59 (n : Int) : sx X1 c59 [] (doneF 0 r59) (envOf [vi n]) [] [] =
    Tr.need True (Tr.done (V.d (D.bool (inR n (0 : Int) (11 : Int)))) []) := by kernel_rfl
theorem y59 (n : Int) : Yields Try.prog 59 [vi n] (vb (isDay n)) := by
  refine q59.yields X1_ok rfl rfl rfl (w59 n) ?_
  simp only [holds]
  grind [VLe.of_eq, isDay, inR, vb]
theorem w43 (r : Rng) : sx X1 c43 [] (doneF 0 r43) (envOf [Rv r]) [] [] =
    Tr.need True (Tr.br (inR (Rng.lo r) (0 : Int) (Rng.hi r)) (Tr.done (V.d (D.bool (decide (Rng.hi r ≤ (11 : Int))))) []) (Tr.done (V.d (D.bool false)) [])) := by kernel_rfl
theorem y43 (r : Rng) : Yields Try.prog 43 [Rv r] (vb r.days) := by
  refine q43.yields X1_ok rfl rfl rfl (w43 r) ?_
  simp only [holds]
  grind [VLe.of_eq, Rng.days, inR, vb]
theorem w85 (r : Rng) (n : Int) : sx X1 c85 [] (doneF 0 r85) (envOf [Rv r, vi n]) [] [] =
    Tr.need True (Tr.done (V.d (D.bool (inR n (Rng.lo r) (Rng.hi r)))) []) := by kernel_rfl
theorem y85 (r : Rng) (n : Int) : Yields Try.prog 85 [Rv r, vi n] (vb (r.has n)) := by
  refine q85.yields X1_ok rfl rfl rfl (w85 r n) ?_
  simp only [holds]
  grind [VLe.of_eq, Rng.has, inR, vb]
theorem w100 (c : Cmp) (n : Int) (hc : 1 ≤ c.houses) (hc2 : c.houses ≤ 9223372036854775807) : sx X1 c100 [] (doneF 0 r100) (envOf [Cv c, vi n]) [] [] =
    Tr.need ((-9223372036854775808 : Int) ≤ Cmp.houses c - (1 : Int) ∧ Cmp.houses c - (1 : Int) ≤ (9223372036854775807 : Int)) (Tr.need True (Tr.done (V.d (D.bool (inR n (0 : Int) (Cmp.houses c - (1 : Int))))) [])) := by kernel_rfl
theorem y100 (c : Cmp) (n : Int) (hc : 1 ≤ c.houses) (hc2 : c.houses ≤ 9223372036854775807) : Yields Try.prog 100 [Cv c, vi n] (vb (inR n 0 (c.houses - 1))) := by
  refine q100.yields X1_ok rfl rfl rfl (w100 c n hc hc2) ?_
  simp only [holds]
  grind [VLe.of_eq, inR, vb]
def ent59 := entI fun n => vb (isDay n)
theorem ent59_ok : EntOk Try.prog 59 ent59 := entI_ok y59
def ent43 := entR fun r => vb r.days
theorem ent43_ok : EntOk Try.prog 43 ent43 := entR_ok y43
def ent85 := entRI fun r n => vb (r.has n)
theorem ent85_ok : EntOk Try.prog 85 ent85 := entRI_ok y85
def tab2 : Spec := (spAdd 85 ent85 (spAdd 43 ent43 (spAdd 59 ent59 tab1)))
theorem tab2_ok : SpOk Try.prog tab2 := (spAdd_ok ent85_ok (spAdd_ok ent43_ok (spAdd_ok ent59_ok tab1_ok)))
def X2 : Sx := mkX tab2
theorem X2_ok : SpOk Try.prog X2.sp := tab2_ok
theorem w91 (r : Rng) : sx X2 c91 [] (doneF 0 r91) (envOf [Rv r]) [] [] =
    Tr.need True (Tr.br (isDay (Rng.lo r)) (Tr.need True (Tr.br (isDay (Rng.hi r)) (Tr.done (V.d (D.bool (decide (Rng.lo r ≤ Rng.hi r)))) []) (Tr.done (V.d (D.bool false)) []))) (Tr.done (V.d (D.bool false)) [])) := by kernel_rfl
theorem y91 (r : Rng) : Yields Try.prog 91 [Rv r] (vb r.days) := by
  refine q91.yields X2_ok rfl rfl rfl (w91 r) ?_
  simp only [holds]
  grind [VLe.of_eq, Rng.days, isDay, inR, vb]
def ent91 := entR fun r => vb r.days
theorem ent91_ok : EntOk Try.prog 91 ent91 := entR_ok y91
def tab3 : Spec := (spAdd 91 ent91 tab2)
theorem tab3_ok : SpOk Try.prog tab3 := (spAdd_ok ent91_ok tab2_ok)
def X3 : Sx := mkX tab3
theorem X3_ok : SpOk Try.prog X3.sp := tab3_ok
theorem w101 (r : Rng) : sx X3 c101 [] (doneF 0 r101) (envOf [Rv r]) [] [] =
    Tr.need True (Tr.br (Rng.days { lo := Rng.lo r, hi := Rng.hi r }) (Tr.need ((-9223372036854775808 : Int) ≤ Rng.hi r - Rng.lo r ∧ Rng.hi r - Rng.lo r ≤ (9223372036854775807 : Int)) (Tr.done (V.d (D.bool (decide (Rng.hi r - Rng.lo r ≤ (2 : Int))))) [])) (Tr.done (V.d (D.bool false)) [])) := by kernel_rfl
theorem y101 (r : Rng) : Yields Try.prog 101 [Rv r] (vb r.short) := by
  refine q101.yields X3_ok rfl rfl rfl (w101 r) ?_
  simp only [holds]
  grind [VLe.of_eq, Rng.days, Rng.short, inR, vb]
theorem w88 (d : Dvd) : sx X3 c88 [] (doneF 0 r88) (envOf [Dv d]) [] [] =
    Tr.need True (Tr.br (Rng.days { lo := Dvd.ex d, hi := Dvd.record d }) (Tr.need True (Tr.done (V.d (D.bool (inR (Dvd.pence d) (0 : Int) (50 : Int)))) [])) (Tr.done (V.d (D.bool false)) [])) := by kernel_rfl
theorem y88 (d : Dvd) : Yields Try.prog 88 [Dv d] (vb (okDv d)) := by
  refine q88.yields X3_ok rfl rfl rfl (w88 d) ?_
  simp only [holds]
  grind [VLe.of_eq, Rng.days, okDv, inR, vb]
end
end Go.Proofs.Ytdnefcjbcieecaa
