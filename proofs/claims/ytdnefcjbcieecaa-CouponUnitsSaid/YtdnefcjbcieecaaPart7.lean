/- A part of the proof. -/
import Derived.Test.YtdnefcjbcieecaaPart6
import Derived.Test.YtdnefcjbcieecaaProg
import Derived.KernelRfl
set_option linter.unusedVariables false
set_option linter.unusedSimpArgs false
namespace Go.Proofs.Ytdnefcjbcieecaa
open Go
def StLe (n sz : Nat) (env : Env) (h : Heap) (env' : Env) (h' : Heap) : Prop :=
  ∀ M w a, Sim M h w → n ≤ h.length → RepE sz M env a → ∃ M', Post n M h w M' h' w ∧ RepE sz M' env' a
theorem StLe.refl {n sz : Nat} (env : Env) (h : Heap) : StLe n sz env h env h := fun M _ _ hs hn hE => ⟨M, .refl hs hn, hE⟩
theorem StLe.trans {n sz : Nat} {e1 e2 e3 : Env} {h1 h2 h3 : Heap} (a : StLe n sz e1 h1 e2 h2) (b : StLe n sz e2 h2 e3 h3) : StLe n sz e1 h1 e3 h3 := fun M w c hs hn hE => by
  obtain ⟨M1, p1, hE1⟩ := a M w c hs hn hE
  obtain ⟨M2, p2, hE2⟩ := b M1 w c p1.sim p1.len hE1
  exact ⟨M2, p1.trans p2, hE2⟩
theorem own_ghost {M : Mem} {k : Nat} (hk : M.mu k = some ⟨none, 0, 0⟩) {v : Value} (h : RepV M (.d .nils) v) : RepV M (.own k 0 0) v := by
  cases h with
  | d x v h => cases h; exact .own k 0 0 ⟨none, 0, 0⟩ none 0 hk (Nat.le_refl _) (Nat.le_refl _) (by decide) (fun _ => ⟨rfl, rfl⟩)
theorem Sim.reb {M : Mem} {h : Heap} {w : World} (hs : Sim M h w) {id : Nat} {cs cs' : List V} (hi : h[id]? = some (some (.box cs))) (hl : cs'.length = cs.length)
    (hv : ∀ (k : Nat) x y v, cs[k]? = some x → cs'[k]? = some y → RepV M x v → RepV M y v) : Sim M (h.set id (some (.box cs'))) w := by
  have hlt : id < h.length := (List.getElem?_eq_some_iff.1 hi).1
  have hex : ∀ (j : Nat) x, (h.set id (some (.box cs')))[j]? = some (some x) → ∃ y, h[j]? = some (some y) := fun j x hx => by
    by_cases hj : j = id
    · subst hj; exact ⟨_, hi⟩
    · rw [List.getElem?_set_ne (Ne.symm hj)] at hx; exact ⟨_, hx⟩
  have hlive : ∀ b, liveBlk M (h.set id (some (.box cs'))) b → liveBlk M h b := fun b ⟨j, blk, r, hj, hr, hb⟩ => by
    obtain ⟨y, hy⟩ := hex j _ hj
    exact ⟨j, y, r, hy, hr, hb⟩
  refine ⟨fun j blk hj => ?_, fun i j bi bj ri rj b hbi hbj hri hrj h1 h2 => ?_, fun b o v hv => ⟨(hs.ro b o v hv).1, fun hl => (hs.ro b o v hv).2 (hlive b hl)⟩, fun i hi => hs.dom i (by simpa using hi), fun b hb => ⟨(hs.df b hb).1, fun hl => (hs.df b hb).2 (hlive b hl)⟩⟩
  · by_cases hj' : j = id
    · subst hj'
      rw [List.getElem?_set_self hlt] at hj
      cases hj
      obtain ⟨r, hr, h0, b, arr, T, h1, h2, h3, h4⟩ := hs.blks j _ hi
      refine ⟨r, hr, h0, b, arr, T, h1, h2, ⟨by rw [hl]; exact h3.1, fun k y c hy hc => ?_⟩, h4⟩
      have hk : k < cs.length := by rw [← hl]; exact (List.getElem?_eq_some_iff.1 hy).1
      exact hv k cs[k] y c (by simp [hk]) hy (h3.2 k cs[k] c (by simp [hk]) hc)
    · rw [List.getElem?_set_ne (Ne.symm hj')] at hj
      exact hs.blks j blk hj
  · obtain ⟨y, hy⟩ := hex i _ hbi
    obtain ⟨z, hz⟩ := hex j _ hbj
    exact hs.inj i j y z ri rj b hy hz hri hrj h1 h2
theorem StLe.ghostBox {n sz : Nat} {env : Env} {h : Heap} {id off : Nat} {cs : List V} (e es : Nat) (hi : h[id]? = some (some (.box cs))) (hc : cs[off]? = some (.d .nils)) :
    StLe n sz env h env ((h.set id (some (.box (cs.set off (.own h.length 0 0))))) ++ [some (.row e es 0 [])]) := by
  intro M w a hs hn hE
  obtain ⟨p, hm⟩ := ghost_row (n := n) e es hs hn
  have hlt : id < h.length := (List.getElem?_eq_some_iff.1 hi).1
  have hi' : (h ++ [some (.row e es 0 [])])[id]? = some (some (.box cs)) := by rw [List.getElem?_append_left hlt]; exact hi
  have hset : ((h.set id (some (.box (cs.set off (.own h.length 0 0))))) ++ [some (.row e es 0 [])]) = (h ++ [some (Blk.row e es 0 [])]).set id (some (.box (cs.set off (.own h.length 0 0)))) := by
    rw [List.set_append_left _ _ hlt]
  have hmu : (M.setMu h.length ⟨none, 0, 0⟩).mu h.length = some ⟨none, 0, 0⟩ := Mem.setMu_same _ _ _
  have hs2 := Sim.reb (M := M.setMu h.length ⟨none, 0, 0⟩) p.sim (cs' := cs.set off (.own h.length 0 0)) hi' (by simp) (fun k x y v hx hy hr => by
    by_cases hk : off = k
    · subst hk
      rw [hc] at hx; cases hx
      have : off < cs.length := (List.getElem?_eq_some_iff.1 hc).1
      rw [List.getElem?_set_self this] at hy
      cases hy
      exact own_ghost hmu hr
    · rw [List.getElem?_set_ne hk, hx] at hy
      cases hy; exact hr)
  rw [hset]
  have hlive : ∀ b, liveBlk (M.setMu h.length ⟨none, 0, 0⟩) ((h ++ [some (Blk.row e es 0 [])]).set id (some (.box (cs.set off (.own h.length 0 0))))) b → liveBlk (M.setMu h.length ⟨none, 0, 0⟩) (h ++ [some (.row e es 0 [])]) b := fun b ⟨j, blk, r, hj, hr, hb⟩ => by
    by_cases hj' : j = id
    · subst hj'; exact ⟨j, _, r, hi', hr, hb⟩
    · rw [List.getElem?_set_ne (Ne.symm hj')] at hj; exact ⟨j, blk, r, hj, hr, hb⟩
  exact ⟨_, ⟨p.ro, p.dc, p.le, by simp; omega, hs2, p.os, p.tape, p.output, p.size, p.keep, fun b hb hl => p.live b hb (hlive b hl)⟩, hE.1, hE.2.1, fun k => hm _ _ (hE.2.2 k)⟩
def Env.sub (env : Env) (t : Nat) (v : V) : Env := env.map fun p => (p.1, if p.1 = t then v else p.2)
theorem Env.get_sub (env : Env) (t k : Nat) (v : V) : (env.sub t v).get k = env.get k ∨ (k = t ∧ (env.sub t v).get k = v) := by
  induction env with
  | nil => exact .inl rfl
  | cons p r ih =>
    obtain ⟨j, u⟩ := p
    show (if k = j then (if j = t then v else u) else (Env.sub r t v).get k) = (if k = j then u else Env.get r k) ∨ _ ∧ (if k = j then (if j = t then v else u) else (Env.sub r t v).get k) = v
    by_cases hk : k = j
    · rw [if_pos hk, if_pos hk]
      by_cases hj : j = t
      · rw [if_pos hj]; exact .inr ⟨hk.trans hj, rfl⟩
      · rw [if_neg hj]; exact .inl rfl
    · rw [if_neg hk, if_neg hk]; exact ih
theorem StLe.ghostTmp {n sz : Nat} {env : Env} {h : Heap} {t : Nat} (e es : Nat) (hc : env.get t = .d .nils) : StLe n sz env h (env.sub t (.own h.length 0 0)) (h ++ [some (.row e es 0 [])]) := by
  intro M w a hs hn hE
  obtain ⟨p, hm⟩ := ghost_row (n := n) e es hs hn
  refine ⟨_, p, hE.1, hE.2.1, fun k => ?_⟩
  rcases env.get_sub t k (.own h.length 0 0) with h1 | ⟨rfl, h1⟩
  · rw [h1]; exact hm _ _ (hE.2.2 k)
  · rw [h1]
    have := hm _ _ (hE.2.2 k)
    rw [hc] at this
    exact own_ghost (Mem.setMu_same _ _ _) this
section
variable {P : Program} {G : Cfg} {n : Nat} {Q : CExit → Env → Heap → Prop}
theorem LoopP.state {c : CCode} {env env' : Env} {h h' : Heap} (hs : StLe n G.sz env h env' h') (hl : LoopP P G n c Q env' h') : LoopP P G n c Q env h := by
  intro g hg ro M w a hro hm hsim hn hE
  obtain ⟨M1, p1, hE1⟩ := hs M w a hsim hn hE
  refine wpIn_mono (hl g hg ro M1 w a hro (p1.cc hm) p1.sim p1.len hE1) fun e a' w' hq => ?_
  obtain ⟨M2, env2, h2, p2, hE2, hk⟩ := hq
  exact ⟨M2, env2, h2, p1.trans p2, hE2, hk⟩
theorem loop_cut {c : CCode} (I : Nat → Env → Heap → Prop) {m0 : Nat} {env : Env} {h : Heap} (h0 : I m0 env h)
    (hstep : ∀ m env1 h1, I m env1 h1 → wpc P G h.length c (fun e env' h' => match e with
      | .normal => ∃ m', m' < m ∧ env'.all (fun p => bel2 h.length p.2) = true ∧ (h'.take h.length).all (blkBel h.length) = true ∧ I m' env' (h'.take h.length)
      | .exit id => Q (.exit id) env' h'
      | .ret => Q .ret env' h') env1 h1) : LoopP P G n c Q env h := by
  intro g hg ro M w a hro hm hs hn hE
  intro b k cs hro' hb hroom
  have main : ∀ m, ∀ env1 h1 M1 w1 a1, I m env1 h1 → Post h.length M h w M1 h1 w1 → RepE G.sz M1 env1 a1 →
      ∃ e a' w', QQ n G.sz M h w Q e a' w' ∧ ArrivesIn (Machine.fenced P (fw ro)) P (lone (b.atR a1 (.code g :: .inLoop g :: k)) cs w1) b k cs e a' w' := by
    intro m
    induction m using Nat.strongRecOn with
    | _ m ih =>
      intro env1 h1 M1 w1 a1 hI hp hE1
      obtain ⟨e, a2, w2, hq, harr⟩ := wpc_sound g c _ env1 h1 hg (hstep m env1 h1 hI) ro M1 w1 a1 hro (hp.cc hm) hp.sim hp.len hE1 b (.inLoop g :: k) cs hro' hb hroom
      obtain ⟨M2, env2, h2, hp2, hE2, hK⟩ := hq
      cases e with
      | normal =>
        obtain ⟨m', hlt, hb1, hb2, hI'⟩ := hK
        have hp3 := (hp.trans hp2).cut hs hb2
        have hE3 : RepE G.sz (M2.cut h.length) env2 a2 := ⟨hE2.1, hE2.2.1, fun k => (hE2.2.2 k).bel2 (env_bel hb1 k)⟩
        obtain ⟨e3, a3, w3, hq3, harr3⟩ := ih m' hlt env2 _ _ w2 a2 hI' hp3 hE3
        exact ⟨e3, a3, w3, hq3, .of_steps (StepsIn.trans harr (.one (fenced_calm hb hroom rfl) stepR_inLoop)) harr3⟩
      | exit id => exact ⟨_, a2, w2, ⟨M2, env2, h2, (hp.trans hp2).mono hn, hE2, hK⟩, .pass (x := .inLoop g) rfl (fun _ _ => .inl (by simp)) harr⟩
      | ret => exact ⟨_, a2, w2, ⟨M2, env2, h2, (hp.trans hp2).mono hn, hE2, hK⟩, .pass (x := .inLoop g) rfl (fun _ _ => .inl (by simp)) harr⟩
      | goto l => exact hK.elim
      | panic c => exact hK.elim
      | outgrown => exact hK.elim
  obtain ⟨e, a', w', hq, harr⟩ := main m0 env h M w a h0 (.refl hs (Nat.le_refl _)) hE
  exact ⟨e, a', w', hq, .of_steps (.one (fenced_calm hb hroom rfl) stepR_loop) harr⟩
theorem lp_count {X : Sx} (hX : SpOk P X.sp) {c : CCode} {s : List Fr} {env : Env} {h : Heap} (N : Nat) (A : Nat → Prop) (E : Nat → Env) (H : Nat → Heap) (he : env = E 0) (hh : h = H 0) (hA : A 0)
    (hb : ∀ k, k ≤ N → (H k).length = h.length ∧ (E k).all (fun p => bel2 h.length p.2) = true ∧ (H k).all (blkBel h.length) = true)
    (hstep : ∀ k, k ≤ N → A k → ∀ Q', (∀ J, k < N → A (k + 1) → Q' .normal (E (k + 1)) (H (k + 1) ++ J)) → (∀ id env' h', retS P G n (.exit id) s Q env' h' → Q' (.exit id) env' h') → (∀ env' h', retS P G n .ret s Q env' h' → Q' .ret env' h') →
      holds P G h.length Q' (fun _ _ => True) (sx X c [] leafK (E k) [] (H k))) : lpS P G n c s Q env h := by
  refine loop_cut (I := fun m env h => ∃ k, k ≤ N ∧ m = N - k ∧ A k ∧ env = E k ∧ h = H k) (m0 := N) ⟨0, Nat.zero_le _, rfl, hA, he, hh⟩ ?_
  rintro m env1 h1 ⟨k, hk, rfl, hAk, rfl, rfl⟩
  refine sx_sound hX c [] leafK (E k) [] (H k) leafK_ok (.nil _) (hstep k hk hAk _ (fun J hlt hA1 => ?_) (fun id env' h' hr => hr) (fun env' h' hr => hr))
  obtain ⟨b1, b2, b3⟩ := hb (k + 1) hlt
  have hj : (H (k + 1) ++ J).take h.length = H (k + 1) := by rw [← b1, List.take_left]
  exact ⟨N - (k + 1), by omega, b2, by rw [hj]; exact b3, k + 1, hlt, rfl, hA1, rfl, hj⟩
theorem Post.cutAt {M M' : Mem} {h h1 : Heap} {w w' : World} {m : Nat} (hs : Sim M h w) (p : Post h.length M h w M' h1 w') (hm : h.length ≤ m) (hm2 : m ≤ h1.length) (hb : (h1.take m).all (blkBel m) = true) :
    Post h.length M h w (M'.cut m) (h1.take m) w' := by
  have hd : ∀ i r, M.mu i = some r → i < h.length := fun i r hr => by
    rcases Nat.lt_or_ge i h.length with hl | hl
    · exact hl
    · rw [hs.dom i hl] at hr; cases hr
  have hget : ∀ (i : Nat) x, (h1.take m)[i]? = some x → i < m ∧ h1[i]? = some x := fun i x hx => by
    rw [List.getElem?_take] at hx
    split at hx
    · rename_i hl; exact ⟨hl, hx⟩
    · cases hx
  have hlive : ∀ b, liveBlk (M'.cut m) (h1.take m) b → liveBlk M' h1 b := fun b ⟨i, blk, r, hi, hr, hb⟩ => ⟨i, blk, r, (hget i _ hi).2, (Mem.cut_some hr).2, hb⟩
  refine ⟨p.ro, p.dc, fun i r hr => ?_, by simp; omega, ⟨fun i blk hi => ?_, ?_, fun b o v hv => ?_, fun i hi => ?_, fun b hb => ?_⟩, p.os, p.tape, p.output, p.size, p.keep, fun b hb hl => p.live b hb (hlive b hl)⟩
  · rw [Mem.cut_lt _ (Nat.lt_of_lt_of_le (hd i r hr) hm)]; exact p.le i r hr
  · obtain ⟨hlt, hi'⟩ := hget i _ hi
    obtain ⟨r, hr, hat⟩ := p.sim.blks i blk hi'
    exact ⟨r, by rw [Mem.cut_lt _ hlt]; exact hr, hat.bel (all_get hb hi)⟩
  · intro i j bi bj ri rj b hi hj hri hrj
    exact p.sim.inj i j bi bj ri rj b (hget i _ hi).2 (hget j _ hj).2 (Mem.cut_some hri).2 (Mem.cut_some hrj).2
  · exact ⟨(p.sim.ro b o v hv).1, fun hl => (p.sim.ro b o v hv).2 (hlive b hl)⟩
  · have : m ≤ i := by simp at hi; omega
    simp [Mem.cut]; omega
  · exact ⟨(p.sim.df b hb).1, fun hl => (p.sim.df b hb).2 (hlive b hl)⟩
theorem ACalls.cutAt {f : FuncId} {vs : List V} {h : Heap} {R : V → Heap → Prop} (hc : ACalls P f vs h fun v h1 => ∃ m, h.length ≤ m ∧ m ≤ h1.length ∧ bel2 m v = true ∧ (h1.take m).all (blkBel m) = true ∧ R v (h1.take m)) : ACalls P f vs h R := by
  refine ⟨hc.1, fun M w args hm hs ha => (hc.2 M w args hm hs ha).mono ?_⟩
  rintro e w' ⟨cv, v, h', M', rfl, hp, hv, m, h1, h2, h3, h4, hR⟩
  exact ⟨cv, v, _, _, rfl, hp.cutAt hs h1 h2 h4, hv.bel2 h3, hR⟩
noncomputable def bodyK (cr : List CRes) : CT := fun e env _ h => match e with
  | .ret => resT (fun _ => 0) env h cr fun vs => .done (oneT vs) []
  | e => .leaf e env h
theorem stkQ_ret (s : List Fr) (env : Env) (h : Heap) : stkQ P G n s Q .ret env h = Q .ret env h := by
  induction s with
  | nil => rfl
  | cons f s ih => cases f <;> exact ih
theorem retS_ret {s : List Fr} {env : Env} {h : Heap} (hh : Q .ret env h) : retS P G n .ret s Q env h := by
  show stkQ P G n s Q .ret env h
  rw [stkQ_ret]; exact hh
theorem bodyK_ok {cr : List CRes} {R : V → Prop} {Q' : CExit → Env → Heap → Prop} (hr : ∀ env h, resV env h cr (fun vs => R (oneV vs)) → Q' .ret env h) : ContOk P G n Q' (fun v _ => R v) [] (bodyK cr) := by
  intro e env tg h ht hh
  cases e with
  | exit i => exact hh
  | normal => exact hh
  | ret => exact hr _ _ (resT_sound (fun _ => rfl) cr (fun vs hv => by rw [← oneT_eq]; exact hv) hh)
theorem lp_countK {X : Sx} (hX : SpOk P X.sp) {c : CCode} {s : List Fr} {env : Env} {h : Heap} {cr : List CRes} {R : V → Prop} (hQ : Q = retQ cr fun v _ => R v) (N : Nat) (A : Nat → Prop) (E : Nat → Env) (H : Nat → Heap) (he : env = E 0) (hh : h = H 0) (hA : A 0)
    (hb : ∀ k, k ≤ N → (H k).length = h.length ∧ (E k).all (fun p => bel2 h.length p.2) = true ∧ (H k).all (blkBel h.length) = true)
    (hstep : ∀ k, k ≤ N → A k → ∀ Q', (∀ J, k < N → A (k + 1) → Q' .normal (E (k + 1)) (H (k + 1) ++ J)) → (∀ id env' h', retS P G n (.exit id) s Q env' h' → Q' (.exit id) env' h') →
      holds P G h.length Q' (fun v _ => R v) (sx X c [] (bodyK cr) (E k) [] (H k))) : lpS P G n c s Q env h := by
  refine loop_cut (I := fun m env h => ∃ k, k ≤ N ∧ m = N - k ∧ A k ∧ env = E k ∧ h = H k) (m0 := N) ⟨0, Nat.zero_le _, rfl, hA, he, hh⟩ ?_
  rintro m env1 h1 ⟨k, hk, rfl, hAk, rfl, rfl⟩
  refine sx_sound hX c [] (bodyK cr) (E k) [] (H k) (bodyK_ok (R := R) fun env h hres => ?_) (.nil _) (hstep k hk hAk _ (fun J hlt hA1 => ?_) (fun id env' h' hr => hr))
  · show stkQ P G n s Q .ret env h
    rw [stkQ_ret, hQ]
    exact hres
  · obtain ⟨b1, b2, b3⟩ := hb (k + 1) hlt
    have hj : (H (k + 1) ++ J).take h.length = H (k + 1) := by rw [← b1, List.take_left]
    exact ⟨N - (k + 1), by omega, b2, by rw [hj]; exact b3, k + 1, hlt, rfl, hA1, rfl, hj⟩
end
end Go.Proofs.Ytdnefcjbcieecaa
namespace Go.Proofs.Ytdnefcjbcieecaa
open Go
structure Rng where
  lo : Int
  hi : Int
structure Trd where
  seller : Int
  buyer : Int
  shares : Int
  sold : Rng
  deliv : Rng
structure Dvd where
  ex : Int
  record : Int
  pence : Int
structure Spl where
  day : Int
  num : Int
  den : Int
structure Cmp where
  houses : Int
  held : List Int
  trades : List Trd
  divs : List Dvd
  splits : List Spl
  closed : List Rng
structure Tru where
  sold : List Int
  deliv : List Int
instance : Inhabited Rng := ⟨⟨0, 0⟩⟩
instance : Inhabited Trd := ⟨⟨0, 0, 0, ⟨0, 0⟩, ⟨0, 0⟩⟩⟩
instance : Inhabited Dvd := ⟨⟨0, 0, 0⟩⟩
instance : Inhabited Spl := ⟨⟨0, 0, 0⟩⟩
def vi (n : Int) : V := .d (.int .i64 n)
def vb (b : Bool) : V := .d (.bool b)
def eI (n : Int) : List D := [.int .i64 n]
def eR (r : Rng) : List D := [.int .i64 r.lo, .int .i64 r.hi]
def eT (t : Trd) : List D := [.int .i64 t.seller, .int .i64 t.buyer, .int .i64 t.shares, .int .i64 t.sold.lo, .int .i64 t.sold.hi, .int .i64 t.deliv.lo, .int .i64 t.deliv.hi]
def eV (d : Dvd) : List D := [.int .i64 d.ex, .int .i64 d.record, .int .i64 d.pence]
def eS (s : Spl) : List D := [.int .i64 s.day, .int .i64 s.num, .int .i64 s.den]
def enc {α : Type} (f : α → List D) (l : List α) : List D := l.flatMap f
def dsl {α : Type} (f : α → List D) (l : List α) : D := .sl false l.length (enc f l)
def vsl {α : Type} (f : α → List D) (l : List α) : V := .d (dsl f l)
def Cv (c : Cmp) : V := .agg [.d (.int .i64 c.houses), .d (.sl false c.held.length (enc eI c.held)), .d (.sl false c.trades.length (enc eT c.trades)), .d (.sl false c.divs.length (enc eV c.divs)), .d (.sl false c.splits.length (enc eS c.splits)), .d (.sl false c.closed.length (enc eR c.closed))]
def Rv (r : Rng) : V := .agg [.d (.int .i64 r.lo), .d (.int .i64 r.hi)]
def Tv (t : Trd) : V := .agg [.d (.int .i64 t.seller), .d (.int .i64 t.buyer), .d (.int .i64 t.shares), .d (.int .i64 t.sold.lo), .d (.int .i64 t.sold.hi), .d (.int .i64 t.deliv.lo), .d (.int .i64 t.deliv.hi)]
def Dv (d : Dvd) : V := .agg [.d (.int .i64 d.ex), .d (.int .i64 d.record), .d (.int .i64 d.pence)]
def Sv (s : Spl) : V := .agg [.d (.int .i64 s.day), .d (.int .i64 s.num), .d (.int .i64 s.den)]
def Uv (t : Tru) : V := .agg [.d (.sl false t.sold.length (enc eI t.sold)), .d (.sl false t.deliv.length (enc eI t.deliv))]
def D.toI : D → Int
  | .int _ n => n
  | _ => 0
def dec {α : Type} (sz : Nat) (g : List D → α) : Nat → List D → List α
  | 0, _ => []
  | n + 1, ds => g (ds.take sz) :: dec sz g n (ds.drop sz)
def atI (ds : List D) (k : Nat) : Int := ((ds[k]?).getD .nils).toI
def gI (ds : List D) : Int := atI ds 0
def gR (ds : List D) : Rng := ⟨atI ds 0, atI ds 1⟩
def gT (ds : List D) : Trd := ⟨atI ds 0, atI ds 1, atI ds 2, ⟨atI ds 3, atI ds 4⟩, ⟨atI ds 5, atI ds 6⟩⟩
def gV (ds : List D) : Dvd := ⟨atI ds 0, atI ds 1, atI ds 2⟩
def gS (ds : List D) : Spl := ⟨atI ds 0, atI ds 1, atI ds 2⟩
theorem dec_enc {α : Type} {sz : Nat} {f : α → List D} {g : List D → α} (hf : ∀ x, (f x).length = sz) (hg : ∀ x, g (f x) = x) : ∀ l : List α, dec sz g l.length (enc f l) = l
  | [] => rfl
  | x :: l => by
    have h1 : (enc f (x :: l)).take sz = f x := by
      show (f x ++ enc f l).take sz = f x
      rw [← hf x, List.take_left]
    have h2 : (enc f (x :: l)).drop sz = enc f l := by
      show (f x ++ enc f l).drop sz = enc f l
      rw [← hf x, List.drop_left]
    show g ((enc f (x :: l)).take sz) :: dec sz g l.length ((enc f (x :: l)).drop sz) = x :: l
    rw [h1, h2, hg, dec_enc hf hg l]
@[simp] theorem dec_I (l : List Int) : dec 1 gI l.length (enc eI l) = l := dec_enc (sz := 1) (f := eI) (g := gI) (fun _ => rfl) (fun _ => rfl) l
@[simp] theorem dec_R (l : List Rng) : dec 2 gR l.length (enc eR l) = l := dec_enc (sz := 2) (f := eR) (g := gR) (fun _ => rfl) (fun _ => rfl) l
@[simp] theorem dec_T (l : List Trd) : dec 7 gT l.length (enc eT l) = l := dec_enc (sz := 7) (f := eT) (g := gT) (fun _ => rfl) (fun _ => rfl) l
@[simp] theorem dec_V (l : List Dvd) : dec 3 gV l.length (enc eV l) = l := dec_enc (sz := 3) (f := eV) (g := gV) (fun _ => rfl) (fun _ => rfl) l
@[simp] theorem dec_S (l : List Spl) : dec 3 gS l.length (enc eS l) = l := dec_enc (sz := 3) (f := eS) (g := gS) (fun _ => rfl) (fun _ => rfl) l
def dC (hs : Int) (n1 : Nat) (d1 : List D) (n2 : Nat) (d2 : List D) (n3 : Nat) (d3 : List D) (n4 : Nat) (d4 : List D) (n5 : Nat) (d5 : List D) : Cmp :=
  ⟨hs, dec 1 gI n1 d1, dec 7 gT n2 d2, dec 3 gV n3 d3, dec 3 gS n4 d4, dec 2 gR n5 d5⟩
def dU (n1 : Nat) (d1 : List D) (n2 : Nat) (d2 : List D) : Tru := ⟨dec 1 gI n1 d1, dec 1 gI n2 d2⟩
@[simp] theorem dC_enc (c : Cmp) : dC c.houses c.held.length (enc eI c.held) c.trades.length (enc eT c.trades) c.divs.length (enc eV c.divs) c.splits.length (enc eS c.splits) c.closed.length (enc eR c.closed) = c := by
  simp [dC]
@[simp] theorem dU_enc (t : Tru) : dU t.sold.length (enc eI t.sold) t.deliv.length (enc eI t.deliv) = t := by
  simp [dU]
theorem enc_append {α : Type} (f : α → List D) (a b : List α) : enc f (a ++ b) = enc f a ++ enc f b := by simp [enc]
@[simp] theorem enc_nil {α : Type} (f : α → List D) : enc f [] = [] := rfl
theorem enc_one {α : Type} (f : α → List D) (a : α) : enc f [a] = f a := by simp [enc]
theorem enc_len {α : Type} {sz : Nat} {f : α → List D} (hf : ∀ x, (f x).length = sz) : ∀ l : List α, (enc f l).length = l.length * sz
  | [] => by simp
  | x :: l => by
    show (f x ++ enc f l).length = _
    rw [List.length_append, enc_len hf l, hf, List.length_cons, Nat.add_mul]
    omega
@[simp] theorem len_I (l : List Int) : (enc eI l).length = l.length * 1 := enc_len (sz := 1) (f := eI) (fun _ => rfl) l
@[simp] theorem len_R (l : List Rng) : (enc eR l).length = l.length * 2 := enc_len (sz := 2) (f := eR) (fun _ => rfl) l
@[simp] theorem len_T (l : List Trd) : (enc eT l).length = l.length * 7 := enc_len (sz := 7) (f := eT) (fun _ => rfl) l
@[simp] theorem len_V (l : List Dvd) : (enc eV l).length = l.length * 3 := enc_len (sz := 3) (f := eV) (fun _ => rfl) l
@[simp] theorem len_S (l : List Spl) : (enc eS l).length = l.length * 3 := enc_len (sz := 3) (f := eS) (fun _ => rfl) l
def lat {α : Type} [Inhabited α] (l : List α) (i : Int) : α := l.getD i.toNat default
theorem enc_get {α : Type} {sz : Nat} {f : α → List D} (hf : ∀ x, (f x).length = sz) : ∀ (l : List α) (k j : Nat), j < sz → (enc f l)[k * sz + j]? = (l[k]?).bind fun x => (f x)[j]?
  | [], k, j, _ => by simp
  | x :: l, 0, j, hj => by
    show (f x ++ enc f l)[0 * sz + j]? = _
    rw [List.getElem?_append_left (by rw [hf]; omega)]
    simp
  | x :: l, k + 1, j, hj => by
    show (f x ++ enc f l)[(k + 1) * sz + j]? = _
    rw [List.getElem?_append_right (by rw [hf, Nat.add_mul]; omega), hf]
    have : (k + 1) * sz + j - sz = k * sz + j := by rw [Nat.add_mul]; omega
    rw [this, enc_get hf l k j hj]
    rfl
theorem elemAt_enc {α : Type} {sz : Nat} {f : α → List D} (hf : ∀ x, (f x).length = sz) : ∀ (l : List α) (k : Nat), k < l.length → elemAt (enc f l) sz k = (l[k]?).map f
  | [], k, h => by simp at h
  | x :: l, 0, _ => by
    have hl : ((enc f (x :: l)).drop (0 * sz)).take sz = f x := by
      show ((f x ++ enc f l).drop (0 * sz)).take sz = f x
      rw [Nat.zero_mul, List.drop_zero, ← hf x, List.take_left]
    unfold elemAt
    rw [if_pos (by rw [enc_len hf]; simp [Nat.add_mul]), hl]
    rfl
  | x :: l, k + 1, h => by
    have ih := elemAt_enc hf l k (by simpa using h)
    have hl : ((enc f (x :: l)).drop ((k + 1) * sz)).take sz = ((enc f l).drop (k * sz)).take sz := by
      show ((f x ++ enc f l).drop ((k + 1) * sz)).take sz = _
      have : (k + 1) * sz = (f x).length + k * sz := by rw [hf, Nat.add_mul]; omega
      rw [this, ← List.drop_drop, List.drop_left]
    unfold elemAt at ih ⊢
    rw [enc_len hf] at ih ⊢
    rw [if_pos (by rw [← Nat.succ_mul]; exact Nat.mul_le_mul_right _ h)]
    rw [if_pos (by rw [← Nat.succ_mul]; exact Nat.mul_le_mul_right _ (by simp at h; omega))] at ih
    rw [hl]
    exact ih
theorem lat_get {α : Type} [Inhabited α] {l : List α} {i : Int} (h : i.toNat < l.length) : l[i.toNat]? = some (lat l i) := by
  simp [lat, h]
theorem cI_enc {α : Type} [Inhabited α] {sz : Nat} {f : α → List D} (hf : ∀ x, (f x).length = sz) (l : List α) (i : Int) (j : Nat) (hj : j < sz) (g : α → Int) (hg : ∀ x, (f x)[j]? = some (.int .i64 (g x))) (hd : g default = 0) : cI (enc f l) sz i j = g (lat l i) := by
  unfold cI
  rw [enc_get hf l _ j hj]
  cases h : l[i.toNat]? with
  | none =>
    have : lat l i = default := by simp [lat, List.getD_eq_getElem?_getD, h]
    rw [this, hd]
    rfl
  | some x =>
    have : lat l i = x := by simp [lat, List.getD_eq_getElem?_getD, h]
    rw [this]
    simp only [Option.bind_some, hg]
@[simp] theorem cI_I (l : List Int) (i : Int) : cI (enc eI l) 1 i 0 = lat l i := cI_enc (sz := 1) (f := eI) (fun _ => rfl) l i 0 (by decide) (fun x => x) (fun _ => rfl) rfl
@[simp] theorem cI_R0 (l : List Rng) (i : Int) : cI (enc eR l) 2 i 0 = (lat l i).lo := cI_enc (sz := 2) (f := eR) (fun _ => rfl) l i 0 (by decide) (fun x => x.lo) (fun _ => rfl) rfl
@[simp] theorem cI_R1 (l : List Rng) (i : Int) : cI (enc eR l) 2 i 1 = (lat l i).hi := cI_enc (sz := 2) (f := eR) (fun _ => rfl) l i 1 (by decide) (fun x => x.hi) (fun _ => rfl) rfl
@[simp] theorem cI_T0 (l : List Trd) (i : Int) : cI (enc eT l) 7 i 0 = (lat l i).seller := cI_enc (sz := 7) (f := eT) (fun _ => rfl) l i 0 (by decide) (fun x => x.seller) (fun _ => rfl) rfl
@[simp] theorem cI_T1 (l : List Trd) (i : Int) : cI (enc eT l) 7 i 1 = (lat l i).buyer := cI_enc (sz := 7) (f := eT) (fun _ => rfl) l i 1 (by decide) (fun x => x.buyer) (fun _ => rfl) rfl
@[simp] theorem cI_T2 (l : List Trd) (i : Int) : cI (enc eT l) 7 i 2 = (lat l i).shares := cI_enc (sz := 7) (f := eT) (fun _ => rfl) l i 2 (by decide) (fun x => x.shares) (fun _ => rfl) rfl
@[simp] theorem cI_T3 (l : List Trd) (i : Int) : cI (enc eT l) 7 i 3 = (lat l i).sold.lo := cI_enc (sz := 7) (f := eT) (fun _ => rfl) l i 3 (by decide) (fun x => x.sold.lo) (fun _ => rfl) rfl
@[simp] theorem cI_T4 (l : List Trd) (i : Int) : cI (enc eT l) 7 i 4 = (lat l i).sold.hi := cI_enc (sz := 7) (f := eT) (fun _ => rfl) l i 4 (by decide) (fun x => x.sold.hi) (fun _ => rfl) rfl
@[simp] theorem cI_T5 (l : List Trd) (i : Int) : cI (enc eT l) 7 i 5 = (lat l i).deliv.lo := cI_enc (sz := 7) (f := eT) (fun _ => rfl) l i 5 (by decide) (fun x => x.deliv.lo) (fun _ => rfl) rfl
@[simp] theorem cI_T6 (l : List Trd) (i : Int) : cI (enc eT l) 7 i 6 = (lat l i).deliv.hi := cI_enc (sz := 7) (f := eT) (fun _ => rfl) l i 6 (by decide) (fun x => x.deliv.hi) (fun _ => rfl) rfl
@[simp] theorem cI_V0 (l : List Dvd) (i : Int) : cI (enc eV l) 3 i 0 = (lat l i).ex := cI_enc (sz := 3) (f := eV) (fun _ => rfl) l i 0 (by decide) (fun x => x.ex) (fun _ => rfl) rfl
@[simp] theorem cI_V1 (l : List Dvd) (i : Int) : cI (enc eV l) 3 i 1 = (lat l i).record := cI_enc (sz := 3) (f := eV) (fun _ => rfl) l i 1 (by decide) (fun x => x.record) (fun _ => rfl) rfl
@[simp] theorem cI_V2 (l : List Dvd) (i : Int) : cI (enc eV l) 3 i 2 = (lat l i).pence := cI_enc (sz := 3) (f := eV) (fun _ => rfl) l i 2 (by decide) (fun x => x.pence) (fun _ => rfl) rfl
@[simp] theorem cI_S0 (l : List Spl) (i : Int) : cI (enc eS l) 3 i 0 = (lat l i).day := cI_enc (sz := 3) (f := eS) (fun _ => rfl) l i 0 (by decide) (fun x => x.day) (fun _ => rfl) rfl
@[simp] theorem cI_S1 (l : List Spl) (i : Int) : cI (enc eS l) 3 i 1 = (lat l i).num := cI_enc (sz := 3) (f := eS) (fun _ => rfl) l i 1 (by decide) (fun x => x.num) (fun _ => rfl) rfl
@[simp] theorem cI_S2 (l : List Spl) (i : Int) : cI (enc eS l) 3 i 2 = (lat l i).den := cI_enc (sz := 3) (f := eS) (fun _ => rfl) l i 2 (by decide) (fun x => x.den) (fun _ => rfl) rfl
theorem okEl_enc {α : Type} [Inhabited α] {sz : Nat} {f : α → List D} (hf : ∀ x, (f x).length = sz) {ks : List Nat} {l : List α} {i : Int} (he : elDs ks (enc f l) sz i 0 = f (lat l i)) (h : i.toNat < l.length) : okEl ks (enc f l) sz i := by
  unfold okEl
  rw [elemAt_enc hf l _ h, lat_get h, he]
  rfl
theorem ok_I {l : List Int} {i : Int} (h : i.toNat < l.length) : okEl [0] (enc eI l) 1 i := okEl_enc (sz := 1) (f := eI) (fun _ => rfl) (by simp [elDs, elD, eI]) h
theorem ok_R {l : List Rng} {i : Int} (h : i.toNat < l.length) : okEl [0, 0] (enc eR l) 2 i := okEl_enc (sz := 2) (f := eR) (fun _ => rfl) (by simp [elDs, elD, eR]) h
theorem ok_T {l : List Trd} {i : Int} (h : i.toNat < l.length) : okEl [0, 0, 0, 0, 0, 0, 0] (enc eT l) 7 i := okEl_enc (sz := 7) (f := eT) (fun _ => rfl) (by simp [elDs, elD, eT]) h
theorem ok_V {l : List Dvd} {i : Int} (h : i.toNat < l.length) : okEl [0, 0, 0] (enc eV l) 3 i := okEl_enc (sz := 3) (f := eV) (fun _ => rfl) (by simp [elDs, elD, eV]) h
theorem ok_S {l : List Spl} {i : Int} (h : i.toNat < l.length) : okEl [0, 0, 0] (enc eS l) 3 i := okEl_enc (sz := 3) (f := eS) (fun _ => rfl) (by simp [elDs, elD, eS]) h
@[simp] theorem dp_P (p : Prop) [d : Decidable p] : (dp p).P = p := rfl
theorem VLe.of_eq {x y : V} (h : x = y) : VLe x y := h ▸ .refl x
def inR (n lo hi : Int) : Bool := decide (lo ≤ n ∧ n ≤ hi)
def isDay (n : Int) : Bool := inR n 0 11
def Rng.days (r : Rng) : Bool := decide (0 ≤ r.lo ∧ r.lo ≤ r.hi ∧ r.hi ≤ 11)
def Rng.short (r : Rng) : Bool := decide (0 ≤ r.lo ∧ r.lo ≤ r.hi ∧ r.hi ≤ 11 ∧ r.hi - r.lo ≤ 2)
def Rng.has (r : Rng) (n : Int) : Bool := inR n r.lo r.hi
def okTr (hs : Int) (t : Trd) : Bool := decide (0 ≤ t.seller ∧ t.seller < hs ∧ 0 ≤ t.buyer ∧ t.buyer < hs ∧ t.seller ≠ t.buyer ∧ 1 ≤ t.shares ∧ t.shares ≤ 100) && t.sold.short && t.deliv.short
def okDv (d : Dvd) : Bool := decide (0 ≤ d.ex ∧ d.ex ≤ d.record ∧ d.record ≤ 11 ∧ 0 ≤ d.pence ∧ d.pence ≤ 50)
abbrev Ent := List V → Heap → Option (Prop × V × Option Heap)
def EntOk (P : Program) (f : FuncId) (e : Ent) : Prop := ∀ args h p v ho, e args h = some (p, v, ho) → p → ACalls P f args h fun v1 h1 => v1 = v ∧ h1 = heapO h ho
abbrev Spec := FuncId → List V → Heap → Option (Prop × V × Option Heap)
def spNil : Spec := fun _ _ _ => none
def spAdd (f : Nat) (e : Ent) (r : Spec) : Spec := fun g args h => bif Nat.beq g f then e args h else r g args h
theorem spNil_ok (P : Program) : SpOk P spNil := fun _ _ _ _ _ _ h => by cases h
theorem spAdd_ok {P : Program} {f : Nat} {e : Ent} {r : Spec} (he : EntOk P f e) (hr : SpOk P r) : SpOk P (spAdd f e r) := by
  intro g args h p v h' hs hp
  unfold spAdd at hs
  cases hb : Nat.beq g f with
  | true => rw [hb] at hs; rw [Nat.eq_of_beq_eq_true hb]; exact he args h p v h' hs hp
  | false => rw [hb] at hs; exact hr g args h p v h' hs hp
def shI : Nat → List Nat := fun n => List.replicate n 0
def mkX (s : Spec) : Sx := { sp := s, md := fun _ => 0, sh := shI }
def Yields (P : Program) (f : FuncId) (args : List V) (v : V) : Prop := ∀ h, ACalls P f args h fun v1 h1 => v1 = v ∧ h1 = h
theorem Yields.of {P : Program} {f : FuncId} {args : List V} {v : V} (ha : args.all (bel2 0) = true) (hv : bel2 0 v = true) (hc : ACalls P f args [] fun v1 _ => VLe v1 v) : Yields P f args v := by
  intro h
  have h2 : ACalls P f args [] fun v1 h1 => bel2 ([] : Heap).length v1 = true ∧ (h1.take ([] : Heap).length).all (blkBel ([] : Heap).length) = true ∧ v1 = v :=
    hc.result fun v1 h1 hl => ⟨v, hl, hv, by simp, rfl⟩
  exact (ACalls.more (R := fun v1 _ => v1 = v) ha rfl h2 h).mono fun v1 h1 ⟨k, hk, hR, e⟩ => ⟨hR, by rw [e]; cases k with | nil => rfl | cons => simp at hk⟩
def FunIs (P : Program) (f : FuncId) (G : Cfg) (c : CCode) (cr : List CRes) : Prop :=
  ∃ fn, P.funcs[f]? = some fn ∧ fn.body.bind (compC P G) = some c ∧ compRes P fn.results.toList = some cr ∧ (fn.name == "runtime.NumGoroutine") = false ∧ fn.ntmps = G.sz
theorem FunIs.calls {P : Program} {G : Cfg} {X : Sx} (hX : SpOk P X.sp) {f : FuncId} {c : CCode} {cr : List CRes} (hq : FunIs P f G c cr) {vs : List V} {h : Heap} {R : V → Heap → Prop} {T : Tr} (hl : Nat.ble vs.length G.sz = true)
    (ht : sx X c [] (doneK cr) (envOf vs) [] h = T) (hh : holds P G h.length (retQ cr R) R T) : ACalls P f vs h R := by
  obtain ⟨fn, h1, h2, h3, h4, h5⟩ := hq
  exact acalls_tree hX h1 h2 h3 h4 h5 (ble_le hl) ht hh
theorem FunIs.callsF {P : Program} {G : Cfg} {X : Sx} (hX : SpOk P X.sp) {f : FuncId} {c : CCode} {cr : List CRes} (hq : FunIs P f G c cr) {vs : List V} {h : Heap} {R : V → Heap → Prop} {T : Tr} (hl : Nat.ble vs.length G.sz = true)
    (ht : sx X c [] (doneF h.length cr) (envOf vs) [] h = T) (hh : holds P G h.length (retQ cr fun v h1 => R (finX h.length v h1).1 (finX h.length v h1).2) R T) : ACalls P f vs h R := by
  obtain ⟨fn, h1, h2, h3, h4, h5⟩ := hq
  exact acalls_treeF hX h1 h2 h3 h4 h5 (ble_le hl) ht hh
theorem FunIs.yields {P : Program} {G : Cfg} {X : Sx} (hX : SpOk P X.sp) {f : FuncId} {c : CCode} {cr : List CRes} (hq : FunIs P f G c cr) {args : List V} {v : V} {T : Tr} (hl : Nat.ble args.length G.sz = true)
    (ha : args.all (bel2 0) = true) (hv : bel2 0 v = true) (ht : sx X c [] (doneF 0 cr) (envOf args) [] [] = T)
    (hh : holds P G 0 (retQ cr fun v1 h1 => VLe (finX 0 v1 h1).1 v) (fun v1 _ => VLe v1 v) T) : Yields P f args v :=
  .of ha hv (hq.callsF hX (h := []) hl ht hh)
theorem FunIs.yieldsK {P : Program} {G : Cfg} {X : Sx} (hX : SpOk P X.sp) {f : FuncId} {c : CCode} {cr : List CRes} (hq : FunIs P f G c cr) {args : List V} {v : V} {T : Tr} (hl : Nat.ble args.length G.sz = true)
    (ha : args.all (bel2 0) = true) (hv : bel2 0 v = true) (ht : sx X c [] (doneK cr) (envOf args) [] [] = T)
    (hh : holds P G 0 (retQ cr fun v1 _ => VLe v1 v) (fun v1 _ => VLe v1 v) T) : Yields P f args v :=
  .of ha hv (hq.calls hX (h := []) hl ht hh)
theorem dec_len {α : Type} (sz : Nat) (g : List D → α) : ∀ (n : Nat) (ds : List D), (dec sz g n ds).length = n
  | 0, _ => rfl
  | n + 1, ds => by simp [dec, dec_len sz g n]
def okL {α : Type} (f : α → List D) (sz : Nat) (g : List D → α) (n : Nat) (ds : List D) : Prop := enc f (dec sz g n ds) = ds ∧ n ≤ 140737488355328
theorem okL_vsl {α : Type} {f : α → List D} {sz : Nat} {g : List D → α} {n : Nat} {ds : List D} (h : okL f sz g n ds) : V.d (.sl false n ds) = vsl f (dec sz g n ds) := by
  unfold vsl dsl
  rw [h.1, dec_len]
@[simp] theorem okL_I (l : List Int) : okL eI 1 gI l.length (enc eI l) ↔ l.length ≤ 140737488355328 := by simp [okL]
@[simp] theorem okL_R (l : List Rng) : okL eR 2 gR l.length (enc eR l) ↔ l.length ≤ 140737488355328 := by simp [okL]
@[simp] theorem okL_T (l : List Trd) : okL eT 7 gT l.length (enc eT l) ↔ l.length ≤ 140737488355328 := by simp [okL]
@[simp] theorem okL_V (l : List Dvd) : okL eV 3 gV l.length (enc eV l) ↔ l.length ≤ 140737488355328 := by simp [okL]
@[simp] theorem okL_S (l : List Spl) : okL eS 3 gS l.length (enc eS l) ↔ l.length ≤ 140737488355328 := by simp [okL]
abbrev dCe (c : Cmp) : Cmp := dC c.houses c.held.length (enc eI c.held) c.trades.length (enc eT c.trades) c.divs.length (enc eV c.divs) c.splits.length (enc eS c.splits) c.closed.length (enc eR c.closed)
abbrev dUe (t : Tru) : Tru := dU t.sold.length (enc eI t.sold) t.deliv.length (enc eI t.deliv)
def Cds (c : Cmp) : List D := [.int .i64 c.houses, dsl eI c.held, dsl eT c.trades, dsl eV c.divs, dsl eS c.splits, dsl eR c.closed]
def Uds (t : Tru) : List D := [dsl eI t.sold, dsl eI t.deliv]
theorem FunIs.yieldsX {P : Program} {G : Cfg} {X : Sx} (hX : SpOk P X.sp) {f : FuncId} {c : CCode} {cr : List CRes} (hq : FunIs P f G c cr) {args : List V} {v : V} {T : Tr} (hl : Nat.ble args.length G.sz = true)
    (ha : args.all (bel2 0) = true) (hv : bel2 0 v = true) (ht : sx X c [] (doneK cr) (envOf args) [] [] = T)
    (hh : holds P G 0 (retQ cr fun v1 h1 => VLe (finX 0 v1 h1).1 v) (fun v1 h1 => VLe (finX 0 v1 h1).1 v) T) : Yields P f args v :=
  .of ha hv (ACalls.fin (hq.calls hX (h := []) (R := fun v1 h1 => VLe (finX 0 v1 h1).1 v) hl ht hh))
theorem FunIs.yieldsP {P : Program} {G : Cfg} {X : Sx} (hX : SpOk P X.sp) {f : FuncId} {c : CCode} {cr : List CRes} (hq : FunIs P f G c cr) {args : List V} {v : V} {T : Tr} (hl : Nat.ble args.length G.sz = true)
    (ha : args.all (bel2 0) = true) (hv : bel2 0 v = true) (ht : sx X c [] (doneP cr) (envOf args) [] [] = T)
    (hh : holds P G 0 (retQ cr fun v1 _ => VLe v1 v) (fun v1 _ => VLe v1 v) T) : Yields P f args v := by
  obtain ⟨fn, h1, h2, h3, h4, h5⟩ := hq
  exact .of ha hv (acalls_treeP hX (h := []) h1 h2 h3 h4 h5 (ble_le hl) ht hh)
end Go.Proofs.Ytdnefcjbcieecaa
namespace Go.Proofs.Ytdnefcjbcieecaa
open Go Go.Proofs
def rs (d : Nat) (o : COp) : ROp := ⟨some d, none, .simple o⟩
def rn (o : COp) : ROp := ⟨none, none, .simple o⟩
def rg (d g : Nat) (b : Bool) (o : COp) : ROp := ⟨some d, some (g, b), .simple o⟩
def ci (n : Int) : Operand := .const (.int .i64 n)
end Go.Proofs.Ytdnefcjbcieecaa
namespace Go.Proofs.Ytdnefcjbcieecaa
open Go Go.Proofs
def G17 : Cfg := ⟨[], [(0, [2, 3]), (1, [4])], 45, []⟩
def r17 : List CRes := [.tmp 4]
def c17 : CCode :=
(.seq (.region [
 rs 2 (.box false (.tmp 0)),
 rs 3 (.box false (.tmp 1)),
 rs 4 (.move (.const (.bool false)))] (some [2, 3]))
(.seq (.region [
 rs 5 (.fieldAddr 1 (.tmp 2)),
 rs 6 (.load none (.tmp 5)),
 rs 7 (.len (.tmp 6)),
 rs 8 (.bin .leq (.tmp 7) (ci 7)),
 rs 9 (.move (.tmp 8)),
 rg 10 9 true (.fieldAddr 2 (.tmp 2)),
 rg 11 9 true (.load none (.tmp 10)),
 rg 12 9 true (.len (.tmp 11)),
 rg 13 9 true (.bin .leq (.tmp 12) (ci 7)),
 rs 14 (.pick (.tmp 9) (.tmp 13) (.const (.bool false))),
 rs 15 (.move (.tmp 14)),
 rg 16 15 true (.fieldAddr 3 (.tmp 2)),
 rg 17 15 true (.load none (.tmp 16)),
 rg 18 15 true (.len (.tmp 17)),
 rg 19 15 true (.bin .leq (.tmp 18) (ci 7)),
 rs 20 (.pick (.tmp 15) (.tmp 19) (.const (.bool false))),
 rs 21 (.move (.tmp 20)),
 rg 22 21 true (.fieldAddr 4 (.tmp 2)),
 rg 23 21 true (.load none (.tmp 22)),
 rg 24 21 true (.len (.tmp 23)),
 rg 25 21 true (.bin .leq (.tmp 24) (ci 7)),
 rs 26 (.pick (.tmp 21) (.tmp 25) (.const (.bool false))),
 rs 27 (.move (.tmp 26)),
 rg 28 27 true (.fieldAddr 5 (.tmp 2)),
 rg 29 27 true (.load none (.tmp 28)),
 rg 30 27 true (.len (.tmp 29)),
 rg 31 27 true (.bin .leq (.tmp 30) (ci 7)),
 rs 32 (.pick (.tmp 27) (.tmp 31) (.const (.bool false))),
 rs 33 (.move (.tmp 32)),
 rg 34 33 true (.fieldAddr 0 (.tmp 3)),
 rg 35 33 true (.load none (.tmp 34)),
 rg 36 33 true (.len (.tmp 35)),
 rg 37 33 true (.bin .leq (.tmp 36) (ci 7)),
 rs 38 (.pick (.tmp 33) (.tmp 37) (.const (.bool false))),
 rs 39 (.move (.tmp 38)),
 rg 40 39 true (.fieldAddr 1 (.tmp 3)),
 rg 41 39 true (.load none (.tmp 40)),
 rg 42 39 true (.len (.tmp 41)),
 rg 43 39 true (.bin .leq (.tmp 42) (ci 7)),
 rs 44 (.pick (.tmp 39) (.tmp 43) (.const (.bool false))),
 rs 4 (.move (.tmp 44))] (some [4]))
.ret))
theorem k17 : Try.f17.body.bind (compC Try.prog G17) = some c17 := by kernel_rfl
theorem e17 : compRes Try.prog Try.f17.results.toList = some r17 := by kernel_rfl
def G20 : Cfg := ⟨[111, 93, 69, 45, 3, 5, 7, 9, 2], [(0, [1, 2]), (1, [1, 2, 3]), (2, [1, 2, 3, 4]), (3, [1, 2, 3, 4, 21]), (5, [1, 2, 3, 4, 5]), (6, [1, 2, 3, 4]), (4, [1, 2, 3, 4]), (7, [1, 2, 3, 6]), (8, [1, 2, 3, 6, 51]), (10, [1, 2, 3, 6, 7]), (11, [1, 2, 3, 6]), (9, [1, 2, 3, 6]), (12, [1, 2, 3, 8]), (13, [1, 2, 3, 8, 75]), (15, [1, 2, 3, 8, 9]), (16, [1, 2, 3, 8]), (14, [1, 2, 3, 8]), (17, [1, 2, 3, 10]), (18, [1, 2, 3, 10, 99]), (20, [1, 2, 3, 10]), (19, [1, 2, 3, 10]), (21, [2])], 114, []⟩
def r20 : List CRes := [.cell 2 (some 6)]
def c20 : CCode :=
(.seq (.region [
 rs 1 (.box false (.tmp 0)),
 rs 2 (.alloc [(.d (.int .i64 0)), (.d .nils), (.d .nils), (.d .nils), (.d .nils), (.d .nils)])] (some [1, 2]))
(.seq (.seq (.region [
 rs 11 (.fieldAddr 0 (.tmp 1)),
 rs 12 (.load none (.tmp 11)),
 rs 13 (.fieldAddr 1 (.tmp 1)),
 rs 14 (.load none (.tmp 13))] none)
(.both (.region [
 ⟨(some 15), none, .callx (.func 56) [(.tmp 14)]⟩,
 rs 16 (.build [(.d (.int .i64 0)), (.d .nils), (.d .nils), (.d .nils), (.d .nils), (.d .nils)] [(0, 1, (.tmp 12)), (1, 1, (.tmp 15))]),
 rs 3 (.alloc [(.d (.int .i64 0)), (.d .nils), (.d .nils), (.d .nils), (.d .nils), (.d .nils)]),
 rn (.store 6 (.tmp 3) (.tmp 16))] (some [1, 2, 3]))
 (.region [
 rs 3 (.alloc [(.d (.int .i64 0)), (.d .nils), (.d .nils), (.d .nils), (.d .nils), (.d .nils)]),
 ⟨(some 15), none, .callx (.func 56) [(.tmp 14)]⟩,
 rs 16 (.build [(.d (.int .i64 0)), (.d .nils), (.d .nils), (.d .nils), (.d .nils), (.d .nils)] [(0, 1, (.tmp 12)), (1, 1, (.tmp 15))]),
 rn (.store 6 (.tmp 3) (.tmp 16))] (some [1, 2, 3]))))
(.seq (.seq (.region [
 rs 4 (.move (ci 0))] (some [1, 2, 3, 4]))
(.block 0 (.loop (.seq (.seq (.region [
 rs 17 (.move (.tmp 4)),
 rs 18 (.fieldAddr 2 (.tmp 1)),
 rs 19 (.load none (.tmp 18)),
 rs 20 (.len (.tmp 19)),
 rs 21 (.bin .lss (.tmp 17) (.tmp 20))] (some [1, 2, 3, 4, 21]))
 (.cond (.tmp 21)
 .skip
 (.exit 0)))
 (.seq (.block 1 (.seq (.region [
 rs 24 (.fieldAddr 2 (.tmp 1)),
 rs 25 (.load none (.tmp 24)),
 rs 26 (.move (.tmp 4)),
 rs 27 (.indexS 7 (.tmp 25) (.tmp 26)),
 rs 28 (.load (some 7) (.tmp 27)),
 rs 5 (.alloc [(.d (.int .i64 0)), (.d (.int .i64 0)), (.d (.int .i64 0)), (.d (.int .i64 0)), (.d (.int .i64 0)), (.d (.int .i64 0)), (.d (.int .i64 0))]),
 rn (.store 7 (.tmp 5) (.tmp 28))] (some [1, 2, 3, 4, 5]))
 (.region [
 rs 29 (.fieldAddr 2 (.tmp 3)),
 rs 30 (.load none (.tmp 29)),
 rs 31 (.fieldAddr 0 (.tmp 5)),
 rs 32 (.load none (.tmp 31)),
 rs 33 (.fieldAddr 1 (.tmp 5)),
 rs 34 (.load none (.tmp 33)),
 rs 35 (.fieldAddr 2 (.tmp 5)),
 rs 36 (.load none (.tmp 35)),
 rs 37 (.fieldAddr 3 (.tmp 5)),
 rs 38 (.load (some 2) (.tmp 37)),
 rs 40 (.fieldAddr 5 (.tmp 5)),
 rs 41 (.load (some 2) (.tmp 40)),
 ⟨(some 39), none, .callx (.func 61) [(.tmp 38)]⟩,
 ⟨(some 42), none, .callx (.func 61) [(.tmp 41)]⟩,
 rs 43 (.build [(.d (.int .i64 0)), (.d (.int .i64 0)), (.d (.int .i64 0)), (.d (.int .i64 0)), (.d (.int .i64 0)), (.d (.int .i64 0)), (.d (.int .i64 0))] [(0, 1, (.tmp 32)), (1, 1, (.tmp 34)), (2, 1, (.tmp 36)), (3, 2, (.tmp 39)), (5, 2, (.tmp 42))]),
 rs 44 (.bslice false 93 7 1 [(.int .i64 0), (.int .i64 0), (.int .i64 0), (.int .i64 0), (.int .i64 0), (.int .i64 0), (.int .i64 0)] [(0, (.tmp 43))]),
 ⟨(some 45), none, .app 93 7 56 (.tmp 30) (.tmp 44)⟩,
 rs 46 (.fieldAddr 2 (.tmp 3)),
 rn (.store 1 (.tmp 46) (.tmp 45))] (some [1, 2, 3, 4]))))
 (.region [
 rs 22 (.move (.tmp 4)),
 rs 23 (.bin .add (.tmp 22) (ci 1)),
 rs 4 (.move (.tmp 23))] (some [1, 2, 3, 4])))))))
(.seq (.seq (.region [
 rs 6 (.move (ci 0))] (some [1, 2, 3, 6]))
(.block 2 (.loop (.seq (.seq (.region [
 rs 47 (.move (.tmp 6)),
 rs 48 (.fieldAddr 3 (.tmp 1)),
 rs 49 (.load none (.tmp 48)),
 rs 50 (.len (.tmp 49)),
 rs 51 (.bin .lss (.tmp 47) (.tmp 50))] (some [1, 2, 3, 6, 51]))
 (.cond (.tmp 51)
 .skip
 (.exit 2)))
 (.seq (.block 3 (.seq (.region [
 rs 54 (.fieldAddr 3 (.tmp 1)),
 rs 55 (.load none (.tmp 54)),
 rs 56 (.move (.tmp 6)),
 rs 57 (.indexS 3 (.tmp 55) (.tmp 56)),
 rs 58 (.load (some 3) (.tmp 57)),
 rs 7 (.alloc [(.d (.int .i64 0)), (.d (.int .i64 0)), (.d (.int .i64 0))]),
 rn (.store 3 (.tmp 7) (.tmp 58))] (some [1, 2, 3, 6, 7]))
 (.region [
 rs 59 (.fieldAddr 3 (.tmp 3)),
 rs 60 (.load none (.tmp 59)),
 rs 61 (.fieldAddr 0 (.tmp 7)),
 rs 62 (.load none (.tmp 61)),
 rs 63 (.fieldAddr 1 (.tmp 7)),
 rs 64 (.load none (.tmp 63)),
 rs 65 (.fieldAddr 2 (.tmp 7)),
 rs 66 (.load none (.tmp 65)),
 rs 67 (.build [(.d (.int .i64 0)), (.d (.int .i64 0)), (.d (.int .i64 0))] [(0, 1, (.tmp 62)), (1, 1, (.tmp 64)), (2, 1, (.tmp 66))]),
 rs 68 (.bslice false 95 3 1 [(.int .i64 0), (.int .i64 0), (.int .i64 0)] [(0, (.tmp 67))]),
 ⟨(some 69), none, .app 95 3 24 (.tmp 60) (.tmp 68)⟩,
 rs 70 (.fieldAddr 3 (.tmp 3)),
 rn (.store 1 (.tmp 70) (.tmp 69))] (some [1, 2, 3, 6]))))
 (.region [
 rs 52 (.move (.tmp 6)),
 rs 53 (.bin .add (.tmp 52) (ci 1)),
 rs 6 (.move (.tmp 53))] (some [1, 2, 3, 6])))))))
(.seq (.seq (.region [
 rs 8 (.move (ci 0))] (some [1, 2, 3, 8]))
(.block 4 (.loop (.seq (.seq (.region [
 rs 71 (.move (.tmp 8)),
 rs 72 (.fieldAddr 4 (.tmp 1)),
 rs 73 (.load none (.tmp 72)),
 rs 74 (.len (.tmp 73)),
 rs 75 (.bin .lss (.tmp 71) (.tmp 74))] (some [1, 2, 3, 8, 75]))
 (.cond (.tmp 75)
 .skip
 (.exit 4)))
 (.seq (.block 5 (.seq (.region [
 rs 78 (.fieldAddr 4 (.tmp 1)),
 rs 79 (.load none (.tmp 78)),
 rs 80 (.move (.tmp 8)),
 rs 81 (.indexS 3 (.tmp 79) (.tmp 80)),
 rs 82 (.load (some 3) (.tmp 81)),
 rs 9 (.alloc [(.d (.int .i64 0)), (.d (.int .i64 0)), (.d (.int .i64 0))]),
 rn (.store 3 (.tmp 9) (.tmp 82))] (some [1, 2, 3, 8, 9]))
 (.region [
 rs 83 (.fieldAddr 4 (.tmp 3)),
 rs 84 (.load none (.tmp 83)),
 rs 85 (.fieldAddr 0 (.tmp 9)),
 rs 86 (.load none (.tmp 85)),
 rs 87 (.fieldAddr 1 (.tmp 9)),
 rs 88 (.load none (.tmp 87)),
 rs 89 (.fieldAddr 2 (.tmp 9)),
 rs 90 (.load none (.tmp 89)),
 rs 91 (.build [(.d (.int .i64 0)), (.d (.int .i64 0)), (.d (.int .i64 0))] [(0, 1, (.tmp 86)), (1, 1, (.tmp 88)), (2, 1, (.tmp 90))]),
 rs 92 (.bslice false 96 3 1 [(.int .i64 0), (.int .i64 0), (.int .i64 0)] [(0, (.tmp 91))]),
 ⟨(some 93), none, .app 96 3 24 (.tmp 84) (.tmp 92)⟩,
 rs 94 (.fieldAddr 4 (.tmp 3)),
 rn (.store 1 (.tmp 94) (.tmp 93))] (some [1, 2, 3, 8]))))
 (.region [
 rs 76 (.move (.tmp 8)),
 rs 77 (.bin .add (.tmp 76) (ci 1)),
 rs 8 (.move (.tmp 77))] (some [1, 2, 3, 8])))))))
(.seq (.seq (.region [
 rs 10 (.move (ci 0))] (some [1, 2, 3, 10]))
(.block 6 (.loop (.seq (.seq (.region [
 rs 95 (.move (.tmp 10)),
 rs 96 (.fieldAddr 5 (.tmp 1)),
 rs 97 (.load none (.tmp 96)),
 rs 98 (.len (.tmp 97)),
 rs 99 (.bin .lss (.tmp 95) (.tmp 98))] (some [1, 2, 3, 10, 99]))
 (.cond (.tmp 99)
 .skip
 (.exit 6)))
 (.seq (.block 7 (.region [
 rs 102 (.fieldAddr 5 (.tmp 3)),
 rs 103 (.load none (.tmp 102)),
 rs 104 (.fieldAddr 5 (.tmp 1)),
 rs 105 (.load none (.tmp 104)),
 rs 106 (.move (.tmp 10)),
 rs 107 (.indexS 2 (.tmp 105) (.tmp 106)),
 rs 108 (.load (some 2) (.tmp 107)),
 ⟨(some 109), none, .callx (.func 61) [(.tmp 108)]⟩,
 rs 110 (.bslice false 71 2 1 [(.int .i64 0), (.int .i64 0)] [(0, (.tmp 109))]),
 ⟨(some 111), none, .app 71 2 16 (.tmp 103) (.tmp 110)⟩,
 rs 112 (.fieldAddr 5 (.tmp 3)),
 rn (.store 1 (.tmp 112) (.tmp 111))] (some [1, 2, 3, 10])))
 (.region [
 rs 100 (.move (.tmp 10)),
 rs 101 (.bin .add (.tmp 100) (ci 1)),
 rs 10 (.move (.tmp 101))] (some [1, 2, 3, 10])))))))
(.seq (.region [
 rs 113 (.load (some 6) (.tmp 3)),
 rn (.store 6 (.tmp 2) (.tmp 113))] (some [2]))
.ret)))))))
theorem k20 : Try.f20.body.bind (compC Try.prog G20) = some c20 := by kernel_rfl
theorem e20 : compRes Try.prog Try.f20.results.toList = some r20 := by kernel_rfl
def G21 : Cfg := ⟨[2], [(0, [1, 2]), (1, [2])], 10, []⟩
def r21 : List CRes := [.cell 2 (some 2)]
def c21 : CCode :=
(.seq (.region [
 rs 1 (.box false (.tmp 0)),
 rs 2 (.alloc [(.d .nils), (.d .nils)])] (some [1, 2]))
(.seq (.region [
 rs 3 (.fieldAddr 0 (.tmp 1)),
 rs 4 (.load none (.tmp 3)),
 rs 6 (.fieldAddr 1 (.tmp 1)),
 rs 7 (.load none (.tmp 6)),
 ⟨(some 5), none, .callx (.func 56) [(.tmp 4)]⟩,
 ⟨(some 8), none, .call (.func 56) [(.tmp 7)]⟩,
 rs 9 (.build [(.d .nils), (.d .nils)] [(0, 1, (.tmp 5)), (1, 1, (.tmp 8))]),
 rn (.store 2 (.tmp 2) (.tmp 9))] (some [2]))
.ret))
theorem k21 : Try.f21.body.bind (compC Try.prog G21) = some c21 := by kernel_rfl
theorem e21 : compRes Try.prog Try.f21.results.toList = some r21 := by kernel_rfl
def G23 : Cfg := ⟨[], [(0, [0, 1, 2]), (1, [6])], 15, []⟩
def r23 : List CRes := [.tmp 6]
def c23 : CCode :=
(.seq (.region [
 rs 6 (.move (.const (.bool false)))] (some [0, 1, 2]))
(.seq (.region [
 rs 7 (.move (.tmp 0)),
 rs 8 (.move (.tmp 1)),
 rs 9 (.bin .geq (.tmp 7) (.tmp 8)),
 rs 10 (.move (.tmp 9)),
 rg 11 10 true (.move (.tmp 0)),
 rg 12 10 true (.move (.tmp 2)),
 rg 13 10 true (.bin .leq (.tmp 11) (.tmp 12)),
 rs 14 (.pick (.tmp 10) (.tmp 13) (.const (.bool false))),
 rs 6 (.move (.tmp 14))] (some [6]))
.ret))
theorem k23 : Try.f23.body.bind (compC Try.prog G23) = some c23 := by kernel_rfl
theorem e23 : compRes Try.prog Try.f23.results.toList = some r23 := by kernel_rfl
def G34 : Cfg := ⟨[], [(0, [1]), (1, [2])], 5, []⟩
def r34 : List CRes := [.tmp 2]
def c34 : CCode :=
(.seq (.region [
 rs 1 (.box false (.tmp 0)),
 rs 2 (.move (ci 0))] (some [1]))
(.seq (.region [
 rs 3 (.load (some 6) (.tmp 1)),
 ⟨(some 4), none, .call (.func 69) [(.tmp 3)]⟩,
 rs 2 (.move (.tmp 4))] (some [2]))
.ret))
theorem k34 : Try.f34.body.bind (compC Try.prog G34) = some c34 := by kernel_rfl
theorem e34 : compRes Try.prog Try.f34.results.toList = some r34 := by kernel_rfl
def G43 : Cfg := ⟨[], [(0, [1]), (1, [2])], 13, []⟩
def r43 : List CRes := [.tmp 2]
def c43 : CCode :=
(.seq (.region [
 rs 1 (.box false (.tmp 0)),
 rs 2 (.move (.const (.bool false)))] (some [1]))
(.seq (.region [
 rs 3 (.fieldAddr 0 (.tmp 1)),
 rs 4 (.load none (.tmp 3)),
 rs 5 (.fieldAddr 1 (.tmp 1)),
 rs 6 (.load none (.tmp 5)),
 ⟨(some 7), none, .call (.func 23) [(.tmp 4), (ci 0), (.tmp 6)]⟩,
 rs 8 (.move (.tmp 7)),
 rg 9 8 true (.fieldAddr 1 (.tmp 1)),
 rg 10 8 true (.load none (.tmp 9)),
 rg 11 8 true (.bin .leq (.tmp 10) (ci 11)),
 rs 12 (.pick (.tmp 8) (.tmp 11) (.const (.bool false))),
 rs 2 (.move (.tmp 12))] (some [2]))
.ret))
theorem k43 : Try.f43.body.bind (compC Try.prog G43) = some c43 := by kernel_rfl
theorem e43 : compRes Try.prog Try.f43.results.toList = some r43 := by kernel_rfl
def G49 : Cfg := ⟨[], [(0, [1, 2]), (1, [2, 5]), (2, [2, 5, 8]), (4, [2, 5, 13]), (5, [4]), (3, [2, 5]), (6, [4])], 15, []⟩
def r49 : List CRes := [.tmp 4]
def c49 : CCode :=
(.seq (.region [
 rs 2 (.box false (.tmp 0)),
 rs 4 (.move (ci 0))] (some [1, 2]))
(.seq (.seq (.region [
 rs 6 (.move (.tmp 1)),
 rs 5 (.move (.tmp 6))] (some [2, 5]))
(.block 0 (.loop (.seq (.seq (.region [
 rs 7 (.move (.tmp 5)),
 rs 8 (.bin .leq (.tmp 7) (ci 11))] (some [2, 5, 8]))
 (.cond (.tmp 8)
 .skip
 (.exit 0)))
 (.seq (.block 1 (.seq (.region [
 rs 11 (.load (some 6) (.tmp 2)),
 rs 12 (.move (.tmp 5)),
 ⟨(some 13), none, .call (.func 81) [(.tmp 11), (.tmp 12)]⟩] (some [2, 5, 13]))
 (.cond (.tmp 13)
 (.seq (.region [
 rs 14 (.move (.tmp 5)),
 rs 4 (.move (.tmp 14))] (some [4]))
 .ret)
 .skip)))
 (.region [
 rs 9 (.move (.tmp 5)),
 rs 10 (.bin .add (.tmp 9) (ci 1)),
 rs 5 (.move (.tmp 10))] (some [2, 5])))))))
(.seq (.region [
 ⟨(some 4), none, .simple (.move (ci (-1)))⟩] (some [4]))
.ret)))
theorem k49 : Try.f49.body.bind (compC Try.prog G49) = some c49 := by kernel_rfl
theorem e49 : compRes Try.prog Try.f49.results.toList = some r49 := by kernel_rfl
def G56 : Cfg := ⟨[5, 3], [(0, [0]), (1, [2])], 6, []⟩
def r56 : List CRes := [.tmp 2]
def c56 : CCode :=
(.seq (.region [
 rs 2 (.move (.const (.slice none 0 0)))] (some [0]))
(.seq (.region [
 rs 3 (.bslice true 3 1 0 [] []),
 rs 4 (.move (.tmp 0)),
 ⟨(some 5), none, .app 3 1 8 (.tmp 3) (.tmp 4)⟩,
 rs 2 (.move (.tmp 5))] (some [2]))
.ret))
theorem k56 : Try.f56.body.bind (compC Try.prog G56) = some c56 := by kernel_rfl
theorem e56 : compRes Try.prog Try.f56.results.toList = some r56 := by kernel_rfl
def G61 : Cfg := ⟨[2], [(0, [1, 2]), (1, [2])], 8, []⟩
def r61 : List CRes := [.cell 2 (some 2)]
def c61 : CCode :=
(.seq (.region [
 rs 1 (.box false (.tmp 0)),
 rs 2 (.alloc [(.d (.int .i64 0)), (.d (.int .i64 0))])] (some [1, 2]))
(.seq (.region [
 rs 3 (.fieldAddr 0 (.tmp 1)),
 rs 4 (.load none (.tmp 3)),
 rs 5 (.fieldAddr 1 (.tmp 1)),
 rs 6 (.load none (.tmp 5)),
 rs 7 (.build [(.d (.int .i64 0)), (.d (.int .i64 0))] [(0, 1, (.tmp 4)), (1, 1, (.tmp 6))]),
 rn (.store 2 (.tmp 2) (.tmp 7))] (some [2]))
.ret))
theorem k61 : Try.f61.body.bind (compC Try.prog G61) = some c61 := by kernel_rfl
theorem e61 : compRes Try.prog Try.f61.results.toList = some r61 := by kernel_rfl
def G69 : Cfg := ⟨[5, 7, 10], [(0, [1]), (1, [1, 38]), (2, [2]), (3, [1, 49]), (4, [2]), (5, [1, 3]), (6, [1, 3, 53]), (8, [1, 3, 62]), (9, [2]), (7, [1, 3]), (10, [1, 4]), (11, [1, 4, 67]), (13, [1, 4, 5]), (14, [1, 4, 135]), (15, [2]), (12, [1, 4]), (16, [1, 6]), (17, [1, 6, 140]), (19, [1, 6, 7]), (20, [1, 6, 160]), (21, [2]), (18, [1, 6]), (22, [1, 8]), (23, [1, 8, 9]), (24, [1, 8, 9, 165]), (26, [1, 8, 9, 10]), (27, [1, 9, 10, 190]), (28, [2]), (29, [1, 8, 9]), (25, [1, 8, 9]), (30, [1, 11]), (31, [1, 11, 197]), (33, [1, 11, 206]), (34, [2]), (32, [1, 11]), (35, [2])], 207, []⟩
def r69 : List CRes := [.tmp 2]
def c69 : CCode :=
(.seq (.region [
 rs 1 (.box false (.tmp 0)),
 rs 2 (.move (ci 0))] (some [1]))
(.seq (.seq (.region [
 rs 12 (.fieldAddr 0 (.tmp 1)),
 rs 13 (.load none (.tmp 12)),
 rs 14 (.bin .gtr (.tmp 13) (ci 4)),
 rs 15 (.move (.tmp 14)),
 rg 16 15 false (.fieldAddr 2 (.tmp 1)),
 rg 17 15 false (.load none (.tmp 16)),
 rg 18 15 false (.len (.tmp 17)),
 rg 19 15 false (.bin .gtr (.tmp 18) (ci 4)),
 rs 20 (.pick (.tmp 15) (.const (.bool true)) (.tmp 19)),
 rs 21 (.move (.tmp 20)),
 rg 22 21 false (.fieldAddr 3 (.tmp 1)),
 rg 23 21 false (.load none (.tmp 22)),
 rg 24 21 false (.len (.tmp 23)),
 rg 25 21 false (.bin .gtr (.tmp 24) (ci 3)),
 rs 26 (.pick (.tmp 21) (.const (.bool true)) (.tmp 25)),
 rs 27 (.move (.tmp 26)),
 rg 28 27 false (.fieldAddr 4 (.tmp 1)),
 rg 29 27 false (.load none (.tmp 28)),
 rg 30 27 false (.len (.tmp 29)),
 rg 31 27 false (.bin .gtr (.tmp 30) (ci 2)),
 rs 32 (.pick (.tmp 27) (.const (.bool true)) (.tmp 31)),
 rs 33 (.move (.tmp 32)),
 rg 34 33 false (.fieldAddr 5 (.tmp 1)),
 rg 35 33 false (.load none (.tmp 34)),
 rg 36 33 false (.len (.tmp 35)),
 rg 37 33 false (.bin .gtr (.tmp 36) (ci 2)),
 rs 38 (.pick (.tmp 33) (.const (.bool true)) (.tmp 37))] (some [1, 38]))
(.cond (.tmp 38)
 (.seq (.region [
 rs 2 (.move (ci 3))] (some [2]))
 .ret)
 .skip))
(.seq (.seq (.region [
 rs 39 (.fieldAddr 0 (.tmp 1)),
 rs 40 (.load none (.tmp 39)),
 rs 41 (.bin .lss (.tmp 40) (ci 1)),
 rs 42 (.move (.tmp 41)),
 rg 43 42 false (.fieldAddr 1 (.tmp 1)),
 rg 44 42 false (.load none (.tmp 43)),
 rg 45 42 false (.len (.tmp 44)),
 rg 46 42 false (.fieldAddr 0 (.tmp 1)),
 rg 47 42 false (.load none (.tmp 46)),
 rg 48 42 false (.bin .neq (.tmp 45) (.tmp 47)),
 rs 49 (.pick (.tmp 42) (.const (.bool true)) (.tmp 48))] (some [1, 49]))
(.cond (.tmp 49)
 (.seq (.region [
 rs 2 (.move (ci 1))] (some [2]))
 .ret)
 .skip))
(.seq (.seq (.region [
 rs 3 (.move (ci 0))] (some [1, 3]))
(.block 0 (.loop (.seq (.seq (.region [
 rs 50 (.move (.tmp 3)),
 rs 51 (.fieldAddr 0 (.tmp 1)),
 rs 52 (.load none (.tmp 51)),
 rs 53 (.bin .lss (.tmp 50) (.tmp 52))] (some [1, 3, 53]))
 (.cond (.tmp 53)
 .skip
 (.exit 0)))
 (.seq (.block 1 (.seq (.region [
 rs 56 (.fieldAddr 1 (.tmp 1)),
 rs 57 (.load none (.tmp 56)),
 rs 58 (.move (.tmp 3)),
 rs 59 (.indexS 1 (.tmp 57) (.tmp 58)),
 rs 60 (.load none (.tmp 59)),
 ⟨(some 61), none, .call (.func 23) [(.tmp 60), (ci 0), (ci 100)]⟩,
 rs 62 (.un .not (.tmp 61))] (some [1, 3, 62]))
 (.cond (.tmp 62)
 (.seq (.region [
 rs 2 (.move (ci 1))] (some [2]))
 .ret)
 .skip)))
 (.region [
 rs 54 (.move (.tmp 3)),
 rs 55 (.bin .add (.tmp 54) (ci 1)),
 rs 3 (.move (.tmp 55))] (some [1, 3])))))))
(.seq (.seq (.region [
 rs 4 (.move (ci 0))] (some [1, 4]))
(.block 2 (.loop (.seq (.seq (.region [
 rs 63 (.move (.tmp 4)),
 rs 64 (.fieldAddr 2 (.tmp 1)),
 rs 65 (.load none (.tmp 64)),
 rs 66 (.len (.tmp 65)),
 rs 67 (.bin .lss (.tmp 63) (.tmp 66))] (some [1, 4, 67]))
 (.cond (.tmp 67)
 .skip
 (.exit 2)))
 (.seq (.block 3 (.seq (.region [
 rs 70 (.fieldAddr 2 (.tmp 1)),
 rs 71 (.load none (.tmp 70)),
 rs 72 (.move (.tmp 4)),
 rs 73 (.indexS 7 (.tmp 71) (.tmp 72)),
 rs 74 (.load (some 7) (.tmp 73)),
 rs 5 (.alloc [(.d (.int .i64 0)), (.d (.int .i64 0)), (.d (.int .i64 0)), (.d (.int .i64 0)), (.d (.int .i64 0)), (.d (.int .i64 0)), (.d (.int .i64 0))]),
 rn (.store 7 (.tmp 5) (.tmp 74))] (some [1, 4, 5]))
 (.seq (.region [
 rs 75 (.fieldAddr 0 (.tmp 5)),
 rs 76 (.load none (.tmp 75)),
 rs 77 (.fieldAddr 0 (.tmp 1)),
 rs 78 (.load none (.tmp 77)),
 rs 79 (.bin .sub (.tmp 78) (ci 1)),
 ⟨(some 80), none, .call (.func 23) [(.tmp 76), (ci 0), (.tmp 79)]⟩,
 rs 81 (.un .not (.tmp 80)),
 rs 82 (.move (.tmp 81)),
 rg 83 82 false (.fieldAddr 1 (.tmp 5)),
 rg 84 82 false (.load none (.tmp 83)),
 rg 85 82 false (.fieldAddr 0 (.tmp 1)),
 rg 86 82 false (.load none (.tmp 85)),
 rg 87 82 false (.bin .sub (.tmp 86) (ci 1)),
 ⟨(some 88), (some (82, false)), .call (.func 23) [(.tmp 84), (ci 0), (.tmp 87)]⟩,
 rg 89 82 false (.un .not (.tmp 88)),
 rs 90 (.pick (.tmp 82) (.const (.bool true)) (.tmp 89)),
 rs 91 (.move (.tmp 90)),
 rg 92 91 false (.fieldAddr 0 (.tmp 5)),
 rg 93 91 false (.load none (.tmp 92)),
 rg 94 91 false (.fieldAddr 1 (.tmp 5)),
 rg 95 91 false (.load none (.tmp 94)),
 rg 96 91 false (.bin .eql (.tmp 93) (.tmp 95)),
 rs 97 (.pick (.tmp 91) (.const (.bool true)) (.tmp 96)),
 rs 98 (.move (.tmp 97)),
 rg 99 98 false (.fieldAddr 2 (.tmp 5)),
 rg 100 98 false (.load none (.tmp 99)),
 ⟨(some 101), (some (98, false)), .call (.func 23) [(.tmp 100), (ci 1), (ci 100)]⟩,
 rg 102 98 false (.un .not (.tmp 101)),
 rs 103 (.pick (.tmp 98) (.const (.bool true)) (.tmp 102)),
 rs 104 (.move (.tmp 103)),
 rg 105 104 false (.fieldAddr 3 (.tmp 5)),
 rg 106 104 false (.load (some 2) (.tmp 105)),
 ⟨(some 107), (some (104, false)), .call (.func 43) [(.tmp 106)]⟩,
 rg 108 104 false (.un .not (.tmp 107)),
 rs 109 (.pick (.tmp 104) (.const (.bool true)) (.tmp 108)),
 rs 110 (.move (.tmp 109)),
 rg 111 110 false (.fieldAddr 5 (.tmp 5)),
 rg 112 110 false (.load (some 2) (.tmp 111)),
 ⟨(some 113), (some (110, false)), .call (.func 43) [(.tmp 112)]⟩,
 rg 114 110 false (.un .not (.tmp 113)),
 rs 115 (.pick (.tmp 110) (.const (.bool true)) (.tmp 114)),
 rs 116 (.move (.tmp 115)),
 rg 117 116 false (.fieldAddr 3 (.tmp 5)),
 rg 118 116 false (.fieldAddr 1 (.tmp 117)),
 rg 119 116 false (.load none (.tmp 118)),
 rg 120 116 false (.fieldAddr 3 (.tmp 5)),
 rg 121 116 false (.fieldAddr 0 (.tmp 120)),
 rg 122 116 false (.load none (.tmp 121)),
 rg 123 116 false (.bin .sub (.tmp 119) (.tmp 122)),
 rg 124 116 false (.bin .gtr (.tmp 123) (ci 2)),
 rs 125 (.pick (.tmp 116) (.const (.bool true)) (.tmp 124)),
 rs 126 (.move (.tmp 125)),
 rg 127 126 false (.fieldAddr 5 (.tmp 5)),
 rg 128 126 false (.fieldAddr 1 (.tmp 127)),
 rg 129 126 false (.load none (.tmp 128)),
 rg 130 126 false (.fieldAddr 5 (.tmp 5)),
 rg 131 126 false (.fieldAddr 0 (.tmp 130)),
 rg 132 126 false (.load none (.tmp 131)),
 rg 133 126 false (.bin .sub (.tmp 129) (.tmp 132)),
 rg 134 126 false (.bin .gtr (.tmp 133) (ci 2)),
 rs 135 (.pick (.tmp 126) (.const (.bool true)) (.tmp 134))] (some [1, 4, 135]))
 (.cond (.tmp 135)
 (.seq (.region [
 rs 2 (.move (ci 1))] (some [2]))
 .ret)
 .skip))))
 (.region [
 rs 68 (.move (.tmp 4)),
 rs 69 (.bin .add (.tmp 68) (ci 1)),
 rs 4 (.move (.tmp 69))] (some [1, 4])))))))
(.seq (.seq (.region [
 rs 6 (.move (ci 0))] (some [1, 6]))
(.block 4 (.loop (.seq (.seq (.region [
 rs 136 (.move (.tmp 6)),
 rs 137 (.fieldAddr 3 (.tmp 1)),
 rs 138 (.load none (.tmp 137)),
 rs 139 (.len (.tmp 138)),
 rs 140 (.bin .lss (.tmp 136) (.tmp 139))] (some [1, 6, 140]))
 (.cond (.tmp 140)
 .skip
 (.exit 4)))
 (.seq (.block 5 (.seq (.region [
 rs 143 (.fieldAddr 3 (.tmp 1)),
 rs 144 (.load none (.tmp 143)),
 rs 145 (.move (.tmp 6)),
 rs 146 (.indexS 3 (.tmp 144) (.tmp 145)),
 rs 147 (.load (some 3) (.tmp 146)),
 rs 7 (.alloc [(.d (.int .i64 0)), (.d (.int .i64 0)), (.d (.int .i64 0))]),
 rn (.store 3 (.tmp 7) (.tmp 147))] (some [1, 6, 7]))
 (.seq (.region [
 rs 148 (.fieldAddr 0 (.tmp 7)),
 rs 149 (.load none (.tmp 148)),
 rs 150 (.fieldAddr 1 (.tmp 7)),
 rs 151 (.load none (.tmp 150)),
 rs 152 (.build [(.d (.int .i64 0)), (.d (.int .i64 0))] [(0, 1, (.tmp 149)), (1, 1, (.tmp 151))]),
 ⟨(some 153), none, .call (.func 43) [(.tmp 152)]⟩,
 rs 154 (.un .not (.tmp 153)),
 rs 155 (.move (.tmp 154)),
 rg 156 155 false (.fieldAddr 2 (.tmp 7)),
 rg 157 155 false (.load none (.tmp 156)),
 ⟨(some 158), (some (155, false)), .call (.func 23) [(.tmp 157), (ci 0), (ci 50)]⟩,
 rg 159 155 false (.un .not (.tmp 158)),
 rs 160 (.pick (.tmp 155) (.const (.bool true)) (.tmp 159))] (some [1, 6, 160]))
 (.cond (.tmp 160)
 (.seq (.region [
 rs 2 (.move (ci 1))] (some [2]))
 .ret)
 .skip))))
 (.region [
 rs 141 (.move (.tmp 6)),
 rs 142 (.bin .add (.tmp 141) (ci 1)),
 rs 6 (.move (.tmp 142))] (some [1, 6])))))))
(.seq (.region [
 ⟨(some 8), none, .simple (.move (ci (-1)))⟩] (some [1, 8]))
(.seq (.seq (.region [
 rs 9 (.move (ci 0))] (some [1, 8, 9]))
(.block 6 (.loop (.seq (.seq (.region [
 rs 161 (.move (.tmp 9)),
 rs 162 (.fieldAddr 4 (.tmp 1)),
 rs 163 (.load none (.tmp 162)),
 rs 164 (.len (.tmp 163)),
 rs 165 (.bin .lss (.tmp 161) (.tmp 164))] (some [1, 8, 9, 165]))
 (.cond (.tmp 165)
 .skip
 (.exit 6)))
 (.seq (.block 7 (.seq (.region [
 rs 168 (.fieldAddr 4 (.tmp 1)),
 rs 169 (.load none (.tmp 168)),
 rs 170 (.move (.tmp 9)),
 rs 171 (.indexS 3 (.tmp 169) (.tmp 170)),
 rs 172 (.load (some 3) (.tmp 171)),
 rs 10 (.alloc [(.d (.int .i64 0)), (.d (.int .i64 0)), (.d (.int .i64 0))]),
 rn (.store 3 (.tmp 10) (.tmp 172))] (some [1, 8, 9, 10]))
 (.seq (.seq (.region [
 rs 173 (.fieldAddr 0 (.tmp 10)),
 rs 174 (.load none (.tmp 173)),
 rs 175 (.move (.tmp 8)),
 rs 176 (.bin .add (.tmp 175) (ci 1)),
 ⟨(some 177), none, .call (.func 23) [(.tmp 174), (.tmp 176), (ci 11)]⟩,
 rs 178 (.un .not (.tmp 177)),
 rs 179 (.move (.tmp 178)),
 rg 180 179 false (.fieldAddr 1 (.tmp 10)),
 rg 181 179 false (.load none (.tmp 180)),
 ⟨(some 182), (some (179, false)), .call (.func 23) [(.tmp 181), (ci 1), (ci 6)]⟩,
 rg 183 179 false (.un .not (.tmp 182)),
 rs 184 (.pick (.tmp 179) (.const (.bool true)) (.tmp 183)),
 rs 185 (.move (.tmp 184)),
 rg 186 185 false (.fieldAddr 2 (.tmp 10)),
 rg 187 185 false (.load none (.tmp 186)),
 ⟨(some 188), (some (185, false)), .call (.func 23) [(.tmp 187), (ci 1), (ci 4)]⟩,
 rg 189 185 false (.un .not (.tmp 188)),
 rs 190 (.pick (.tmp 185) (.const (.bool true)) (.tmp 189))] (some [1, 9, 10, 190]))
 (.cond (.tmp 190)
 (.seq (.region [
 rs 2 (.move (ci 1))] (some [2]))
 .ret)
 .skip))
 (.region [
 rs 191 (.fieldAddr 0 (.tmp 10)),
 rs 192 (.load none (.tmp 191)),
 rs 8 (.move (.tmp 192))] (some [1, 8, 9])))))
 (.region [
 rs 166 (.move (.tmp 9)),
 rs 167 (.bin .add (.tmp 166) (ci 1)),
 rs 9 (.move (.tmp 167))] (some [1, 8, 9])))))))
(.seq (.seq (.region [
 rs 11 (.move (ci 0))] (some [1, 11]))
(.block 8 (.loop (.seq (.seq (.region [
 rs 193 (.move (.tmp 11)),
 rs 194 (.fieldAddr 5 (.tmp 1)),
 rs 195 (.load none (.tmp 194)),
 rs 196 (.len (.tmp 195)),
 rs 197 (.bin .lss (.tmp 193) (.tmp 196))] (some [1, 11, 197]))
 (.cond (.tmp 197)
 .skip
 (.exit 8)))
 (.seq (.block 9 (.seq (.region [
 rs 200 (.fieldAddr 5 (.tmp 1)),
 rs 201 (.load none (.tmp 200)),
 rs 202 (.move (.tmp 11)),
 rs 203 (.indexS 2 (.tmp 201) (.tmp 202)),
 rs 204 (.load (some 2) (.tmp 203)),
 ⟨(some 205), none, .call (.func 43) [(.tmp 204)]⟩,
 rs 206 (.un .not (.tmp 205))] (some [1, 11, 206]))
 (.cond (.tmp 206)
 (.seq (.region [
 rs 2 (.move (ci 1))] (some [2]))
 .ret)
 .skip)))
 (.region [
 rs 198 (.move (.tmp 11)),
 rs 199 (.bin .add (.tmp 198) (ci 1)),
 rs 11 (.move (.tmp 199))] (some [1, 11])))))))
(.seq (.region [
 rs 2 (.move (ci 0))] (some [2]))
.ret))))))))))
theorem k69 : Try.f69.body.bind (compC Try.prog G69) = some c69 := by kernel_rfl
theorem e69 : compRes Try.prog Try.f69.results.toList = some r69 := by kernel_rfl
def G81 : Cfg := ⟨[], [(0, [1, 2]), (1, [1, 2, 5]), (2, [1, 2, 5, 10]), (4, [1, 2, 5, 26]), (5, [4]), (3, [1, 2, 5]), (6, [4])], 27, []⟩
def r81 : List CRes := [.tmp 4]
def c81 : CCode :=
(.seq (.region [
 rs 2 (.box false (.tmp 0)),
 rs 4 (.move (.const (.bool false)))] (some [1, 2]))
(.seq (.seq (.region [
 rs 5 (.move (ci 0))] (some [1, 2, 5]))
(.block 0 (.loop (.seq (.seq (.region [
 rs 6 (.move (.tmp 5)),
 rs 7 (.fieldAddr 5 (.tmp 2)),
 rs 8 (.load none (.tmp 7)),
 rs 9 (.len (.tmp 8)),
 rs 10 (.bin .lss (.tmp 6) (.tmp 9))] (some [1, 2, 5, 10]))
 (.cond (.tmp 10)
 .skip
 (.exit 0)))
 (.seq (.block 1 (.seq (.region [
 rs 13 (.move (.tmp 1)),
 rs 14 (.fieldAddr 5 (.tmp 2)),
 rs 15 (.load none (.tmp 14)),
 rs 16 (.move (.tmp 5)),
 rs 17 (.indexS 2 (.tmp 15) (.tmp 16)),
 rs 18 (.fieldAddr 0 (.tmp 17)),
 rs 19 (.load none (.tmp 18)),
 rs 20 (.fieldAddr 5 (.tmp 2)),
 rs 21 (.load none (.tmp 20)),
 rs 22 (.move (.tmp 5)),
 rs 23 (.indexS 2 (.tmp 21) (.tmp 22)),
 rs 24 (.fieldAddr 1 (.tmp 23)),
 rs 25 (.load none (.tmp 24)),
 ⟨(some 26), none, .call (.func 23) [(.tmp 13), (.tmp 19), (.tmp 25)]⟩] (some [1, 2, 5, 26]))
 (.cond (.tmp 26)
 (.seq (.region [
 rs 4 (.move (.const (.bool false)))] (some [4]))
 .ret)
 .skip)))
 (.region [
 rs 11 (.move (.tmp 5)),
 rs 12 (.bin .add (.tmp 11) (ci 1)),
 rs 5 (.move (.tmp 12))] (some [1, 2, 5])))))))
(.seq (.region [
 rs 4 (.move (.const (.bool true)))] (some [4]))
.ret)))
theorem k81 : Try.f81.body.bind (compC Try.prog G81) = some c81 := by kernel_rfl
theorem e81 : compRes Try.prog Try.f81.results.toList = some r81 := by kernel_rfl
end Go.Proofs.Ytdnefcjbcieecaa
namespace Go.Proofs.Ytdnefcjbcieecaa
open Go Go.Proofs
def G18 : Cfg := ⟨[], [(0, []), (1, [1, 2]), (2, [1, 2, 3, 4, 5]), (3, [1, 2, 3, 4, 5, 6, 7]), (4, [1, 2, 3, 4, 5, 6, 7, 8, 9]), (5, [1, 2, 3, 4, 5, 6, 7, 8, 9, 10, 11]), (6, [1, 2, 3, 4, 5, 6, 7, 8, 9, 10, 11, 12, 13, 14, 15]), (7, [1, 2, 3, 4, 5, 6, 7, 8, 9, 10, 11, 12, 13, 14, 15, 16, 17]), (8, [0])], 156, []⟩
def r18 : List CRes := [.tmp 0]
def c18 : CCode :=
(.seq (.region [
 rs 0 (.move (.const (.bool false)))] (some []))
(.seq (.region [
 ⟨(some 19), none, .call (.func 53) [(ci 4)]⟩,
 ⟨(some 20), none, .call (.func 50) [(.tmp 19), (ci 5)]⟩,
 rs 18 (.move (.tmp 20)),
 rs 21 (.extract (.tmp 18) 0),
 rs 22 (.extract (.tmp 18) 1),
 rs 1 (.move (.tmp 21)),
 rs 2 (.move (.tmp 22))] (some [1, 2]))
(.seq (.region [
 ⟨(some 24), none, .call (.func 53) [(ci 4)]⟩,
 ⟨(some 25), none, .call (.func 54) [(ci 2), (ci 4)]⟩,
 ⟨(some 26), none, .call (.func 19) [(.tmp 24), (.tmp 25), (ci 4)]⟩,
 rs 23 (.move (.tmp 26)),
 rs 27 (.extract (.tmp 23) 0),
 rs 28 (.extract (.tmp 23) 1),
 rs 29 (.extract (.tmp 23) 2),
 rs 3 (.move (.tmp 27)),
 rs 4 (.move (.tmp 28)),
 rs 5 (.move (.tmp 29))] (some [1, 2, 3, 4, 5]))
(.seq (.region [
 ⟨(some 31), none, .call (.func 53) [(ci 4)]⟩,
 ⟨(some 32), none, .call (.func 54) [(ci 2), (ci 5)]⟩,
 ⟨(some 33), none, .call (.func 25) [(.tmp 31), (.tmp 32), (ci 0)]⟩,
 rs 30 (.move (.tmp 33)),
 rs 34 (.extract (.tmp 30) 0),
 rs 35 (.extract (.tmp 30) 1),
 rs 6 (.move (.tmp 34)),
 rs 7 (.move (.tmp 35))] (some [1, 2, 3, 4, 5, 6, 7]))
(.seq (.region [
 ⟨(some 37), none, .call (.func 53) [(ci 4)]⟩,
 ⟨(some 38), none, .call (.func 54) [(ci 3), (ci 4)]⟩,
 ⟨(some 39), none, .call (.func 26) [(.tmp 37), (.tmp 38), (ci 0)]⟩,
 rs 36 (.move (.tmp 39)),
 rs 40 (.extract (.tmp 36) 0),
 rs 41 (.extract (.tmp 36) 1),
 rs 8 (.move (.tmp 40)),
 rs 9 (.move (.tmp 41))] (some [1, 2, 3, 4, 5, 6, 7, 8, 9]))
(.seq (.region [
 ⟨(some 43), none, .call (.func 53) [(ci 4)]⟩,
 ⟨(some 44), none, .call (.func 54) [(ci 2), (ci 5)]⟩,
 ⟨(some 45), none, .call (.func 27) [(.tmp 43), (.tmp 44), (ci 0)]⟩,
 rs 42 (.move (.tmp 45)),
 rs 46 (.extract (.tmp 42) 0),
 rs 47 (.extract (.tmp 42) 1),
 rs 10 (.move (.tmp 46)),
 rs 11 (.move (.tmp 47))] (some [1, 2, 3, 4, 5, 6, 7, 8, 9, 10, 11]))
(.seq (.region [
 ⟨(some 49), none, .call (.func 53) [(ci 4)]⟩,
 ⟨(some 50), none, .call (.func 33) [(.tmp 49), (ci 0)]⟩,
 rs 48 (.move (.tmp 50)),
 rs 51 (.extract (.tmp 48) 0),
 rs 52 (.extract (.tmp 48) 1),
 rs 53 (.extract (.tmp 48) 2),
 rs 54 (.extract (.tmp 48) 3),
 rs 12 (.move (.tmp 51)),
 rs 13 (.move (.tmp 52)),
 rs 14 (.move (.tmp 53)),
 rs 15 (.move (.tmp 54))] (some [1, 2, 3, 4, 5, 6, 7, 8, 9, 10, 11, 12, 13, 14, 15]))
(.seq (.region [
 ⟨(some 56), none, .call (.func 53) [(ci 11)]⟩,
 ⟨(some 57), none, .call (.func 38) [(.tmp 56)]⟩,
 rs 55 (.move (.tmp 57)),
 rs 58 (.extract (.tmp 55) 0),
 rs 59 (.extract (.tmp 55) 1),
 rs 16 (.move (.tmp 58)),
 rs 17 (.move (.tmp 59))] (some [1, 2, 3, 4, 5, 6, 7, 8, 9, 10, 11, 12, 13, 14, 15, 16, 17]))
(.seq (.region [
 rs 60 (.move (.tmp 2)),
 rs 61 (.bin .eql (.tmp 60) (ci 0)),
 rs 62 (.move (.tmp 61)),
 rg 63 62 true (.move (.tmp 1)),
 rg 64 62 true (.bin .eql (.tmp 63) (ci 7)),
 rs 65 (.pick (.tmp 62) (.tmp 64) (.const (.bool false))),
 rs 66 (.move (.tmp 65)),
 rg 67 66 true (.move (.tmp 5)),
 rg 68 66 true (.bin .eql (.tmp 67) (ci 0)),
 rs 69 (.pick (.tmp 66) (.tmp 68) (.const (.bool false))),
 rs 70 (.move (.tmp 69)),
 rg 71 70 true (.move (.tmp 3)),
 ⟨(some 72), (some (70, true)), .simple (.bslice false 3 1 2 [(.int .i64 0), (.int .i64 0)] [(0, (ci 9)), (1, (ci 6))])⟩,
 ⟨(some 73), (some (70, true)), .call (.func 28) [(.tmp 71), (.tmp 72)]⟩,
 rs 74 (.pick (.tmp 70) (.tmp 73) (.const (.bool false))),
 rs 75 (.move (.tmp 74)),
 rg 76 75 true (.move (.tmp 4)),
 ⟨(some 77), (some (75, true)), .simple (.bslice false 3 1 2 [(.int .i64 0), (.int .i64 0)] [(0, (ci 0)), (1, (ci 0))])⟩,
 ⟨(some 78), (some (75, true)), .call (.func 28) [(.tmp 76), (.tmp 77)]⟩,
 rs 79 (.pick (.tmp 75) (.tmp 78) (.const (.bool false))),
 rs 80 (.move (.tmp 79)),
 rg 81 80 true (.move (.tmp 7)),
 rg 82 80 true (.bin .eql (.tmp 81) (ci 0)),
 rs 83 (.pick (.tmp 80) (.tmp 82) (.const (.bool false))),
 rs 84 (.move (.tmp 83)),
 rg 85 84 true (.move (.tmp 6)),
 ⟨(some 86), (some (84, true)), .simple (.bslice false 3 1 2 [(.int .i64 0), (.int .i64 0)] [(0, (ci 54000)), (1, (ci 0))])⟩,
 ⟨(some 87), (some (84, true)), .call (.func 28) [(.tmp 85), (.tmp 86)]⟩,
 rs 88 (.pick (.tmp 84) (.tmp 87) (.const (.bool false))),
 rs 89 (.move (.tmp 88)),
 rg 90 89 true (.move (.tmp 9)),
 rg 91 89 true (.bin .eql (.tmp 90) (ci 0)),
 rs 92 (.pick (.tmp 89) (.tmp 91) (.const (.bool false))),
 rs 93 (.move (.tmp 92)),
 rg 94 93 true (.move (.tmp 8)),
 ⟨(some 95), (some (93, true)), .simple (.bslice false 3 1 1 [(.int .i64 0)] [(0, (ci (-21600)))])⟩,
 ⟨(some 96), (some (93, true)), .call (.func 28) [(.tmp 94), (.tmp 95)]⟩,
 rs 97 (.pick (.tmp 93) (.tmp 96) (.const (.bool false))),
 rs 98 (.move (.tmp 97)),
 rg 99 98 true (.move (.tmp 11)),
 rg 100 98 true (.bin .eql (.tmp 99) (ci 0)),
 rs 101 (.pick (.tmp 98) (.tmp 100) (.const (.bool false))),
 rs 102 (.move (.tmp 101)),
 rg 103 102 true (.move (.tmp 10)),
 ⟨(some 104), (some (102, true)), .simple (.bslice false 3 1 2 [(.int .i64 0), (.int .i64 0)] [(0, (ci 32400)), (1, (ci 21600))])⟩,
 ⟨(some 105), (some (102, true)), .call (.func 28) [(.tmp 103), (.tmp 104)]⟩,
 rs 106 (.pick (.tmp 102) (.tmp 105) (.const (.bool false))),
 rs 107 (.move (.tmp 106)),
 rg 108 107 true (.move (.tmp 15)),
 rg 109 107 true (.bin .eql (.tmp 108) (ci 0)),
 rs 110 (.pick (.tmp 107) (.tmp 109) (.const (.bool false))),
 rs 111 (.move (.tmp 110)),
 rg 112 111 true (.move (.tmp 12)),
 rg 113 111 true (.len (.tmp 112)),
 rg 114 111 true (.bin .eql (.tmp 113) (ci 2)),
 rs 115 (.pick (.tmp 111) (.tmp 114) (.const (.bool false))),
 rs 116 (.move (.tmp 115)),
 rg 117 116 true (.move (.tmp 12)),
 rg 118 116 true (.indexS 2 (.tmp 117) (ci 0)),
 rg 119 116 true (.load (some 2) (.tmp 118)),
 ⟨(some 120), (some (116, true)), .callx (.func 55) [(ci 32400), (ci 54000)]⟩,
 rg 121 116 true (.eqA false [(.int .i64), (.int .i64)] (.tmp 119) (.tmp 120)),
 rs 122 (.pick (.tmp 116) (.tmp 121) (.const (.bool false))),
 rs 123 (.move (.tmp 122)),
 rg 124 123 true (.move (.tmp 13)),
 rg 125 123 true (.len (.tmp 124)),
 rg 126 123 true (.bin .eql (.tmp 125) (ci 1)),
 rs 127 (.pick (.tmp 123) (.tmp 126) (.const (.bool false))),
 rs 128 (.move (.tmp 127)),
 rg 129 128 true (.move (.tmp 13)),
 rg 130 128 true (.indexS 2 (.tmp 129) (ci 0)),
 rg 131 128 true (.load (some 2) (.tmp 130)),
 ⟨(some 132), (some (128, true)), .callx (.func 55) [(ci (-21600)), (ci 21600)]⟩,
 rg 133 128 true (.eqA false [(.int .i64), (.int .i64)] (.tmp 131) (.tmp 132)),
 rs 134 (.pick (.tmp 128) (.tmp 133) (.const (.bool false))),
 rs 135 (.move (.tmp 134)),
 rg 136 135 true (.move (.tmp 14)),
 rg 137 135 true (.len (.tmp 136)),
 rg 138 135 true (.bin .eql (.tmp 137) (ci 2)),
 rs 139 (.pick (.tmp 135) (.tmp 138) (.const (.bool false))),
 rs 140 (.move (.tmp 139)),
 rg 141 140 true (.move (.tmp 14)),
 rg 142 140 true (.indexS 2 (.tmp 141) (ci 1)),
 rg 143 140 true (.load (some 2) (.tmp 142)),
 ⟨(some 144), (some (140, true)), .callx (.func 55) [(ci 0), (ci 21600)]⟩,
 rg 145 140 true (.eqA false [(.int .i64), (.int .i64)] (.tmp 143) (.tmp 144)),
 rs 146 (.pick (.tmp 140) (.tmp 145) (.const (.bool false))),
 rs 147 (.move (.tmp 146)),
 rg 148 147 true (.move (.tmp 17)),
 rg 149 147 true (.bin .eql (.tmp 148) (ci 0)),
 rs 150 (.pick (.tmp 147) (.tmp 149) (.const (.bool false))),
 rs 151 (.move (.tmp 150)),
 rg 152 151 true (.move (.tmp 16)),
 ⟨(some 153), (some (151, true)), .simple (.bslice false 3 1 1 [(.int .i64 0)] [(0, (ci 0))])⟩,
 ⟨(some 154), (some (151, true)), .call (.func 28) [(.tmp 152), (.tmp 153)]⟩,
 rs 155 (.pick (.tmp 151) (.tmp 154) (.const (.bool false))),
 rs 0 (.move (.tmp 155))] (some [0]))
.ret)))))))))
theorem k18 : Try.f18.body.bind (compC Try.prog G18) = some c18 := by kernel_rfl
theorem e18 : compRes Try.prog Try.f18.results.toList = some r18 := by kernel_rfl
def F18 : FunX := ⟨false, G18, c18, r18⟩
theorem o18 : FunOk Try.prog 18 F18 := ⟨Try.f18, by kernel_rfl, k18, e18, by kernel_rfl, by kernel_rfl⟩
def G19 : Cfg := ⟨[46, 41, 10], [(0, [2, 3, 4, 6, 7]), (1, [2, 3, 4, 6, 7, 8, 9]), (2, [2, 3, 4, 6, 7, 8, 9, 20]), (3, [6, 7, 8]), (4, [2, 3, 4, 6, 7, 9, 24]), (5, [6, 7, 8]), (6, [3, 6, 7, 10]), (7, [6, 7, 31, 32, 33]), (8, [6, 7, 31, 32, 33, 34]), (9, [6, 7, 12, 31, 32, 33]), (10, [6, 7, 31, 32, 33]), (11, [6, 7, 31, 32, 33]), (12, [6, 7, 8])], 50, [(7, [(10, none)])]⟩
def r19 : List CRes := [.tmp 6, .tmp 7, .tmp 8]
def c19 : CCode :=
(.seq (.region [
 rs 3 (.box false (.tmp 0)),
 rs 4 (.box false (.tmp 1)),
 rs 6 (.move (.const (.slice none 0 0))),
 rs 7 (.move (.const (.slice none 0 0))),
 rs 8 (.move (ci 0))] (some [2, 3, 4, 6, 7]))
(.seq (.region [
 rs 14 (.load (some 6) (.tmp 3)),
 rs 15 (.load (some 2) (.tmp 4)),
 ⟨(some 16), none, .call (.func 58) [(.tmp 14), (.tmp 15)]⟩,
 rs 13 (.move (.tmp 16)),
 rs 17 (.extract (.tmp 13) 0),
 rs 18 (.extract (.tmp 13) 1),
 rs 9 (.move (.tmp 17)),
 rs 8 (.move (.tmp 18))] (some [2, 3, 4, 6, 7, 8, 9]))
(.seq (.seq (.region [
 rs 19 (.move (.tmp 8)),
 rs 20 (.bin .neq (.tmp 19) (ci 0))] (some [2, 3, 4, 6, 7, 8, 9, 20]))
(.cond (.tmp 20)
 (.seq (.region [
 rs 21 (.move (.tmp 8)),
 rs 6 (.move (.const (.slice none 0 0))),
 rs 7 (.move (.const (.slice none 0 0))),
 rs 8 (.move (.tmp 21))] (some [6, 7, 8]))
 .ret)
 .skip))
(.seq (.seq (.region [
 rs 22 (.move (.tmp 2)),
 ⟨(some 23), none, .call (.func 59) [(.tmp 22)]⟩,
 rs 24 (.un .not (.tmp 23))] (some [2, 3, 4, 6, 7, 9, 24]))
(.cond (.tmp 24)
 (.seq (.region [
 rs 6 (.move (.const (.slice none 0 0))),
 rs 7 (.move (.const (.slice none 0 0))),
 rs 8 (.move (ci 2))] (some [6, 7, 8]))
 .ret)
 .skip))
(.seq (.region [
 rs 25 (.move (.tmp 9)),
 rs 26 (.load (some 2) (.tmp 4)),
 rs 27 (.move (.tmp 2)),
 ⟨(some 28), none, .call (.func 60) [(.tmp 25), (.tmp 26), (.tmp 27)]⟩,
 rs 10 (.alloc [(.d (.int .i64 0)), (.d (.int .i64 0)), (.d (.int .i64 0)), (.d (.int .i64 0))]),
 rn (.store 4 (.tmp 10) (.tmp 28))] (some [3, 6, 7, 10]))
(.seq (.seq (.seq (.frz (10, none))
(.region [
 rs 29 (.fieldAddr 0 (.tmp 3)),
 rs 30 (.load none (.tmp 29)),
 rs 31 (.sliceA 4 1 (.tmp 10) none (some (.tmp 30))),
 rs 32 (.len (.tmp 31)),
 rs 33 (.move (ci 0))] (some [6, 7, 31, 32, 33])))
(.block 0 (.loop (.seq (.region [
 rs 34 (.bin .lss (.tmp 33) (.tmp 32))] (some [6, 7, 31, 32, 33, 34]))
 (.seq (.cond (.tmp 34)
 .skip
 (.exit 0))
 (.seq (.block 1 (.seq (.region [
 rs 35 (.indexS 1 (.tmp 31) (.tmp 33)),
 rs 36 (.load none (.tmp 35)),
 rs 12 (.move (.tmp 36))] (some [6, 7, 12, 31, 32, 33]))
 (.region [
 rs 37 (.move (.tmp 6)),
 rs 38 (.move (.tmp 12)),
 rs 39 (.bin .quo (.tmp 38) (ci 720)),
 rs 40 (.bslice false 3 1 1 [(.int .i64 0)] [(0, (.tmp 39))]),
 ⟨(some 41), none, .app 3 1 8 (.tmp 37) (.tmp 40)⟩,
 rs 42 (.move (.tmp 7)),
 rs 43 (.move (.tmp 12)),
 rs 44 (.bin .rem (.tmp 43) (ci 720)),
 rs 45 (.bslice false 3 1 1 [(.int .i64 0)] [(0, (.tmp 44))]),
 ⟨(some 46), none, .app 3 1 8 (.tmp 42) (.tmp 45)⟩,
 rs 6 (.move (.tmp 41)),
 rs 7 (.move (.tmp 46))] (some [6, 7, 31, 32, 33]))))
 (.region [
 rs 47 (.bin .add (.tmp 33) (ci 1)),
 rs 33 (.move (.tmp 47))] (some [6, 7, 31, 32, 33]))))))))
(.seq (.region [
 rs 48 (.move (.tmp 6)),
 rs 49 (.move (.tmp 7)),
 rs 6 (.move (.tmp 48)),
 rs 7 (.move (.tmp 49)),
 rs 8 (.move (ci 0))] (some [6, 7, 8]))
.ret)))))))
theorem k19 : Try.f19.body.bind (compC Try.prog G19) = some c19 := by kernel_rfl
theorem e19 : compRes Try.prog Try.f19.results.toList = some r19 := by kernel_rfl
def F19 : FunX := ⟨false, G19, c19, r19⟩
theorem o19 : FunOk Try.prog 19 F19 := ⟨Try.f19, by kernel_rfl, k19, e19, by kernel_rfl, by kernel_rfl⟩
def G25 : Cfg := ⟨[], [(0, [2, 3, 4]), (1, [6, 7])], 15, []⟩
def r25 : List CRes := [.tmp 6, .tmp 7]
def c25 : CCode :=
(.seq (.region [
 rs 3 (.box false (.tmp 0)),
 rs 4 (.box false (.tmp 1)),
 rs 6 (.move (.const (.slice none 0 0))),
 rs 7 (.move (ci 0))] (some [2, 3, 4]))
(.seq (.region [
 rs 8 (.build [(.d .nilf)] [(0, 1, (.func 64))]),
 rs 9 (.load (some 6) (.tmp 3)),
 rs 10 (.load (some 2) (.tmp 4)),
 rs 11 (.move (.tmp 2)),
 ⟨(some 12), none, .call (.func 65) [(.tmp 8), (.tmp 9), (.tmp 10), (.tmp 11)]⟩,
 rs 13 (.extract (.tmp 12) 0),
 rs 14 (.extract (.tmp 12) 1),
 rs 6 (.move (.tmp 13)),
 rs 7 (.move (.tmp 14))] (some [6, 7]))
.ret))
theorem k25 : Try.f25.body.bind (compC Try.prog G25) = some c25 := by kernel_rfl
theorem e25 : compRes Try.prog Try.f25.results.toList = some r25 := by kernel_rfl
def F25 : FunX := ⟨false, G25, c25, r25⟩
theorem o25 : FunOk Try.prog 25 F25 := ⟨Try.f25, by kernel_rfl, k25, e25, by kernel_rfl, by kernel_rfl⟩
def G26 : Cfg := ⟨[], [(0, [2, 3, 4]), (1, [6, 7])], 15, []⟩
def r26 : List CRes := [.tmp 6, .tmp 7]
def c26 : CCode :=
(.seq (.region [
 rs 3 (.box false (.tmp 0)),
 rs 4 (.box false (.tmp 1)),
 rs 6 (.move (.const (.slice none 0 0))),
 rs 7 (.move (ci 0))] (some [2, 3, 4]))
(.seq (.region [
 rs 8 (.build [(.d .nilf)] [(0, 1, (.func 66))]),
 rs 9 (.load (some 6) (.tmp 3)),
 rs 10 (.load (some 2) (.tmp 4)),
 rs 11 (.move (.tmp 2)),
 ⟨(some 12), none, .call (.func 65) [(.tmp 8), (.tmp 9), (.tmp 10), (.tmp 11)]⟩,
 rs 13 (.extract (.tmp 12) 0),
 rs 14 (.extract (.tmp 12) 1),
 rs 6 (.move (.tmp 13)),
 rs 7 (.move (.tmp 14))] (some [6, 7]))
.ret))
theorem k26 : Try.f26.body.bind (compC Try.prog G26) = some c26 := by kernel_rfl
theorem e26 : compRes Try.prog Try.f26.results.toList = some r26 := by kernel_rfl
def F26 : FunX := ⟨false, G26, c26, r26⟩
theorem o26 : FunOk Try.prog 26 F26 := ⟨Try.f26, by kernel_rfl, k26, e26, by kernel_rfl, by kernel_rfl⟩
def G27 : Cfg := ⟨[], [(0, [2, 3, 4]), (1, [6, 7])], 15, []⟩
def r27 : List CRes := [.tmp 6, .tmp 7]
def c27 : CCode :=
(.seq (.region [
 rs 3 (.box false (.tmp 0)),
 rs 4 (.box false (.tmp 1)),
 rs 6 (.move (.const (.slice none 0 0))),
 rs 7 (.move (ci 0))] (some [2, 3, 4]))
(.seq (.region [
 rs 8 (.build [(.d .nilf)] [(0, 1, (.func 67))]),
 rs 9 (.load (some 6) (.tmp 3)),
 rs 10 (.load (some 2) (.tmp 4)),
 rs 11 (.move (.tmp 2)),
 ⟨(some 12), none, .call (.func 65) [(.tmp 8), (.tmp 9), (.tmp 10), (.tmp 11)]⟩,
 rs 13 (.extract (.tmp 12) 0),
 rs 14 (.extract (.tmp 12) 1),
 rs 6 (.move (.tmp 13)),
 rs 7 (.move (.tmp 14))] (some [6, 7]))
.ret))
theorem k27 : Try.f27.body.bind (compC Try.prog G27) = some c27 := by kernel_rfl
theorem e27 : compRes Try.prog Try.f27.results.toList = some r27 := by kernel_rfl
def F27 : FunX := ⟨false, G27, c27, r27⟩
theorem o27 : FunOk Try.prog 27 F27 := ⟨Try.f27, by kernel_rfl, k27, e27, by kernel_rfl, by kernel_rfl⟩
def G28 : Cfg := ⟨[], [(0, [0, 1]), (1, [4])], 22, []⟩
def r28 : List CRes := [.tmp 4]
def c28 : CCode :=
(.seq (.region [
 rs 4 (.move (.const (.bool false)))] (some [0, 1]))
(.seq (.region [
 rs 5 (.move (.tmp 0)),
 rs 6 (.len (.tmp 5)),
 rs 7 (.move (.tmp 1)),
 rs 8 (.len (.tmp 7)),
 rs 9 (.bin .eql (.tmp 6) (.tmp 8)),
 rs 10 (.move (.tmp 9)),
 rg 11 10 true (.move (.tmp 0)),
 rg 12 10 true (.move (.tmp 1)),
 ⟨(some 13), (some (10, true)), .call (.func 68) [(.tmp 11), (.tmp 12)]⟩,
 rg 14 10 true (.un .not (.tmp 13)),
 rs 15 (.pick (.tmp 10) (.tmp 14) (.const (.bool false))),
 rs 16 (.move (.tmp 15)),
 rg 17 16 true (.move (.tmp 1)),
 rg 18 16 true (.move (.tmp 0)),
 ⟨(some 19), (some (16, true)), .call (.func 68) [(.tmp 17), (.tmp 18)]⟩,
 rg 20 16 true (.un .not (.tmp 19)),
 rs 21 (.pick (.tmp 16) (.tmp 20) (.const (.bool false))),
 rs 4 (.move (.tmp 21))] (some [4]))
.ret))
theorem k28 : Try.f28.body.bind (compC Try.prog G28) = some c28 := by kernel_rfl
theorem e28 : compRes Try.prog Try.f28.results.toList = some r28 := by kernel_rfl
def F28 : FunX := ⟨false, G28, c28, r28⟩
theorem o28 : FunOk Try.prog 28 F28 := ⟨Try.f28, by kernel_rfl, k28, e28, by kernel_rfl, by kernel_rfl⟩
def G33 : Cfg := ⟨[10], [(0, [1, 2]), (1, [1, 2, 8]), (2, [1, 2, 8, 15]), (3, [4, 5, 6, 7]), (4, [1, 2, 23]), (5, [4, 5, 6, 7]), (6, [9, 10]), (7, [4, 9, 10, 11]), (8, [4, 9, 10, 39]), (9, [4, 5, 6, 7]), (10, [4, 5, 9, 10]), (11, [4, 5, 6]), (12, [4, 5, 6, 7])], 57, []⟩
def r33 : List CRes := [.tmp 4, .tmp 5, .tmp 6, .tmp 7]
def c33 : CCode :=
(.seq (.region [
 rs 2 (.box false (.tmp 0)),
 rs 4 (.move (.const (.slice none 0 0))),
 rs 5 (.move (.const (.slice none 0 0))),
 rs 6 (.move (.const (.slice none 0 0))),
 rs 7 (.move (ci 0))] (some [1, 2]))
(.seq (.seq (.region [
 rs 12 (.load (some 6) (.tmp 2)),
 ⟨(some 13), none, .call (.func 52) [(.tmp 12)]⟩,
 rs 8 (.move (.tmp 13))] (some [1, 2, 8]))
(.seq (.region [
 rs 14 (.move (.tmp 8)),
 rs 15 (.bin .neq (.tmp 14) (ci 0))] (some [1, 2, 8, 15]))
(.cond (.tmp 15)
 (.seq (.region [
 rs 16 (.move (.tmp 8)),
 rs 4 (.move (.const (.slice none 0 0))),
 rs 5 (.move (.const (.slice none 0 0))),
 rs 6 (.move (.const (.slice none 0 0))),
 rs 7 (.move (.tmp 16))] (some [4, 5, 6, 7]))
 .ret)
 .skip)))
(.seq (.seq (.region [
 rs 17 (.move (.tmp 1)),
 rs 18 (.fieldAddr 3 (.tmp 2)),
 rs 19 (.load none (.tmp 18)),
 rs 20 (.len (.tmp 19)),
 rs 21 (.bin .sub (.tmp 20) (ci 1)),
 ⟨(some 22), none, .call (.func 71) [(.tmp 17), (ci 0), (.tmp 21)]⟩,
 rs 23 (.un .not (.tmp 22))] (some [1, 2, 23]))
(.cond (.tmp 23)
 (.seq (.region [
 rs 4 (.move (.const (.slice none 0 0))),
 rs 5 (.move (.const (.slice none 0 0))),
 rs 6 (.move (.const (.slice none 0 0))),
 rs 7 (.move (ci 2))] (some [4, 5, 6, 7]))
 .ret)
 .skip))
(.seq (.seq (.region [
 rs 24 (.load (some 6) (.tmp 2)),
 rs 26 (.fieldAddr 3 (.tmp 2)),
 rs 27 (.load none (.tmp 26)),
 rs 28 (.move (.tmp 1)),
 rs 29 (.indexS 3 (.tmp 27) (.tmp 28)),
 rs 30 (.load (some 3) (.tmp 29))] none)
(.both (.region [
 ⟨(some 25), none, .callx (.func 72) [(.tmp 24)]⟩,
 rs 10 (.alloc [(.d (.int .i64 0)), (.d (.int .i64 0)), (.d (.int .i64 0))]),
 rs 9 (.move (.tmp 25)),
 rn (.store 3 (.tmp 10) (.tmp 30))] (some [9, 10]))
 (.region [
 rs 10 (.alloc [(.d (.int .i64 0)), (.d (.int .i64 0)), (.d (.int .i64 0))]),
 ⟨(some 25), none, .callx (.func 72) [(.tmp 24)]⟩,
 rs 9 (.move (.tmp 25)),
 rn (.store 3 (.tmp 10) (.tmp 30))] (some [9, 10]))))
(.seq (.region [
 rs 32 (.move (.tmp 9)),
 rs 33 (.build [(.d .nilf)] [(0, 1, (.func 64))]),
 rs 34 (.load (some 3) (.tmp 10)),
 ⟨(some 35), none, .call (.func 73) [(.tmp 32), (.tmp 33), (.tmp 34)]⟩,
 rs 31 (.move (.tmp 35)),
 rs 36 (.extract (.tmp 31) 0),
 rs 37 (.extract (.tmp 31) 1),
 rs 4 (.move (.tmp 36)),
 rs 11 (.move (.tmp 37))] (some [4, 9, 10, 11]))
(.seq (.seq (.region [
 rs 38 (.move (.tmp 11)),
 rs 39 (.un .not (.tmp 38))] (some [4, 9, 10, 39]))
(.cond (.tmp 39)
 (.seq (.region [
 rs 4 (.move (.const (.slice none 0 0))),
 rs 5 (.move (.const (.slice none 0 0))),
 rs 6 (.move (.const (.slice none 0 0))),
 rs 7 (.move (ci 9))] (some [4, 5, 6, 7]))
 .ret)
 .skip))
(.seq (.region [
 rs 41 (.move (.tmp 9)),
 rs 42 (.build [(.d .nilf)] [(0, 1, (.func 66))]),
 rs 43 (.load (some 3) (.tmp 10)),
 ⟨(some 44), none, .call (.func 73) [(.tmp 41), (.tmp 42), (.tmp 43)]⟩,
 rs 40 (.move (.tmp 44)),
 rs 45 (.extract (.tmp 40) 0),
 rs 46 (.extract (.tmp 40) 1),
 rs 5 (.move (.tmp 45))] (some [4, 5, 9, 10]))
(.seq (.region [
 rs 48 (.move (.tmp 9)),
 rs 49 (.build [(.d .nilf)] [(0, 1, (.func 67))]),
 rs 50 (.load (some 3) (.tmp 10)),
 ⟨(some 51), none, .call (.func 73) [(.tmp 48), (.tmp 49), (.tmp 50)]⟩,
 rs 47 (.move (.tmp 51)),
 rs 52 (.extract (.tmp 47) 0),
 rs 53 (.extract (.tmp 47) 1),
 rs 6 (.move (.tmp 52))] (some [4, 5, 6]))
(.seq (.region [
 rs 54 (.move (.tmp 4)),
 rs 55 (.move (.tmp 5)),
 rs 56 (.move (.tmp 6)),
 rs 4 (.move (.tmp 54)),
 rs 5 (.move (.tmp 55)),
 rs 6 (.move (.tmp 56)),
 rs 7 (.move (ci 0))] (some [4, 5, 6, 7]))
.ret)))))))))
theorem k33 : Try.f33.body.bind (compC Try.prog G33) = some c33 := by kernel_rfl
theorem e33 : compRes Try.prog Try.f33.results.toList = some r33 := by kernel_rfl
def F33 : FunX := ⟨false, G33, c33, r33⟩
theorem o33 : FunOk Try.prog 33 F33 := ⟨Try.f33, by kernel_rfl, k33, e33, by kernel_rfl, by kernel_rfl⟩
def G38 : Cfg := ⟨[1, 5, 6], [(0, [1]), (1, [1, 4]), (2, [1, 4, 11]), (3, [2, 3]), (4, [1, 5]), (5, [1, 5, 6]), (6, [1, 5, 6]), (7, [5, 6, 17, 18]), (8, [5, 6, 17, 18, 19]), (9, [5, 6, 7, 17, 18]), (10, [5, 6, 17, 18, 23]), (11, [5, 6, 17, 18]), (12, [2, 3])], 26, []⟩
def r38 : List CRes := [.tmp 2, .tmp 3]
def c38 : CCode :=
(.seq (.region [
 rs 1 (.box true (.tmp 0)),
 rs 2 (.move (.const (.slice none 0 0))),
 rs 3 (.move (ci 0))] (some [1]))
(.seq (.seq (.region [
 rs 8 (.load (some 6) (.tmp 1)),
 ⟨(some 9), none, .call (.func 52) [(.tmp 8)]⟩,
 rs 4 (.move (.tmp 9))] (some [1, 4]))
(.seq (.region [
 rs 10 (.move (.tmp 4)),
 rs 11 (.bin .neq (.tmp 10) (ci 0))] (some [1, 4, 11]))
(.cond (.tmp 11)
 (.seq (.region [
 rs 12 (.move (.tmp 4)),
 rs 2 (.move (.const (.slice none 0 0))),
 rs 3 (.move (.tmp 12))] (some [2, 3]))
 .ret)
 .skip)))
(.seq (.region [
 rs 5 (.alloc [(.d .nils)])] (some [1, 5]))
(.seq (.region [
 rs 6 (.alloc [(.d .nilf)])] (some [1, 5, 6]))
(.seq (.region [
 rs 13 (.mkfn (.func 75) [] [(.tmp 1), (.tmp 5), (.tmp 6)]),
 rn (.store 1 (.tmp 6) (.tmp 13))] (some [1, 5, 6]))
(.seq .skip
(.seq (.seq (.region [
 rs 14 (.fieldAddr 2 (.tmp 1)),
 rs 15 (.load none (.tmp 14)),
 rs 16 (.len (.tmp 15)),
 rs 17 (.bin .add (.tmp 16) (ci 1)),
 rs 18 (.move (ci 0))] (some [5, 6, 17, 18]))
(.block 0 (.loop (.seq (.region [
 rs 19 (.bin .lss (.tmp 18) (.tmp 17))] (some [5, 6, 17, 18, 19]))
 (.seq (.cond (.tmp 19)
 .skip
 (.exit 0))
 (.seq (.block 1 (.seq (.region [
 rs 20 (.move (.tmp 18)),
 rs 7 (.move (.tmp 20))] (some [5, 6, 7, 17, 18]))
 (.seq (.region [
 rs 21 (.load none (.tmp 6)),
 rs 22 (.move (.tmp 7)),
 ⟨(some 23), none, .call (.tmp 21) [(.const (.slice none 0 0)), (ci 0), (.tmp 22)]⟩] (some [5, 6, 17, 18, 23]))
 (.cond (.tmp 23)
 (.exit 0)
 .skip))))
 (.region [
 rs 24 (.bin .add (.tmp 18) (ci 1)),
 rs 18 (.move (.tmp 24))] (some [5, 6, 17, 18]))))))))
(.seq (.region [
 rs 25 (.load none (.tmp 5)),
 rs 2 (.move (.tmp 25)),
 rs 3 (.move (ci 0))] (some [2, 3]))
.ret))))))))
theorem k38 : Try.f38.body.bind (compC Try.prog G38) = some c38 := by kernel_rfl
theorem e38 : compRes Try.prog Try.f38.results.toList = some r38 := by kernel_rfl
def F38 : FunX := ⟨false, G38, c38, r38⟩
theorem o38 : FunOk Try.prog 38 F38 := ⟨Try.f38, by kernel_rfl, k38, e38, by kernel_rfl, by kernel_rfl⟩
def G50 : Cfg := ⟨[], [(0, [1, 2]), (1, [1, 2, 6]), (2, [1, 2, 6, 10]), (3, [4, 5]), (4, [1, 2, 14]), (5, [4, 5]), (6, [4, 5])], 18, []⟩
def r50 : List CRes := [.tmp 4, .tmp 5]
def c50 : CCode :=
(.seq (.region [
 rs 2 (.box false (.tmp 0)),
 rs 4 (.move (ci 0)),
 rs 5 (.move (ci 0))] (some [1, 2]))
(.seq (.seq (.region [
 rs 7 (.load (some 6) (.tmp 2)),
 ⟨(some 8), none, .call (.func 52) [(.tmp 7)]⟩,
 rs 6 (.move (.tmp 8))] (some [1, 2, 6]))
(.seq (.region [
 rs 9 (.move (.tmp 6)),
 rs 10 (.bin .neq (.tmp 9) (ci 0))] (some [1, 2, 6, 10]))
(.cond (.tmp 10)
 (.seq (.region [
 rs 11 (.move (.tmp 6)),
 rs 4 (.move (ci 0)),
 rs 5 (.move (.tmp 11))] (some [4, 5]))
 .ret)
 .skip)))
(.seq (.seq (.region [
 rs 12 (.move (.tmp 1)),
 ⟨(some 13), none, .call (.func 59) [(.tmp 12)]⟩,
 rs 14 (.un .not (.tmp 13))] (some [1, 2, 14]))
(.cond (.tmp 14)
 (.seq (.region [
 rs 4 (.move (ci 0)),
 rs 5 (.move (ci 2))] (some [4, 5]))
 .ret)
 .skip))
(.seq (.region [
 rs 15 (.load (some 6) (.tmp 2)),
 rs 16 (.move (.tmp 1)),
 ⟨(some 17), none, .call (.func 82) [(.tmp 15), (.tmp 16)]⟩,
 rs 4 (.move (.tmp 17)),
 rs 5 (.move (ci 0))] (some [4, 5]))
.ret))))
theorem k50 : Try.f50.body.bind (compC Try.prog G50) = some c50 := by kernel_rfl
theorem e50 : compRes Try.prog Try.f50.results.toList = some r50 := by kernel_rfl
def F50 : FunX := ⟨false, G50, c50, r50⟩
theorem o50 : FunOk Try.prog 50 F50 := ⟨Try.f50, by kernel_rfl, k50, e50, by kernel_rfl, by kernel_rfl⟩
def G52 : Cfg := ⟨[], [(0, [1]), (1, [1, 3]), (2, [1, 3, 6]), (4, [34]), (5, [2]), (3, [2]), (6, [2])], 78, []⟩
def r52 : List CRes := [.tmp 2]
def c52 : CCode :=
(.seq (.region [
 rs 1 (.box false (.tmp 0)),
 rs 2 (.move (ci 0))] (some [1]))
(.seq (.region [
 rs 4 (.load (some 6) (.tmp 1)),
 rs 5 (.mkfn (.func 83) [(.tmp 4)] []),
 rs 3 (.move (.tmp 5))] (some [1, 3]))
(.seq (.block 0 (.seq (.region [
 rs 7 (.fieldAddr 0 (.tmp 1)),
 rs 8 (.load none (.tmp 7)),
 rs 9 (.bin .gtr (.tmp 8) (ci 4)),
 rs 10 (.move (.tmp 9)),
 rg 11 10 false (.fieldAddr 2 (.tmp 1)),
 rg 12 10 false (.load none (.tmp 11)),
 rg 13 10 false (.len (.tmp 12)),
 rg 14 10 false (.bin .gtr (.tmp 13) (ci 4)),
 rs 15 (.pick (.tmp 10) (.const (.bool true)) (.tmp 14)),
 rs 16 (.move (.tmp 15)),
 rg 17 16 false (.fieldAddr 3 (.tmp 1)),
 rg 18 16 false (.load none (.tmp 17)),
 rg 19 16 false (.len (.tmp 18)),
 rg 20 16 false (.bin .gtr (.tmp 19) (ci 3)),
 rs 21 (.pick (.tmp 16) (.const (.bool true)) (.tmp 20)),
 rs 22 (.move (.tmp 21)),
 rg 23 22 false (.fieldAddr 4 (.tmp 1)),
 rg 24 22 false (.load none (.tmp 23)),
 rg 25 22 false (.len (.tmp 24)),
 rg 26 22 false (.bin .gtr (.tmp 25) (ci 2)),
 rs 27 (.pick (.tmp 22) (.const (.bool true)) (.tmp 26)),
 rs 28 (.move (.tmp 27)),
 rg 29 28 false (.fieldAddr 5 (.tmp 1)),
 rg 30 28 false (.load none (.tmp 29)),
 rg 31 28 false (.len (.tmp 30)),
 rg 32 28 false (.bin .gtr (.tmp 31) (ci 2)),
 rs 33 (.pick (.tmp 28) (.const (.bool true)) (.tmp 32)),
 rs 6 (.move (.tmp 33))] (some [1, 3, 6]))
 (.cond (.tmp 6)
 (.seq (.region [
 rs 2 (.move (ci 3))] (some [2]))
 .ret)
 (.seq (.region [
 rs 35 (.fieldAddr 0 (.tmp 1)),
 rs 36 (.load none (.tmp 35)),
 rs 37 (.bin .lss (.tmp 36) (ci 1)),
 rs 38 (.move (.tmp 37)),
 rg 39 38 false (.fieldAddr 1 (.tmp 1)),
 rg 40 38 false (.load none (.tmp 39)),
 rg 41 38 false (.len (.tmp 40)),
 rg 42 38 false (.fieldAddr 0 (.tmp 1)),
 rg 43 38 false (.load none (.tmp 42)),
 rg 44 38 false (.bin .neq (.tmp 41) (.tmp 43)),
 rs 45 (.pick (.tmp 38) (.const (.bool true)) (.tmp 44)),
 rs 46 (.move (.tmp 45)),
 rg 47 46 false (.fieldAddr 1 (.tmp 1)),
 rg 48 46 false (.load none (.tmp 47)),
 ⟨(some 49), (some (46, false)), .simple (.build [(.d (.int .i64 0)), (.d (.int .i64 0))] [(0, 1, (ci 0)), (1, 1, (ci 100))])⟩,
 rg 50 46 false (.mkfn (.func 85) [(.tmp 49)] []),
 ⟨(some 51), (some (46, false)), .call (.func 84) [(.tmp 48), (.tmp 50)]⟩,
 rg 52 46 false (.un .not (.tmp 51)),
 rs 53 (.pick (.tmp 46) (.const (.bool true)) (.tmp 52)),
 rs 54 (.move (.tmp 53)),
 rg 55 54 false (.fieldAddr 2 (.tmp 1)),
 rg 56 54 false (.load none (.tmp 55)),
 rg 57 54 false (.move (.tmp 3)),
 ⟨(some 58), (some (54, false)), .call (.func 86) [(.tmp 56), (.tmp 57)]⟩,
 rg 59 54 false (.un .not (.tmp 58)),
 rs 60 (.pick (.tmp 54) (.const (.bool true)) (.tmp 59)),
 rs 61 (.move (.tmp 60)),
 rg 62 61 false (.fieldAddr 3 (.tmp 1)),
 rg 63 61 false (.load none (.tmp 62)),
 ⟨(some 64), (some (61, false)), .call (.func 87) [(.tmp 63), (.func 88)]⟩,
 rg 65 61 false (.un .not (.tmp 64)),
 rs 66 (.pick (.tmp 61) (.const (.bool true)) (.tmp 65)),
 rs 67 (.move (.tmp 66)),
 rg 68 67 false (.load (some 6) (.tmp 1)),
 ⟨(some 69), (some (67, false)), .call (.func 89) [(.tmp 68)]⟩,
 rg 70 67 false (.un .not (.tmp 69)),
 rs 71 (.pick (.tmp 67) (.const (.bool true)) (.tmp 70)),
 rs 72 (.move (.tmp 71)),
 rg 73 72 false (.fieldAddr 5 (.tmp 1)),
 rg 74 72 false (.load none (.tmp 73)),
 ⟨(some 75), (some (72, false)), .call (.func 90) [(.tmp 74), (.func 91)]⟩,
 rg 76 72 false (.un .not (.tmp 75)),
 rs 77 (.pick (.tmp 72) (.const (.bool true)) (.tmp 76)),
 rs 34 (.move (.tmp 77))] (some [34]))
 (.cond (.tmp 34)
 (.seq (.region [
 rs 2 (.move (ci 1))] (some [2]))
 .ret)
 .skip)))))
(.seq (.region [
 rs 2 (.move (ci 0))] (some [2]))
.ret))))
theorem k52 : Try.f52.body.bind (compC Try.prog G52) = some c52 := by kernel_rfl
theorem e52 : compRes Try.prog Try.f52.results.toList = some r52 := by kernel_rfl
def F52 : FunX := ⟨false, G52, c52, r52⟩
theorem o52 : FunOk Try.prog 52 F52 := ⟨Try.f52, by kernel_rfl, k52, e52, by kernel_rfl, by kernel_rfl⟩
def G53 : Cfg := ⟨[2], [(0, [0, 2]), (1, [2])], 16, []⟩
def r53 : List CRes := [.cell 2 (some 6)]
def c53 : CCode :=
(.seq (.region [
 rs 2 (.alloc [(.d (.int .i64 0)), (.d .nils), (.d .nils), (.d .nils), (.d .nils), (.d .nils)])] (some [0, 2]))
(.seq (.region [
 ⟨(some 3), none, .simple (.bslice false 3 1 2 [(.int .i64 0), (.int .i64 0)] [(0, (ci 10)), (1, (ci 0))])⟩,
 rs 4 (.move (.tmp 0)),
 ⟨(some 5), none, .call (.func 55) [(ci 2), (ci 3)]⟩,
 ⟨(some 6), none, .call (.func 55) [(ci 4), (ci 5)]⟩,
 ⟨(some 7), none, .simple (.build [(.d (.int .i64 0)), (.d (.int .i64 0)), (.d (.int .i64 0)), (.d (.int .i64 0)), (.d (.int .i64 0)), (.d (.int .i64 0)), (.d (.int .i64 0))] [(1, 1, (ci 1)), (2, 1, (.tmp 4)), (3, 2, (.tmp 5)), (5, 2, (.tmp 6))])⟩,
 rs 8 (.bslice false 93 7 1 [(.int .i64 0), (.int .i64 0), (.int .i64 0), (.int .i64 0), (.int .i64 0), (.int .i64 0), (.int .i64 0)] [(0, (.tmp 7))]),
 ⟨(some 9), none, .simple (.build [(.d (.int .i64 0)), (.d (.int .i64 0)), (.d (.int .i64 0))] [(0, 1, (ci 3)), (1, 1, (ci 4)), (2, 1, (ci 5))])⟩,
 rs 10 (.bslice false 95 3 1 [(.int .i64 0), (.int .i64 0), (.int .i64 0)] [(0, (.tmp 9))]),
 ⟨(some 11), none, .simple (.build [(.d (.int .i64 0)), (.d (.int .i64 0)), (.d (.int .i64 0))] [(0, 1, (ci 4)), (1, 1, (ci 3)), (2, 1, (ci 2))])⟩,
 rs 12 (.bslice false 96 3 1 [(.int .i64 0), (.int .i64 0), (.int .i64 0)] [(0, (.tmp 11))]),
 ⟨(some 13), none, .call (.func 55) [(ci 5), (ci 6)]⟩,
 rs 14 (.bslice false 71 2 1 [(.int .i64 0), (.int .i64 0)] [(0, (.tmp 13))]),
 ⟨(some 15), none, .simple (.build [(.d (.int .i64 0)), (.d .nils), (.d .nils), (.d .nils), (.d .nils), (.d .nils)] [(0, 1, (ci 2)), (1, 1, (.tmp 3)), (2, 1, (.tmp 8)), (3, 1, (.tmp 10)), (4, 1, (.tmp 12)), (5, 1, (.tmp 14))])⟩,
 rn (.store 6 (.tmp 2) (.tmp 15))] (some [2]))
.ret))
theorem k53 : Try.f53.body.bind (compC Try.prog G53) = some c53 := by kernel_rfl
theorem e53 : compRes Try.prog Try.f53.results.toList = some r53 := by kernel_rfl
def F53 : FunX := ⟨false, G53, c53, r53⟩
theorem o53 : FunOk Try.prog 53 F53 := ⟨Try.f53, by kernel_rfl, k53, e53, by kernel_rfl, by kernel_rfl⟩
end Go.Proofs.Ytdnefcjbcieecaa
namespace Go.Proofs.Ytdnefcjbcieecaa
open Go Go.Proofs
def G54 : Cfg := ⟨[4], [(0, [0, 1, 4]), (1, [4])], 10, []⟩
def r54 : List CRes := [.cell 4 (some 2)]
def c54 : CCode :=
(.seq (.region [
 rs 4 (.alloc [(.d .nils), (.d .nils)])] (some [0, 1, 4]))
(.seq (.region [
 rs 5 (.move (.tmp 0)),
 rs 6 (.bslice false 3 1 1 [(.int .i64 0)] [(0, (.tmp 5))]),
 rs 7 (.move (.tmp 1)),
 rs 8 (.bslice false 3 1 1 [(.int .i64 0)] [(0, (.tmp 7))]),
 rs 9 (.build [(.d .nils), (.d .nils)] [(0, 1, (.tmp 6)), (1, 1, (.tmp 8))]),
 rn (.store 2 (.tmp 4) (.tmp 9))] (some [4]))
.ret))
theorem k54 : Try.f54.body.bind (compC Try.prog G54) = some c54 := by kernel_rfl
theorem e54 : compRes Try.prog Try.f54.results.toList = some r54 := by kernel_rfl
def F54 : FunX := ⟨false, G54, c54, r54⟩
theorem o54 : FunOk Try.prog 54 F54 := ⟨Try.f54, by kernel_rfl, k54, e54, by kernel_rfl, by kernel_rfl⟩
def G55 : Cfg := ⟨[4], [(0, [0, 1, 4]), (1, [4])], 8, []⟩
def r55 : List CRes := [.cell 4 (some 2)]
def c55 : CCode :=
(.seq (.region [
 rs 4 (.alloc [(.d (.int .i64 0)), (.d (.int .i64 0))])] (some [0, 1, 4]))
(.seq (.region [
 rs 5 (.move (.tmp 0)),
 rs 6 (.move (.tmp 1)),
 rs 7 (.build [(.d (.int .i64 0)), (.d (.int .i64 0))] [(0, 1, (.tmp 5)), (1, 1, (.tmp 6))]),
 rn (.store 2 (.tmp 4) (.tmp 7))] (some [4]))
.ret))
theorem k55 : Try.f55.body.bind (compC Try.prog G55) = some c55 := by kernel_rfl
theorem e55 : compRes Try.prog Try.f55.results.toList = some r55 := by kernel_rfl
def F55 : FunX := ⟨false, G55, c55, r55⟩
theorem o55 : FunOk Try.prog 55 F55 := ⟨Try.f55, by kernel_rfl, k55, e55, by kernel_rfl, by kernel_rfl⟩
def G58 : Cfg := ⟨[], [(0, [2, 3]), (1, [2, 3, 6]), (2, [2, 3, 6, 11]), (3, [4, 5]), (4, [2, 3, 7]), (5, [3, 7, 15]), (7, [7, 20]), (8, [4, 5]), (6, [4, 5]), (9, [4, 5])], 26, []⟩
def r58 : List CRes := [.tmp 4, .tmp 5]
def c58 : CCode :=
(.seq (.region [
 rs 2 (.box false (.tmp 0)),
 rs 3 (.box false (.tmp 1)),
 rs 4 (.move (.const (.pointer none))),
 rs 5 (.move (ci 0))] (some [2, 3]))
(.seq (.seq (.region [
 rs 8 (.load (some 6) (.tmp 2)),
 ⟨(some 9), none, .call (.func 52) [(.tmp 8)]⟩,
 rs 6 (.move (.tmp 9))] (some [2, 3, 6]))
(.seq (.region [
 rs 10 (.move (.tmp 6)),
 rs 11 (.bin .neq (.tmp 10) (ci 0))] (some [2, 3, 6, 11]))
(.cond (.tmp 11)
 (.seq (.region [
 rs 12 (.move (.tmp 6)),
 rs 4 (.move (.const (.pointer none))),
 rs 5 (.move (.tmp 12))] (some [4, 5]))
 .ret)
 .skip)))
(.seq (.region [
 rs 13 (.load (some 6) (.tmp 2)),
 ⟨(some 14), none, .call (.func 72) [(.tmp 13)]⟩,
 rs 7 (.move (.tmp 14))] (some [2, 3, 7]))
(.seq (.block 0 (.seq (.region [
 rs 16 (.load (some 6) (.tmp 2)),
 rs 17 (.load (some 2) (.tmp 3)),
 ⟨(some 18), none, .call (.func 92) [(.tmp 16), (.tmp 17)]⟩,
 rs 19 (.un .not (.tmp 18)),
 rs 15 (.move (.tmp 19))] (some [3, 7, 15]))
 (.cond (.tmp 15)
 (.seq (.region [
 rs 4 (.move (.const (.pointer none))),
 rs 5 (.move (ci 2))] (some [4, 5]))
 .ret)
 (.seq (.region [
 rs 21 (.move (.tmp 7)),
 rs 22 (.load (some 2) (.tmp 3)),
 ⟨(some 23), none, .call (.func 93) [(.tmp 21), (.tmp 22)]⟩,
 rs 24 (.un .not (.tmp 23)),
 rs 20 (.move (.tmp 24))] (some [7, 20]))
 (.cond (.tmp 20)
 (.seq (.region [
 rs 4 (.move (.const (.pointer none))),
 rs 5 (.move (ci 11))] (some [4, 5]))
 .ret)
 .skip)))))
(.seq (.region [
 rs 25 (.move (.tmp 7)),
 rs 4 (.move (.tmp 25)),
 rs 5 (.move (ci 0))] (some [4, 5]))
.ret)))))
theorem k58 : Try.f58.body.bind (compC Try.prog G58) = some c58 := by kernel_rfl
theorem e58 : compRes Try.prog Try.f58.results.toList = some r58 := by kernel_rfl
def F58 : FunX := ⟨false, G58, c58, r58⟩
theorem o58 : FunOk Try.prog 58 F58 := ⟨Try.f58, by kernel_rfl, k58, e58, by kernel_rfl, by kernel_rfl⟩
def G59 : Cfg := ⟨[], [(0, [0]), (1, [2])], 5, []⟩
def r59 : List CRes := [.tmp 2]
def c59 : CCode :=
(.seq (.region [
 rs 2 (.move (.const (.bool false)))] (some [0]))
(.seq (.region [
 rs 3 (.move (.tmp 0)),
 ⟨(some 4), none, .call (.func 71) [(.tmp 3), (ci 0), (ci 11)]⟩,
 rs 2 (.move (.tmp 4))] (some [2]))
.ret))
theorem k59 : Try.f59.body.bind (compC Try.prog G59) = some c59 := by kernel_rfl
theorem e59 : compRes Try.prog Try.f59.results.toList = some r59 := by kernel_rfl
def F59 : FunX := ⟨false, G59, c59, r59⟩
theorem o59 : FunOk Try.prog 59 F59 := ⟨Try.f59, by kernel_rfl, k59, e59, by kernel_rfl, by kernel_rfl⟩
def G60 : Cfg := ⟨[6, 10], [(0, [0, 2, 4, 6]), (1, [0, 2, 4, 6, 17, 18, 19]), (2, [0, 2, 4, 6, 17, 18, 19, 20]), (3, [0, 2, 4, 6, 7, 8, 17, 18, 19]), (4, [0, 2, 4, 6, 17, 18, 19]), (5, [0, 2, 4, 6, 17, 18, 19]), (6, [0, 2, 4, 6, 36, 37, 38]), (7, [0, 2, 4, 6, 36, 37, 38, 39]), (8, [0, 2, 4, 6, 9, 10, 36, 37, 38]), (9, [0, 2, 4, 6, 9, 10, 11, 36, 37, 38]), (10, [0, 2, 4, 6, 9, 10, 36, 37, 38, 59]), (11, [0, 2, 4, 6, 10, 12, 36, 37, 38]), (12, [0, 2, 4, 6, 10, 12, 36, 37, 38]), (13, [0, 2, 4, 6, 36, 37, 38]), (14, [0, 2, 4, 6, 36, 37, 38]), (15, [6])], 87, []⟩
def r60 : List CRes := [.cell 6 (some 4)]
def c60 : CCode :=
(.seq (.region [
 rs 4 (.box false (.tmp 1)),
 rs 6 (.alloc [(.d (.int .i64 0)), (.d (.int .i64 0)), (.d (.int .i64 0)), (.d (.int .i64 0))])] (some [0, 2, 4, 6]))
(.seq (.seq (.region [
 rs 13 (.move (.tmp 0)),
 rs 14 (.nilCheck (.tmp 13)),
 rs 15 (.fieldAddr 0 (.tmp 14)),
 rs 16 (.fieldAddr 1 (.tmp 15)),
 rs 17 (.load none (.tmp 16)),
 rs 18 (.len (.tmp 17)),
 rs 19 (.move (ci 0))] (some [0, 2, 4, 6, 17, 18, 19]))
(.block 0 (.loop (.seq (.region [
 rs 20 (.bin .lss (.tmp 19) (.tmp 18))] (some [0, 2, 4, 6, 17, 18, 19, 20]))
 (.seq (.cond (.tmp 20)
 .skip
 (.exit 0))
 (.seq (.block 1 (.seq (.region [
 rs 21 (.move (.tmp 19)),
 rs 22 (.indexS 1 (.tmp 17) (.tmp 19)),
 rs 23 (.load none (.tmp 22)),
 rs 7 (.move (.tmp 21)),
 rs 8 (.move (.tmp 23))] (some [0, 2, 4, 6, 7, 8, 17, 18, 19]))
 (.region [
 rs 24 (.move (.tmp 7)),
 rs 25 (.move (.tmp 0)),
 rs 26 (.move (.tmp 8)),
 rs 27 (.move (.tmp 2)),
 ⟨(some 28), none, .simple (.build [(.d (.int .i64 0)), (.d (.int .i64 0))] [(0, 1, (ci (-1))), (1, 1, (.tmp 27))])⟩,
 ⟨(some 29), none, .call (.func 94) [(.tmp 25), (.tmp 26), (.tmp 28)]⟩,
 rs 30 (.indexA 4 1 (.tmp 6) (.tmp 24)),
 rn (.store 1 (.tmp 30) (.tmp 29))] (some [0, 2, 4, 6, 17, 18, 19]))))
 (.region [
 rs 31 (.bin .add (.tmp 19) (ci 1)),
 rs 19 (.move (.tmp 31))] (some [0, 2, 4, 6, 17, 18, 19]))))))))
(.seq (.seq (.region [
 rs 32 (.move (.tmp 0)),
 rs 33 (.nilCheck (.tmp 32)),
 rs 34 (.fieldAddr 0 (.tmp 33)),
 rs 35 (.fieldAddr 2 (.tmp 34)),
 rs 36 (.load none (.tmp 35)),
 rs 37 (.len (.tmp 36)),
 rs 38 (.move (ci 0))] (some [0, 2, 4, 6, 36, 37, 38]))
(.block 2 (.loop (.seq (.region [
 rs 39 (.bin .lss (.tmp 38) (.tmp 37))] (some [0, 2, 4, 6, 36, 37, 38, 39]))
 (.seq (.cond (.tmp 39)
 .skip
 (.exit 2))
 (.seq (.block 3 (.seq (.region [
 rs 40 (.move (.tmp 38)),
 rs 41 (.indexS 7 (.tmp 36) (.tmp 38)),
 rs 42 (.load (some 7) (.tmp 41)),
 rs 10 (.alloc [(.d (.int .i64 0)), (.d (.int .i64 0)), (.d (.int .i64 0)), (.d (.int .i64 0)), (.d (.int .i64 0)), (.d (.int .i64 0)), (.d (.int .i64 0))]),
 rs 9 (.move (.tmp 40)),
 rn (.store 7 (.tmp 10) (.tmp 42))] (some [0, 2, 4, 6, 9, 10, 36, 37, 38]))
 (.seq (.region [
 rs 43 (.move (.tmp 0)),
 rs 44 (.nilCheck (.tmp 43)),
 rs 45 (.fieldAddr 0 (.tmp 44)),
 rs 46 (.load (some 6) (.tmp 45)),
 rs 47 (.fieldAddr 1 (.tmp 4)),
 rs 48 (.load none (.tmp 47)),
 rs 49 (.move (.tmp 9)),
 rs 50 (.indexS 1 (.tmp 48) (.tmp 49)),
 rs 51 (.load none (.tmp 50)),
 ⟨(some 52), none, .call (.func 82) [(.tmp 46), (.tmp 51)]⟩,
 rs 11 (.move (.tmp 52))] (some [0, 2, 4, 6, 9, 10, 11, 36, 37, 38]))
 (.seq (.region [
 rs 53 (.move (.tmp 11)),
 ⟨(some 54), none, .simple (.bin .neq (.tmp 53) (ci (-1)))⟩,
 rs 55 (.move (.tmp 54)),
 rg 56 55 true (.move (.tmp 11)),
 rg 57 55 true (.move (.tmp 2)),
 rg 58 55 true (.bin .leq (.tmp 56) (.tmp 57)),
 rs 59 (.pick (.tmp 55) (.tmp 58) (.const (.bool false)))] (some [0, 2, 4, 6, 9, 10, 36, 37, 38, 59]))
 (.cond (.tmp 59)
 (.seq (.region [
 rs 60 (.move (.tmp 0)),
 rs 61 (.fieldAddr 2 (.tmp 10)),
 rs 62 (.load none (.tmp 61)),
 rs 63 (.fieldAddr 0 (.tmp 4)),
 rs 64 (.load none (.tmp 63)),
 rs 65 (.move (.tmp 9)),
 rs 66 (.indexS 1 (.tmp 64) (.tmp 65)),
 rs 67 (.load none (.tmp 66)),
 rs 68 (.move (.tmp 2)),
 rs 69 (.build [(.d (.int .i64 0)), (.d (.int .i64 0))] [(0, 1, (.tmp 67)), (1, 1, (.tmp 68))]),
 ⟨(some 70), none, .call (.func 94) [(.tmp 60), (.tmp 62), (.tmp 69)]⟩,
 rs 12 (.move (.tmp 70))] (some [0, 2, 4, 6, 10, 12, 36, 37, 38]))
 (.seq (.region [
 rs 71 (.fieldAddr 0 (.tmp 10)),
 rs 72 (.load none (.tmp 71)),
 rs 73 (.indexA 4 1 (.tmp 6) (.tmp 72)),
 rs 74 (.load none (.tmp 73)),
 rs 75 (.move (.tmp 12)),
 rs 76 (.bin .sub (.tmp 74) (.tmp 75)),
 rs 77 (.indexA 4 1 (.tmp 6) (.tmp 72)),
 rn (.store 1 (.tmp 77) (.tmp 76))] (some [0, 2, 4, 6, 10, 12, 36, 37, 38]))
 (.region [
 rs 78 (.fieldAddr 1 (.tmp 10)),
 rs 79 (.load none (.tmp 78)),
 rs 80 (.indexA 4 1 (.tmp 6) (.tmp 79)),
 rs 81 (.load none (.tmp 80)),
 rs 82 (.move (.tmp 12)),
 rs 83 (.bin .add (.tmp 81) (.tmp 82)),
 rs 84 (.indexA 4 1 (.tmp 6) (.tmp 79)),
 rn (.store 1 (.tmp 84) (.tmp 83))] (some [0, 2, 4, 6, 36, 37, 38]))))
 .skip)))))
 (.region [
 rs 85 (.bin .add (.tmp 38) (ci 1)),
 rs 38 (.move (.tmp 85))] (some [0, 2, 4, 6, 36, 37, 38]))))))))
(.seq (.region [
 rs 86 (.load (some 4) (.tmp 6)),
 rn (.store 4 (.tmp 6) (.tmp 86))] (some [6]))
.ret))))
theorem k60 : Try.f60.body.bind (compC Try.prog G60) = some c60 := by kernel_rfl
theorem e60 : compRes Try.prog Try.f60.results.toList = some r60 := by kernel_rfl
def F60 : FunX := ⟨false, G60, c60, r60⟩
theorem o60 : FunOk Try.prog 60 F60 := ⟨Try.f60, by kernel_rfl, k60, e60, by kernel_rfl, by kernel_rfl⟩
def G64 : Cfg := ⟨[32, 7], [(0, [0, 4, 5, 6]), (1, [0, 5, 6, 7]), (2, [5, 6, 20, 21, 22]), (3, [5, 6, 20, 21, 22, 23]), (4, [5, 6, 9, 20, 21, 22]), (5, [5, 6, 20, 21, 22]), (6, [5, 6, 20, 21, 22]), (7, [6])], 35, [(2, [(7, none)])]⟩
def r64 : List CRes := [.tmp 6]
def c64 : CCode :=
(.seq (.region [
 rs 4 (.box false (.tmp 1)),
 rs 5 (.box false (.tmp 2)),
 rs 6 (.move (.const (.slice none 0 0)))] (some [0, 4, 5, 6]))
(.seq (.region [
 rs 10 (.move (.tmp 0)),
 rs 11 (.load (some 2) (.tmp 4)),
 rs 12 (.fieldAddr 1 (.tmp 5)),
 rs 13 (.load none (.tmp 12)),
 ⟨(some 14), none, .call (.func 60) [(.tmp 10), (.tmp 11), (.tmp 13)]⟩,
 rs 7 (.alloc [(.d (.int .i64 0)), (.d (.int .i64 0)), (.d (.int .i64 0)), (.d (.int .i64 0))]),
 rn (.store 4 (.tmp 7) (.tmp 14))] (some [0, 5, 6, 7]))
(.seq (.seq (.seq (.frz (7, none))
(.region [
 rs 15 (.move (.tmp 0)),
 rs 16 (.nilCheck (.tmp 15)),
 rs 17 (.fieldAddr 0 (.tmp 16)),
 rs 18 (.fieldAddr 0 (.tmp 17)),
 rs 19 (.load none (.tmp 18)),
 rs 20 (.sliceA 4 1 (.tmp 7) none (some (.tmp 19))),
 rs 21 (.len (.tmp 20)),
 rs 22 (.move (ci 0))] (some [5, 6, 20, 21, 22])))
(.block 0 (.loop (.seq (.region [
 rs 23 (.bin .lss (.tmp 22) (.tmp 21))] (some [5, 6, 20, 21, 22, 23]))
 (.seq (.cond (.tmp 23)
 .skip
 (.exit 0))
 (.seq (.block 1 (.seq (.region [
 rs 24 (.indexS 1 (.tmp 20) (.tmp 22)),
 rs 25 (.load none (.tmp 24)),
 rs 9 (.move (.tmp 25))] (some [5, 6, 9, 20, 21, 22]))
 (.region [
 rs 26 (.move (.tmp 6)),
 rs 27 (.fieldAddr 2 (.tmp 5)),
 rs 28 (.load none (.tmp 27)),
 rs 29 (.move (.tmp 9)),
 rs 30 (.bin .mul (.tmp 28) (.tmp 29)),
 rs 31 (.bslice false 3 1 1 [(.int .i64 0)] [(0, (.tmp 30))]),
 ⟨(some 32), none, .app 3 1 8 (.tmp 26) (.tmp 31)⟩,
 rs 6 (.move (.tmp 32))] (some [5, 6, 20, 21, 22]))))
 (.region [
 rs 33 (.bin .add (.tmp 22) (ci 1)),
 rs 22 (.move (.tmp 33))] (some [5, 6, 20, 21, 22]))))))))
(.seq (.region [
 rs 34 (.move (.tmp 6)),
 rs 6 (.move (.tmp 34))] (some [6]))
.ret))))
theorem k64 : Try.f64.body.bind (compC Try.prog G64) = some c64 := by kernel_rfl
theorem e64 : compRes Try.prog Try.f64.results.toList = some r64 := by kernel_rfl
def F64 : FunX := ⟨true, G64, c64, r64⟩
theorem o64 : FunOk Try.prog 64 F64 := ⟨Try.f64, by kernel_rfl, k64, e64, by kernel_rfl, by kernel_rfl⟩
def G65 : Cfg := ⟨[], [(0, [3, 4, 5, 6]), (1, [3, 4, 5, 6, 10, 11]), (2, [3, 4, 5, 6, 10, 11, 19]), (3, [8, 9]), (4, [3, 4, 5, 6, 10, 27]), (5, [8, 9]), (6, [8, 9])], 38, []⟩
def r65 : List CRes := [.tmp 8, .tmp 9]
def c65 : CCode :=
(.seq (.region [
 rs 4 (.box false (.tmp 0)),
 rs 5 (.box false (.tmp 1)),
 rs 6 (.box false (.tmp 2)),
 rs 8 (.move (.const (.slice none 0 0))),
 rs 9 (.move (ci 0))] (some [3, 4, 5, 6]))
(.seq (.region [
 rs 13 (.load (some 6) (.tmp 5)),
 rs 14 (.load (some 2) (.tmp 6)),
 ⟨(some 15), none, .call (.func 58) [(.tmp 13), (.tmp 14)]⟩,
 rs 12 (.move (.tmp 15)),
 rs 16 (.extract (.tmp 12) 0),
 rs 17 (.extract (.tmp 12) 1),
 rs 10 (.move (.tmp 16)),
 rs 11 (.move (.tmp 17))] (some [3, 4, 5, 6, 10, 11]))
(.seq (.seq (.region [
 rs 18 (.move (.tmp 11)),
 rs 19 (.bin .neq (.tmp 18) (ci 0))] (some [3, 4, 5, 6, 10, 11, 19]))
(.cond (.tmp 19)
 (.seq (.region [
 rs 20 (.move (.tmp 11)),
 rs 8 (.move (.const (.slice none 0 0))),
 rs 9 (.move (.tmp 20))] (some [8, 9]))
 .ret)
 .skip))
(.seq (.seq (.region [
 rs 21 (.move (.tmp 3)),
 rs 22 (.fieldAddr 3 (.tmp 5)),
 rs 23 (.load none (.tmp 22)),
 rs 24 (.len (.tmp 23)),
 rs 25 (.bin .sub (.tmp 24) (ci 1)),
 ⟨(some 26), none, .call (.func 71) [(.tmp 21), (ci 0), (.tmp 25)]⟩,
 rs 27 (.un .not (.tmp 26))] (some [3, 4, 5, 6, 10, 27]))
(.cond (.tmp 27)
 (.seq (.region [
 rs 8 (.move (.const (.slice none 0 0))),
 rs 9 (.move (ci 2))] (some [8, 9]))
 .ret)
 .skip))
(.seq (.region [
 rs 28 (.fieldAddr 0 (.tmp 4)),
 rs 29 (.load none (.tmp 28)),
 rs 30 (.move (.tmp 10)),
 rs 31 (.load (some 2) (.tmp 6)),
 rs 32 (.fieldAddr 3 (.tmp 5)),
 rs 33 (.load none (.tmp 32)),
 rs 34 (.move (.tmp 3)),
 rs 35 (.indexS 3 (.tmp 33) (.tmp 34)),
 rs 36 (.load (some 3) (.tmp 35)),
 ⟨(some 37), none, .call (.tmp 29) [(.tmp 30), (.tmp 31), (.tmp 36)]⟩,
 rs 8 (.move (.tmp 37)),
 rs 9 (.move (ci 0))] (some [8, 9]))
.ret)))))
theorem k65 : Try.f65.body.bind (compC Try.prog G65) = some c65 := by kernel_rfl
theorem e65 : compRes Try.prog Try.f65.results.toList = some r65 := by kernel_rfl
def F65 : FunX := ⟨false, G65, c65, r65⟩
theorem o65 : FunOk Try.prog 65 F65 := ⟨Try.f65, by kernel_rfl, k65, e65, by kernel_rfl, by kernel_rfl⟩
def G66 : Cfg := ⟨[96, 8], [(0, [0, 4, 5, 6]), (1, [0, 4, 5, 6, 17, 18, 19]), (2, [0, 4, 5, 6, 17, 18, 19, 20]), (3, [0, 4, 5, 6, 7, 8, 17, 18, 19]), (4, [0, 4, 5, 6, 7, 8, 9, 17, 18, 19]), (5, [0, 4, 5, 6, 7, 8, 9, 10, 17, 18, 19]), (6, [0, 4, 5, 6, 7, 8, 9, 11, 12, 17, 18, 19]), (7, [0, 4, 5, 6, 7, 8, 9, 11, 12, 17, 18, 19, 50]), (9, [0, 4, 5, 6, 7, 8, 9, 17, 18, 19, 70]), (10, [0, 4, 5, 6, 9, 17, 18, 19]), (8, [0, 4, 5, 6, 9, 17, 18, 19]), (11, [0, 4, 5, 6, 17, 18, 19]), (12, [0, 4, 5, 6, 17, 18, 19]), (13, [6])], 99, []⟩
def r66 : List CRes := [.tmp 6]
def c66 : CCode :=
(.seq (.region [
 rs 4 (.box false (.tmp 1)),
 rs 5 (.box false (.tmp 2)),
 rs 6 (.move (.const (.slice none 0 0)))] (some [0, 4, 5, 6]))
(.seq (.seq (.region [
 rs 13 (.move (.tmp 0)),
 rs 14 (.nilCheck (.tmp 13)),
 rs 15 (.fieldAddr 0 (.tmp 14)),
 rs 16 (.fieldAddr 2 (.tmp 15)),
 rs 17 (.load none (.tmp 16)),
 rs 18 (.len (.tmp 17)),
 rs 19 (.move (ci 0))] (some [0, 4, 5, 6, 17, 18, 19]))
(.block 0 (.loop (.seq (.region [
 rs 20 (.bin .lss (.tmp 19) (.tmp 18))] (some [0, 4, 5, 6, 17, 18, 19, 20]))
 (.seq (.cond (.tmp 20)
 .skip
 (.exit 0))
 (.seq (.block 1 (.seq (.region [
 rs 21 (.move (.tmp 19)),
 rs 22 (.indexS 7 (.tmp 17) (.tmp 19)),
 rs 23 (.load (some 7) (.tmp 22)),
 rs 8 (.alloc [(.d (.int .i64 0)), (.d (.int .i64 0)), (.d (.int .i64 0)), (.d (.int .i64 0)), (.d (.int .i64 0)), (.d (.int .i64 0)), (.d (.int .i64 0))]),
 rs 7 (.move (.tmp 21)),
 rn (.store 7 (.tmp 8) (.tmp 23))] (some [0, 4, 5, 6, 7, 8, 17, 18, 19]))
 (.seq (.region [
 rs 9 (.move (ci 0))] (some [0, 4, 5, 6, 7, 8, 9, 17, 18, 19]))
 (.seq (.region [
 rs 24 (.move (.tmp 0)),
 rs 25 (.nilCheck (.tmp 24)),
 rs 26 (.fieldAddr 0 (.tmp 25)),
 rs 27 (.load (some 6) (.tmp 26)),
 rs 28 (.fieldAddr 1 (.tmp 4)),
 rs 29 (.load none (.tmp 28)),
 rs 30 (.move (.tmp 7)),
 rs 31 (.indexS 1 (.tmp 29) (.tmp 30)),
 rs 32 (.load none (.tmp 31)),
 ⟨(some 33), none, .call (.func 82) [(.tmp 27), (.tmp 32)]⟩,
 rs 10 (.move (.tmp 33))] (some [0, 4, 5, 6, 7, 8, 9, 10, 17, 18, 19]))
 (.seq (.region [
 rs 34 (.fieldAddr 0 (.tmp 4)),
 rs 35 (.load none (.tmp 34)),
 rs 36 (.move (.tmp 7)),
 rs 37 (.indexS 1 (.tmp 35) (.tmp 36)),
 rs 38 (.load none (.tmp 37)),
 rs 39 (.fieldAddr 0 (.tmp 5)),
 rs 40 (.load none (.tmp 39)),
 rs 41 (.bin .lss (.tmp 38) (.tmp 40)),
 rs 42 (.move (.tmp 10)),
 ⟨(some 43), none, .simple (.bin .eql (.tmp 42) (ci (-1)))⟩,
 rs 44 (.move (.tmp 43)),
 rg 45 44 false (.move (.tmp 10)),
 rg 46 44 false (.fieldAddr 1 (.tmp 5)),
 rg 47 44 false (.load none (.tmp 46)),
 rg 48 44 false (.bin .gtr (.tmp 45) (.tmp 47)),
 rs 49 (.pick (.tmp 44) (.const (.bool true)) (.tmp 48)),
 rs 11 (.move (.tmp 41)),
 rs 12 (.move (.tmp 49))] (some [0, 4, 5, 6, 7, 8, 9, 11, 12, 17, 18, 19]))
 (.seq (.block 2 (.seq (.region [
 rs 51 (.move (.tmp 11)),
 rs 52 (.move (.tmp 51)),
 rg 53 52 true (.move (.tmp 12)),
 rs 54 (.pick (.tmp 52) (.tmp 53) (.const (.bool false))),
 rs 50 (.move (.tmp 54))] (some [0, 4, 5, 6, 7, 8, 9, 11, 12, 17, 18, 19, 50]))
 (.cond (.tmp 50)
 (.region [
 rs 55 (.fieldAddr 2 (.tmp 5)),
 rs 56 (.load none (.tmp 55)),
 rs 57 (.move (.tmp 0)),
 rs 58 (.fieldAddr 2 (.tmp 8)),
 rs 59 (.load none (.tmp 58)),
 rs 60 (.fieldAddr 0 (.tmp 4)),
 rs 61 (.load none (.tmp 60)),
 rs 62 (.move (.tmp 7)),
 rs 63 (.indexS 1 (.tmp 61) (.tmp 62)),
 rs 64 (.load none (.tmp 63)),
 rs 65 (.fieldAddr 1 (.tmp 5)),
 rs 66 (.load none (.tmp 65)),
 rs 67 (.build [(.d (.int .i64 0)), (.d (.int .i64 0))] [(0, 1, (.tmp 64)), (1, 1, (.tmp 66))]),
 ⟨(some 68), none, .callx (.func 94) [(.tmp 57), (.tmp 59), (.tmp 67)]⟩,
 rs 69 (.bin .mul (.tmp 56) (.tmp 68)),
 rs 9 (.move (.tmp 69))] (some [0, 4, 5, 6, 9, 17, 18, 19]))
 (.seq (.region [
 rs 71 (.move (.tmp 11)),
 rs 72 (.un .not (.tmp 71)),
 rs 73 (.move (.tmp 72)),
 rg 74 73 true (.move (.tmp 12)),
 rg 75 73 true (.un .not (.tmp 74)),
 rs 76 (.pick (.tmp 73) (.tmp 75) (.const (.bool false))),
 rs 70 (.move (.tmp 76))] (some [0, 4, 5, 6, 7, 8, 9, 17, 18, 19, 70]))
 (.cond (.tmp 70)
 (.region [
 rs 77 (.fieldAddr 2 (.tmp 5)),
 rs 78 (.load none (.tmp 77)),
 rs 79 (.un .neg (.tmp 78)),
 rs 80 (.move (.tmp 0)),
 rs 81 (.fieldAddr 2 (.tmp 8)),
 rs 82 (.load none (.tmp 81)),
 rs 83 (.fieldAddr 0 (.tmp 4)),
 rs 84 (.load none (.tmp 83)),
 rs 85 (.move (.tmp 7)),
 rs 86 (.indexS 1 (.tmp 84) (.tmp 85)),
 rs 87 (.load none (.tmp 86)),
 rs 88 (.fieldAddr 1 (.tmp 5)),
 rs 89 (.load none (.tmp 88)),
 rs 90 (.build [(.d (.int .i64 0)), (.d (.int .i64 0))] [(0, 1, (.tmp 87)), (1, 1, (.tmp 89))]),
 ⟨(some 91), none, .callx (.func 94) [(.tmp 80), (.tmp 82), (.tmp 90)]⟩,
 rs 92 (.bin .mul (.tmp 79) (.tmp 91)),
 rs 9 (.move (.tmp 92))] (some [0, 4, 5, 6, 9, 17, 18, 19]))
 .skip)))))
 (.region [
 rs 93 (.move (.tmp 6)),
 rs 94 (.move (.tmp 9)),
 rs 95 (.bslice false 3 1 1 [(.int .i64 0)] [(0, (.tmp 94))]),
 ⟨(some 96), none, .app 3 1 8 (.tmp 93) (.tmp 95)⟩,
 rs 6 (.move (.tmp 96))] (some [0, 4, 5, 6, 17, 18, 19]))))))))
 (.region [
 rs 97 (.bin .add (.tmp 19) (ci 1)),
 rs 19 (.move (.tmp 97))] (some [0, 4, 5, 6, 17, 18, 19]))))))))
(.seq (.region [
 rs 98 (.move (.tmp 6)),
 rs 6 (.move (.tmp 98))] (some [6]))
.ret)))
theorem k66 : Try.f66.body.bind (compC Try.prog G66) = some c66 := by kernel_rfl
theorem e66 : compRes Try.prog Try.f66.results.toList = some r66 := by kernel_rfl
def F66 : FunX := ⟨false, G66, c66, r66⟩
theorem o66 : FunOk Try.prog 66 F66 := ⟨Try.f66, by kernel_rfl, k66, e66, by kernel_rfl, by kernel_rfl⟩
def G67 : Cfg := ⟨[], [(0, [0, 4, 5]), (1, [0, 4, 5, 7]), (2, [0, 7, 17, 18, 19]), (3, [0, 7, 17, 18, 19, 20]), (4, [0, 7, 8, 9, 17, 18, 19]), (5, [0, 7, 8, 9, 17, 18, 19]), (6, [0, 7, 17, 18, 19]), (7, [0, 7, 17, 18, 19]), (8, [6])], 56, []⟩
def r67 : List CRes := [.tmp 6]
def c67 : CCode :=
(.seq (.region [
 rs 4 (.box false (.tmp 1)),
 rs 5 (.box false (.tmp 2)),
 rs 6 (.move (.const (.slice none 0 0)))] (some [0, 4, 5]))
(.seq (.region [
 rs 10 (.move (.tmp 0)),
 rs 11 (.load (some 2) (.tmp 4)),
 rs 12 (.load (some 3) (.tmp 5)),
 ⟨(some 13), none, .call (.func 64) [(.tmp 10), (.tmp 11), (.tmp 12)]⟩,
 rs 7 (.move (.tmp 13))] (some [0, 4, 5, 7]))
(.seq (.seq (.region [
 rs 14 (.move (.tmp 0)),
 rs 15 (.load (some 2) (.tmp 4)),
 rs 16 (.load (some 3) (.tmp 5)),
 ⟨(some 17), none, .call (.func 66) [(.tmp 14), (.tmp 15), (.tmp 16)]⟩,
 rs 18 (.len (.tmp 17)),
 rs 19 (.move (ci 0))] (some [0, 7, 17, 18, 19]))
(.block 0 (.loop (.seq (.region [
 rs 20 (.bin .lss (.tmp 19) (.tmp 18))] (some [0, 7, 17, 18, 19, 20]))
 (.seq (.cond (.tmp 20)
 .skip
 (.exit 0))
 (.seq (.block 1 (.seq (.region [
 rs 21 (.move (.tmp 19)),
 rs 22 (.indexS 1 (.tmp 17) (.tmp 19)),
 rs 23 (.load none (.tmp 22)),
 rs 8 (.move (.tmp 21)),
 rs 9 (.move (.tmp 23))] (some [0, 7, 8, 9, 17, 18, 19]))
 (.seq (.region [
 rs 24 (.move (.tmp 7)),
 rs 25 (.move (.tmp 0)),
 rs 26 (.nilCheck (.tmp 25)),
 rs 27 (.fieldAddr 0 (.tmp 26)),
 rs 28 (.fieldAddr 2 (.tmp 27)),
 rs 29 (.load none (.tmp 28)),
 rs 30 (.move (.tmp 8)),
 rs 31 (.indexS 7 (.tmp 29) (.tmp 30)),
 rs 32 (.fieldAddr 0 (.tmp 31)),
 rs 33 (.load none (.tmp 32)),
 rs 34 (.indexS 1 (.tmp 24) (.tmp 33)),
 rs 35 (.load none (.tmp 34)),
 rs 36 (.move (.tmp 9)),
 rs 37 (.bin .sub (.tmp 35) (.tmp 36)),
 rs 38 (.indexS 1 (.tmp 24) (.tmp 33)),
 rn (.store 1 (.tmp 38) (.tmp 37))] (some [0, 7, 8, 9, 17, 18, 19]))
 (.region [
 rs 39 (.move (.tmp 7)),
 rs 40 (.move (.tmp 0)),
 rs 41 (.nilCheck (.tmp 40)),
 rs 42 (.fieldAddr 0 (.tmp 41)),
 rs 43 (.fieldAddr 2 (.tmp 42)),
 rs 44 (.load none (.tmp 43)),
 rs 45 (.move (.tmp 8)),
 rs 46 (.indexS 7 (.tmp 44) (.tmp 45)),
 rs 47 (.fieldAddr 1 (.tmp 46)),
 rs 48 (.load none (.tmp 47)),
 rs 49 (.indexS 1 (.tmp 39) (.tmp 48)),
 rs 50 (.load none (.tmp 49)),
 rs 51 (.move (.tmp 9)),
 rs 52 (.bin .add (.tmp 50) (.tmp 51)),
 rs 53 (.indexS 1 (.tmp 39) (.tmp 48)),
 rn (.store 1 (.tmp 53) (.tmp 52))] (some [0, 7, 17, 18, 19])))))
 (.region [
 rs 54 (.bin .add (.tmp 19) (ci 1)),
 rs 19 (.move (.tmp 54))] (some [0, 7, 17, 18, 19]))))))))
(.seq (.region [
 rs 55 (.move (.tmp 7)),
 rs 6 (.move (.tmp 55))] (some [6]))
.ret))))
theorem k67 : Try.f67.body.bind (compC Try.prog G67) = some c67 := by kernel_rfl
theorem e67 : compRes Try.prog Try.f67.results.toList = some r67 := by kernel_rfl
def F67 : FunX := ⟨false, G67, c67, r67⟩
theorem o67 : FunOk Try.prog 67 F67 := ⟨Try.f67, by kernel_rfl, k67, e67, by kernel_rfl, by kernel_rfl⟩
def G68 : Cfg := ⟨[], [(0, [0, 1]), (1, [0, 1, 5]), (2, [0, 1, 5, 15]), (4, [0, 1, 5, 26]), (5, [4]), (3, [0, 1, 5]), (6, [4])], 41, []⟩
def r68 : List CRes := [.tmp 4]
def c68 : CCode :=
(.seq (.region [
 rs 4 (.move (.const (.bool false)))] (some [0, 1]))
(.seq (.seq (.region [
 rs 5 (.move (ci 0))] (some [0, 1, 5]))
(.block 0 (.loop (.seq (.seq (.region [
 rs 6 (.move (.tmp 5)),
 rs 7 (.move (.tmp 0)),
 rs 8 (.len (.tmp 7)),
 rs 9 (.bin .lss (.tmp 6) (.tmp 8)),
 rs 10 (.move (.tmp 9)),
 rg 11 10 true (.move (.tmp 5)),
 rg 12 10 true (.move (.tmp 1)),
 rg 13 10 true (.len (.tmp 12)),
 rg 14 10 true (.bin .lss (.tmp 11) (.tmp 13)),
 rs 15 (.pick (.tmp 10) (.tmp 14) (.const (.bool false)))] (some [0, 1, 5, 15]))
 (.cond (.tmp 15)
 .skip
 (.exit 0)))
 (.seq (.block 1 (.seq (.region [
 rs 18 (.move (.tmp 0)),
 rs 19 (.move (.tmp 5)),
 rs 20 (.indexS 1 (.tmp 18) (.tmp 19)),
 rs 21 (.load none (.tmp 20)),
 rs 22 (.move (.tmp 1)),
 rs 23 (.move (.tmp 5)),
 rs 24 (.indexS 1 (.tmp 22) (.tmp 23)),
 rs 25 (.load none (.tmp 24)),
 rs 26 (.bin .neq (.tmp 21) (.tmp 25))] (some [0, 1, 5, 26]))
 (.cond (.tmp 26)
 (.seq (.region [
 rs 27 (.move (.tmp 0)),
 rs 28 (.move (.tmp 5)),
 rs 29 (.indexS 1 (.tmp 27) (.tmp 28)),
 rs 30 (.load none (.tmp 29)),
 rs 31 (.move (.tmp 1)),
 rs 32 (.move (.tmp 5)),
 rs 33 (.indexS 1 (.tmp 31) (.tmp 32)),
 rs 34 (.load none (.tmp 33)),
 rs 35 (.bin .lss (.tmp 30) (.tmp 34)),
 rs 4 (.move (.tmp 35))] (some [4]))
 .ret)
 .skip)))
 (.region [
 rs 16 (.move (.tmp 5)),
 rs 17 (.bin .add (.tmp 16) (ci 1)),
 rs 5 (.move (.tmp 17))] (some [0, 1, 5])))))))
(.seq (.region [
 rs 36 (.move (.tmp 0)),
 rs 37 (.len (.tmp 36)),
 rs 38 (.move (.tmp 1)),
 rs 39 (.len (.tmp 38)),
 rs 40 (.bin .lss (.tmp 37) (.tmp 39)),
 rs 4 (.move (.tmp 40))] (some [4]))
.ret)))
theorem k68 : Try.f68.body.bind (compC Try.prog G68) = some c68 := by kernel_rfl
theorem e68 : compRes Try.prog Try.f68.results.toList = some r68 := by kernel_rfl
def F68 : FunX := ⟨false, G68, c68, r68⟩
theorem o68 : FunOk Try.prog 68 F68 := ⟨Try.f68, by kernel_rfl, k68, e68, by kernel_rfl, by kernel_rfl⟩
def G71 : Cfg := ⟨[], [(0, [0, 1, 2]), (1, [6])], 15, []⟩
def r71 : List CRes := [.tmp 6]
def c71 : CCode :=
(.seq (.region [
 rs 6 (.move (.const (.bool false)))] (some [0, 1, 2]))
(.seq (.region [
 rs 7 (.move (.tmp 1)),
 rs 8 (.move (.tmp 0)),
 rs 9 (.bin .leq (.tmp 7) (.tmp 8)),
 rs 10 (.move (.tmp 9)),
 rg 11 10 true (.move (.tmp 0)),
 rg 12 10 true (.move (.tmp 2)),
 rg 13 10 true (.bin .leq (.tmp 11) (.tmp 12)),
 rs 14 (.pick (.tmp 10) (.tmp 13) (.const (.bool false))),
 rs 6 (.move (.tmp 14))] (some [6]))
.ret))
theorem k71 : Try.f71.body.bind (compC Try.prog G71) = some c71 := by kernel_rfl
theorem e71 : compRes Try.prog Try.f71.results.toList = some r71 := by kernel_rfl
def F71 : FunX := ⟨false, G71, c71, r71⟩
theorem o71 : FunOk Try.prog 71 F71 := ⟨Try.f71, by kernel_rfl, k71, e71, by kernel_rfl, by kernel_rfl⟩
def G72 : Cfg := ⟨[6], [(0, [1]), (1, [2])], 7, []⟩
def r72 : List CRes := [.tmp 2]
def c72 : CCode :=
(.seq (.region [
 rs 1 (.box false (.tmp 0)),
 rs 2 (.move (.const (.pointer none)))] (some [1]))
(.seq (.region [
 rs 3 (.load (some 6) (.tmp 1)),
 rs 4 (.mkmap),
 rs 5 (.build [(.d (.int .i64 0)), (.d .nils), (.d .nils), (.d .nils), (.d .nils), (.d .nils), (.d .any)] [(0, 6, (.tmp 3)), (6, 1, (.tmp 4))]),
 rs 6 (.box true (.tmp 5)),
 rs 2 (.move (.tmp 6))] (some [2]))
.ret))
theorem k72 : Try.f72.body.bind (compC Try.prog G72) = some c72 := by kernel_rfl
theorem e72 : compRes Try.prog Try.f72.results.toList = some r72 := by kernel_rfl
def F72 : FunX := ⟨false, G72, c72, r72⟩
theorem o72 : FunOk Try.prog 72 F72 := ⟨Try.f72, by kernel_rfl, k72, e72, by kernel_rfl, by kernel_rfl⟩
def G73 : Cfg := ⟨[3, 33, 8, 6, 7], [(0, [3, 4, 5, 6, 7, 13]), (1, [3, 4, 5, 6, 7, 12, 13]), (2, [3, 4, 5, 6, 7, 8]), (3, [6, 7, 19, 20, 21]), (4, [6, 7, 19, 20, 21, 22]), (5, [6, 7, 9, 10, 19, 20, 21]), (6, [6, 7, 9, 10, 19, 20, 21, 27]), (7, [6, 7, 9, 10, 19, 20, 21]), (8, [6, 7, 19, 20, 21]), (9, [6, 7, 19, 20, 21]), (10, []), (11, [6, 7])], 56, []⟩
def r73 : List CRes := [.cell 6 none, .cell 7 none]
def c73 : CCode :=
(.seq (.region [
 rs 3 (.box true (.tmp 0)),
 rs 4 (.box false (.tmp 1)),
 rs 5 (.box false (.tmp 2)),
 rs 6 (.alloc [(.d .nils)]),
 rs 7 (.alloc [(.d (.bool false))])] (some [3, 4, 5, 6, 7, 13]))
(.seq (.seq (.region [
 rs 11 (.load none (.tmp 3)),
 ⟨(some 12), none, .call (.func 95) [(.tmp 11)]⟩] (some [3, 4, 5, 6, 7, 12, 13]))
(.block 0 (.rangeF (.tmp 12) [13]
 (.region [
 rs 8 (.alloc [(.d .nils), (.d .nils)]),
 rn (.store 2 (.tmp 8) (.tmp 13))] (some [3, 4, 5, 6, 7, 8]))
 (.block 1 (.seq (.seq (.region [
 rs 14 (.fieldAddr 0 (.tmp 4)),
 rs 15 (.load none (.tmp 14)),
 rs 16 (.load none (.tmp 3)),
 rs 17 (.load (some 2) (.tmp 8)),
 rs 18 (.load (some 3) (.tmp 5)),
 ⟨(some 19), none, .call (.tmp 15) [(.tmp 16), (.tmp 17), (.tmp 18)]⟩,
 rs 20 (.len (.tmp 19)),
 rs 21 (.move (ci 0))] (some [6, 7, 19, 20, 21]))
 (.block 2 (.loop (.seq (.region [
 rs 22 (.bin .lss (.tmp 21) (.tmp 20))] (some [6, 7, 19, 20, 21, 22]))
 (.seq (.cond (.tmp 22)
 .skip
 (.exit 2))
 (.seq (.block 3 (.seq (.region [
 rs 23 (.move (.tmp 21)),
 rs 24 (.indexS 1 (.tmp 19) (.tmp 21)),
 rs 25 (.load none (.tmp 24)),
 rs 9 (.move (.tmp 23)),
 rs 10 (.move (.tmp 25))] (some [6, 7, 9, 10, 19, 20, 21]))
 (.seq (.seq (.region [
 rs 26 (.load none (.tmp 7)),
 rs 27 (.un .not (.tmp 26))] (some [6, 7, 9, 10, 19, 20, 21, 27]))
 (.cond (.tmp 27)
 (.region [
 rs 28 (.load none (.tmp 6)),
 rs 29 (.move (.tmp 10)),
 rs 30 (.move (.tmp 10)),
 rs 31 (.build [(.d (.int .i64 0)), (.d (.int .i64 0))] [(0, 1, (.tmp 29)), (1, 1, (.tmp 30))]),
 rs 32 (.bslice false 71 2 1 [(.int .i64 0), (.int .i64 0)] [(0, (.tmp 31))]),
 ⟨(some 33), none, .app 71 2 16 (.tmp 28) (.tmp 32)⟩,
 rn (.store 1 (.tmp 6) (.tmp 33))] (some [6, 7, 9, 10, 19, 20, 21]))
 .skip))
 (.region [
 rs 34 (.load none (.tmp 6)),
 rs 35 (.move (.tmp 9)),
 rs 36 (.load none (.tmp 6)),
 rs 37 (.move (.tmp 9)),
 rs 38 (.indexS 2 (.tmp 36) (.tmp 37)),
 rs 39 (.fieldAddr 0 (.tmp 38)),
 rs 40 (.load none (.tmp 39)),
 rs 41 (.move (.tmp 10)),
 rs 42 (.bslice false 3 1 2 [(.int .i64 0), (.int .i64 0)] [(0, (.tmp 40)), (1, (.tmp 41))]),
 rs 44 (.load none (.tmp 6)),
 rs 45 (.move (.tmp 9)),
 rs 46 (.indexS 2 (.tmp 44) (.tmp 45)),
 rs 47 (.fieldAddr 1 (.tmp 46)),
 rs 48 (.load none (.tmp 47)),
 rs 49 (.move (.tmp 10)),
 rs 50 (.max [(.tmp 48), (.tmp 49)]),
 ⟨(some 43), none, .callx (.func 96) [(.tmp 42)]⟩,
 rs 51 (.build [(.d (.int .i64 0)), (.d (.int .i64 0))] [(0, 1, (.tmp 43)), (1, 1, (.tmp 50))]),
 rs 52 (.indexS 2 (.tmp 34) (.tmp 35)),
 rn (.store 2 (.tmp 52) (.tmp 51))] (some [6, 7, 19, 20, 21])))))
 (.region [
 rs 53 (.bin .add (.tmp 21) (ci 1)),
 rs 21 (.move (.tmp 53))] (some [6, 7, 19, 20, 21]))))))))
 (.region [
 rn (.store 1 (.tmp 7) (.const (.bool true)))] (some [])))))))
(.seq (.seq (.region [
 rs 54 (.load none (.tmp 6))] none)
(.both (.region [
 rs 55 (.load none (.tmp 7)),
 rn (.store 1 (.tmp 6) (.tmp 54)),
 rn (.store 1 (.tmp 7) (.tmp 55))] (some [6, 7]))
 (.region [
 rn (.store 1 (.tmp 6) (.tmp 54)),
 rs 55 (.load none (.tmp 7)),
 rn (.store 1 (.tmp 7) (.tmp 55))] (some [6, 7]))))
.ret)))
theorem k73 : Try.f73.body.bind (compC Try.prog G73) = some c73 := by kernel_rfl
theorem e73 : compRes Try.prog Try.f73.results.toList = some r73 := by kernel_rfl
def F73 : FunX := ⟨false, G73, c73, r73⟩
theorem o73 : FunOk Try.prog 73 F73 := ⟨Try.f73, by kernel_rfl, k73, e73, by kernel_rfl, by kernel_rfl⟩
end Go.Proofs.Ytdnefcjbcieecaa
namespace Go.Proofs.Ytdnefcjbcieecaa
open Go Go.Proofs
def G75 : Cfg := ⟨[53, 34, 10, 12], [(0, [0, 1, 2, 3, 4, 5]), (1, [0, 1, 2, 3, 4, 5, 15]), (2, [0, 3, 4, 10]), (3, [0, 3, 4, 10]), (4, [0, 4, 10, 19, 20, 21]), (5, [0, 4, 10, 19, 20, 21, 22]), (6, [0, 4, 10, 11, 12, 19, 20, 21]), (7, [0, 4, 10, 12, 19, 20, 21, 29]), (8, [0, 4, 10, 19, 20, 21]), (9, [0, 4, 10, 19, 20, 21]), (10, [10]), (11, [9]), (12, [0, 2, 3, 5, 13]), (13, [0, 2, 3, 5, 13, 45]), (15, [0, 2, 3, 5, 13, 58]), (16, [9]), (14, [0, 2, 3, 5, 13]), (17, [9])], 59, [(10, [(10, (some 2))])]⟩
def r75 : List CRes := [.tmp 9]
def c75 : CCode :=
(.seq (.region [
 rs 9 (.move (.const (.bool false)))] (some [0, 1, 2, 3, 4, 5]))
(.seq (.seq (.region [
 rs 14 (.move (.tmp 2)),
 rs 15 (.bin .eql (.tmp 14) (ci 0))] (some [0, 1, 2, 3, 4, 5, 15]))
(.cond (.tmp 15)
 (.seq (.region [
 rs 16 (.load (some 6) (.tmp 3)),
 rs 10 (.alloc [(.d (.int .i64 0)), (.d .nils), (.d .nils), (.d .nils), (.d .nils), (.d .nils)]),
 rn (.store 6 (.tmp 10) (.tmp 16))] (some [0, 3, 4, 10]))
 (.seq (.region [
 rs 17 (.fieldAddr 2 (.tmp 10)),
 rn (.store 1 (.tmp 17) (.const (.slice none 0 0)))] (some [0, 3, 4, 10]))
 (.seq (.seq (.region [
 rs 18 (.fieldAddr 2 (.tmp 3)),
 rs 19 (.load none (.tmp 18)),
 rs 20 (.len (.tmp 19)),
 rs 21 (.move (ci 0))] (some [0, 4, 10, 19, 20, 21]))
 (.block 0 (.loop (.seq (.region [
 rs 22 (.bin .lss (.tmp 21) (.tmp 20))] (some [0, 4, 10, 19, 20, 21, 22]))
 (.seq (.cond (.tmp 22)
 .skip
 (.exit 0))
 (.seq (.block 1 (.seq (.region [
 rs 23 (.move (.tmp 21)),
 rs 24 (.indexS 7 (.tmp 19) (.tmp 21)),
 rs 25 (.load (some 7) (.tmp 24)),
 rs 12 (.alloc [(.d (.int .i64 0)), (.d (.int .i64 0)), (.d (.int .i64 0)), (.d (.int .i64 0)), (.d (.int .i64 0)), (.d (.int .i64 0)), (.d (.int .i64 0))]),
 rs 11 (.move (.tmp 23)),
 rn (.store 7 (.tmp 12) (.tmp 25))] (some [0, 4, 10, 11, 12, 19, 20, 21]))
 (.seq (.region [
 rs 26 (.move (.tmp 0)),
 rs 27 (.move (.tmp 11)),
 ⟨(some 28), none, .call (.func 76) [(.tmp 26), (.tmp 27)]⟩,
 rs 29 (.un .not (.tmp 28))] (some [0, 4, 10, 12, 19, 20, 21, 29]))
 (.cond (.tmp 29)
 (.region [
 rs 30 (.fieldAddr 2 (.tmp 10)),
 rs 31 (.load none (.tmp 30)),
 rs 32 (.load (some 7) (.tmp 12)),
 rs 33 (.bslice false 93 7 1 [(.int .i64 0), (.int .i64 0), (.int .i64 0), (.int .i64 0), (.int .i64 0), (.int .i64 0), (.int .i64 0)] [(0, (.tmp 32))]),
 ⟨(some 34), none, .app 93 7 56 (.tmp 31) (.tmp 33)⟩,
 rs 35 (.fieldAddr 2 (.tmp 10)),
 rn (.store 1 (.tmp 35) (.tmp 34))] (some [0, 4, 10, 19, 20, 21]))
 .skip))))
 (.region [
 rs 36 (.bin .add (.tmp 21) (ci 1)),
 rs 21 (.move (.tmp 36))] (some [0, 4, 10, 19, 20, 21]))))))))
 (.seq (.seq (.frz (10, (some 2)))
 (.region [
 rs 37 (.move (.tmp 0)),
 rn (.store 1 (.tmp 4) (.tmp 37))] (some [10])))
 (.seq (.region [
 rs 38 (.load (some 6) (.tmp 10)),
 ⟨(some 39), none, .call (.func 77) [(.tmp 38)]⟩,
 rs 9 (.move (.tmp 39))] (some [9]))
 .ret)))))
 .skip))
(.seq (.seq (.region [
 rs 40 (.move (.tmp 1)),
 rs 13 (.move (.tmp 40))] (some [0, 2, 3, 5, 13]))
(.block 2 (.loop (.seq (.seq (.region [
 rs 41 (.move (.tmp 13)),
 rs 42 (.fieldAddr 2 (.tmp 3)),
 rs 43 (.load none (.tmp 42)),
 rs 44 (.len (.tmp 43)),
 rs 45 (.bin .lss (.tmp 41) (.tmp 44))] (some [0, 2, 3, 5, 13, 45]))
 (.cond (.tmp 45)
 .skip
 (.exit 2)))
 (.seq (.block 3 (.seq (.seq (.region [
 rs 49 (.move (.tmp 0)),
 rs 51 (.move (.tmp 13)),
 rs 52 (.bslice false 3 1 1 [(.int .i64 0)] [(0, (.tmp 51))]),
 rs 54 (.move (.tmp 13)),
 rs 55 (.bin .add (.tmp 54) (ci 1)),
 rs 56 (.move (.tmp 2)),
 rs 57 (.bin .sub (.tmp 56) (ci 1))] none)
 (.both (.region [
 rs 48 (.load none (.tmp 5)),
 ⟨(some 50), none, .callx (.func 78) [(.tmp 49)]⟩,
 ⟨(some 53), none, .app 3 1 8 (.tmp 50) (.tmp 52)⟩,
 ⟨(some 58), none, .call (.tmp 48) [(.tmp 53), (.tmp 55), (.tmp 57)]⟩] (some [0, 2, 3, 5, 13, 58]))
 (.seq (.region [
 ⟨(some 50), none, .callx (.func 78) [(.tmp 49)]⟩] none)
 (.both (.region [
 rs 48 (.load none (.tmp 5)),
 ⟨(some 53), none, .app 3 1 8 (.tmp 50) (.tmp 52)⟩,
 ⟨(some 58), none, .call (.tmp 48) [(.tmp 53), (.tmp 55), (.tmp 57)]⟩] (some [0, 2, 3, 5, 13, 58]))
 (.region [
 ⟨(some 53), none, .app 3 1 8 (.tmp 50) (.tmp 52)⟩,
 rs 48 (.load none (.tmp 5)),
 ⟨(some 58), none, .call (.tmp 48) [(.tmp 53), (.tmp 55), (.tmp 57)]⟩] (some [0, 2, 3, 5, 13, 58]))))))
 (.cond (.tmp 58)
 (.seq (.region [
 rs 9 (.move (.const (.bool true)))] (some [9]))
 .ret)
 .skip)))
 (.region [
 rs 46 (.move (.tmp 13)),
 rs 47 (.bin .add (.tmp 46) (ci 1)),
 rs 13 (.move (.tmp 47))] (some [0, 2, 3, 5, 13])))))))
(.seq (.region [
 rs 9 (.move (.const (.bool false)))] (some [9]))
.ret))))
theorem k75 : Try.f75.body.bind (compC Try.prog G75) = some c75 := by kernel_rfl
theorem e75 : compRes Try.prog Try.f75.results.toList = some r75 := by kernel_rfl
def F75 : FunX := ⟨false, G75, c75, r75⟩
theorem o75 : FunOk Try.prog 75 F75 := ⟨Try.f75, by kernel_rfl, k75, e75, by kernel_rfl, by kernel_rfl⟩
def G76 : Cfg := ⟨[], [(0, [0, 1]), (1, [4])], 9, []⟩
def r76 : List CRes := [.tmp 4]
def c76 : CCode :=
(.seq (.region [
 rs 4 (.move (.const (.bool false)))] (some [0, 1]))
(.seq (.region [
 rs 5 (.move (.tmp 0)),
 rs 6 (.move (.tmp 1)),
 ⟨(some 7), none, .call (.func 97) [(.tmp 5), (.tmp 6)]⟩,
 rs 8 (.bin .geq (.tmp 7) (ci 0)),
 rs 4 (.move (.tmp 8))] (some [4]))
.ret))
theorem k76 : Try.f76.body.bind (compC Try.prog G76) = some c76 := by kernel_rfl
theorem e76 : compRes Try.prog Try.f76.results.toList = some r76 := by kernel_rfl
def F76 : FunX := ⟨false, G76, c76, r76⟩
theorem o76 : FunOk Try.prog 76 F76 := ⟨Try.f76, by kernel_rfl, k76, e76, by kernel_rfl, by kernel_rfl⟩
def G77 : Cfg := ⟨[2], [(0, [1, 2]), (1, [2, 5]), (2, [2]), (3, [2])], 7, []⟩
def r77 : List CRes := [.cell 2 none]
def c77 : CCode :=
(.seq (.region [
 rs 1 (.box false (.tmp 0)),
 rs 2 (.alloc [(.d (.bool false))])] (some [1, 2]))
(.seq (.seq (.region [
 rs 3 (.load (some 6) (.tmp 1)),
 ⟨(some 4), none, .call (.func 72) [(.tmp 3)]⟩,
 ⟨(some 5), none, .call (.func 95) [(.tmp 4)]⟩] (some [2, 5]))
(.block 0 (.rangeF (.tmp 5) [6]
 .skip
 (.block 1 (.seq (.region [
 rn (.store 1 (.tmp 2) (.const (.bool true)))] (some [2]))
 .ret)))))
(.seq (.region [
 rn (.store 1 (.tmp 2) (.const (.bool false)))] (some [2]))
.ret)))
theorem k77 : Try.f77.body.bind (compC Try.prog G77) = some c77 := by kernel_rfl
theorem e77 : compRes Try.prog Try.f77.results.toList = some r77 := by kernel_rfl
def F77 : FunX := ⟨false, G77, c77, r77⟩
theorem o77 : FunOk Try.prog 77 F77 := ⟨Try.f77, by kernel_rfl, k77, e77, by kernel_rfl, by kernel_rfl⟩
def G78 : Cfg := ⟨[7, 5], [(0, [0]), (1, [0, 4]), (2, [2]), (3, [2])], 8, []⟩
def r78 : List CRes := [.tmp 2]
def c78 : CCode :=
(.seq (.region [
 rs 2 (.move (.const (.slice none 0 0)))] (some [0]))
(.seq (.seq (.region [
 rs 3 (.move (.tmp 0)),
 rs 4 (.isNil 0 false (.tmp 3))] (some [0, 4]))
(.cond (.tmp 4)
 (.seq (.region [
 rs 2 (.move (.const (.slice none 0 0)))] (some [2]))
 .ret)
 .skip))
(.seq (.region [
 rs 5 (.bslice true 3 1 0 [] []),
 rs 6 (.move (.tmp 0)),
 ⟨(some 7), none, .app 3 1 8 (.tmp 5) (.tmp 6)⟩,
 rs 2 (.move (.tmp 7))] (some [2]))
.ret)))
theorem k78 : Try.f78.body.bind (compC Try.prog G78) = some c78 := by kernel_rfl
theorem e78 : compRes Try.prog Try.f78.results.toList = some r78 := by kernel_rfl
def F78 : FunX := ⟨false, G78, c78, r78⟩
theorem o78 : FunOk Try.prog 78 F78 := ⟨Try.f78, by kernel_rfl, k78, e78, by kernel_rfl, by kernel_rfl⟩
def G82 : Cfg := ⟨[3], [(0, [2, 3]), (1, [2, 3, 6]), (3, [2, 3, 13]), (4, [4]), (2, [2, 3]), (5, [4])], 15, []⟩
def r82 : List CRes := [.tmp 4]
def c82 : CCode :=
(.seq (.region [
 rs 2 (.box false (.tmp 0)),
 rs 3 (.box true (.tmp 1)),
 rs 4 (.move (ci 0))] (some [2, 3]))
(.seq (.block 0 (.loop (.seq (.seq (.region [
 rs 5 (.load none (.tmp 3)),
 ⟨(some 6), none, .call (.func 59) [(.tmp 5)]⟩] (some [2, 3, 6]))
 (.cond (.tmp 6)
 .skip
 (.exit 0)))
 (.seq (.block 1 (.seq (.region [
 rs 9 (.fieldAddr 5 (.tmp 2)),
 rs 10 (.load none (.tmp 9)),
 rs 11 (.mkfn (.func 99) [] [(.tmp 3)]),
 ⟨(some 12), none, .call (.func 98) [(.tmp 10), (.tmp 11)]⟩,
 rs 13 (.un .not (.tmp 12))] (some [2, 3, 13]))
 (.cond (.tmp 13)
 (.seq (.region [
 rs 14 (.load none (.tmp 3)),
 rs 4 (.move (.tmp 14))] (some [4]))
 .ret)
 .skip)))
 (.region [
 rs 7 (.load none (.tmp 3)),
 rs 8 (.bin .add (.tmp 7) (ci 1)),
 rn (.store 1 (.tmp 3) (.tmp 8))] (some [2, 3]))))))
(.seq (.region [
 ⟨(some 4), none, .simple (.move (ci (-1)))⟩] (some [4]))
.ret)))
theorem k82 : Try.f82.body.bind (compC Try.prog G82) = some c82 := by kernel_rfl
theorem e82 : compRes Try.prog Try.f82.results.toList = some r82 := by kernel_rfl
def F82 : FunX := ⟨false, G82, c82, r82⟩
theorem o82 : FunOk Try.prog 82 F82 := ⟨Try.f82, by kernel_rfl, k82, e82, by kernel_rfl, by kernel_rfl⟩
def G83 : Cfg := ⟨[], [(0, [2, 3]), (1, [4])], 37, []⟩
def r83 : List CRes := [.tmp 4]
def c83 : CCode :=
(.seq (.region [
 rs 2 (.box false (.tmp 0)),
 rs 3 (.box false (.tmp 1)),
 rs 4 (.move (.const (.bool false)))] (some [2, 3]))
(.seq (.region [
 rs 5 (.load (some 6) (.tmp 2)),
 rs 6 (.fieldAddr 0 (.tmp 3)),
 rs 7 (.load none (.tmp 6)),
 ⟨(some 8), none, .call (.func 100) [(.tmp 5), (.tmp 7)]⟩,
 rs 9 (.move (.tmp 8)),
 rg 10 9 true (.load (some 6) (.tmp 2)),
 rg 11 9 true (.fieldAddr 1 (.tmp 3)),
 rg 12 9 true (.load none (.tmp 11)),
 ⟨(some 13), (some (9, true)), .call (.func 100) [(.tmp 10), (.tmp 12)]⟩,
 rs 14 (.pick (.tmp 9) (.tmp 13) (.const (.bool false))),
 rs 15 (.move (.tmp 14)),
 rg 16 15 true (.fieldAddr 0 (.tmp 3)),
 rg 17 15 true (.load none (.tmp 16)),
 rg 18 15 true (.fieldAddr 1 (.tmp 3)),
 rg 19 15 true (.load none (.tmp 18)),
 rg 20 15 true (.bin .neq (.tmp 17) (.tmp 19)),
 rs 21 (.pick (.tmp 15) (.tmp 20) (.const (.bool false))),
 rs 22 (.move (.tmp 21)),
 rg 23 22 true (.fieldAddr 2 (.tmp 3)),
 rg 24 22 true (.load none (.tmp 23)),
 ⟨(some 25), (some (22, true)), .call (.func 71) [(.tmp 24), (ci 1), (ci 100)]⟩,
 rs 26 (.pick (.tmp 22) (.tmp 25) (.const (.bool false))),
 rs 27 (.move (.tmp 26)),
 rg 28 27 true (.fieldAddr 3 (.tmp 3)),
 rg 29 27 true (.load (some 2) (.tmp 28)),
 ⟨(some 30), (some (27, true)), .call (.func 101) [(.tmp 29)]⟩,
 rs 31 (.pick (.tmp 27) (.tmp 30) (.const (.bool false))),
 rs 32 (.move (.tmp 31)),
 rg 33 32 true (.fieldAddr 5 (.tmp 3)),
 rg 34 32 true (.load (some 2) (.tmp 33)),
 ⟨(some 35), (some (32, true)), .call (.func 101) [(.tmp 34)]⟩,
 rs 36 (.pick (.tmp 32) (.tmp 35) (.const (.bool false))),
 rs 4 (.move (.tmp 36))] (some [4]))
.ret))
theorem k83 : Try.f83.body.bind (compC Try.prog G83) = some c83 := by kernel_rfl
theorem e83 : compRes Try.prog Try.f83.results.toList = some r83 := by kernel_rfl
def F83 : FunX := ⟨false, G83, c83, r83⟩
theorem o83 : FunOk Try.prog 83 F83 := ⟨Try.f83, by kernel_rfl, k83, e83, by kernel_rfl, by kernel_rfl⟩
def G84 : Cfg := ⟨[3], [(0, [0, 3]), (1, [4])], 9, []⟩
def r84 : List CRes := [.tmp 4]
def c84 : CCode :=
(.seq (.region [
 rs 3 (.box true (.tmp 1)),
 rs 4 (.move (.const (.bool false)))] (some [0, 3]))
(.seq (.region [
 rs 5 (.move (.tmp 0)),
 rs 6 (.mkfn (.func 103) [] [(.tmp 3)]),
 ⟨(some 7), none, .call (.func 102) [(.tmp 5), (.tmp 6)]⟩,
 rs 8 (.un .not (.tmp 7)),
 rs 4 (.move (.tmp 8))] (some [4]))
.ret))
theorem k84 : Try.f84.body.bind (compC Try.prog G84) = some c84 := by kernel_rfl
theorem e84 : compRes Try.prog Try.f84.results.toList = some r84 := by kernel_rfl
def F84 : FunX := ⟨false, G84, c84, r84⟩
theorem o84 : FunOk Try.prog 84 F84 := ⟨Try.f84, by kernel_rfl, k84, e84, by kernel_rfl, by kernel_rfl⟩
def G85 : Cfg := ⟨[], [(0, [1, 2]), (1, [4])], 11, []⟩
def r85 : List CRes := [.tmp 4]
def c85 : CCode :=
(.seq (.region [
 rs 2 (.box false (.tmp 0)),
 rs 4 (.move (.const (.bool false)))] (some [1, 2]))
(.seq (.region [
 rs 5 (.move (.tmp 1)),
 rs 6 (.fieldAddr 0 (.tmp 2)),
 rs 7 (.load none (.tmp 6)),
 rs 8 (.fieldAddr 1 (.tmp 2)),
 rs 9 (.load none (.tmp 8)),
 ⟨(some 10), none, .call (.func 71) [(.tmp 5), (.tmp 7), (.tmp 9)]⟩,
 rs 4 (.move (.tmp 10))] (some [4]))
.ret))
theorem k85 : Try.f85.body.bind (compC Try.prog G85) = some c85 := by kernel_rfl
theorem e85 : compRes Try.prog Try.f85.results.toList = some r85 := by kernel_rfl
def F85 : FunX := ⟨false, G85, c85, r85⟩
theorem o85 : FunOk Try.prog 85 F85 := ⟨Try.f85, by kernel_rfl, k85, e85, by kernel_rfl, by kernel_rfl⟩
def G86 : Cfg := ⟨[3], [(0, [0, 3]), (1, [4])], 9, []⟩
def r86 : List CRes := [.tmp 4]
def c86 : CCode :=
(.seq (.region [
 rs 3 (.box true (.tmp 1)),
 rs 4 (.move (.const (.bool false)))] (some [0, 3]))
(.seq (.region [
 rs 5 (.move (.tmp 0)),
 rs 6 (.mkfn (.func 105) [] [(.tmp 3)]),
 ⟨(some 7), none, .call (.func 104) [(.tmp 5), (.tmp 6)]⟩,
 rs 8 (.un .not (.tmp 7)),
 rs 4 (.move (.tmp 8))] (some [4]))
.ret))
theorem k86 : Try.f86.body.bind (compC Try.prog G86) = some c86 := by kernel_rfl
theorem e86 : compRes Try.prog Try.f86.results.toList = some r86 := by kernel_rfl
def F86 : FunX := ⟨false, G86, c86, r86⟩
theorem o86 : FunOk Try.prog 86 F86 := ⟨Try.f86, by kernel_rfl, k86, e86, by kernel_rfl, by kernel_rfl⟩
def G87 : Cfg := ⟨[3], [(0, [0, 3]), (1, [4])], 9, []⟩
def r87 : List CRes := [.tmp 4]
def c87 : CCode :=
(.seq (.region [
 rs 3 (.box true (.tmp 1)),
 rs 4 (.move (.const (.bool false)))] (some [0, 3]))
(.seq (.region [
 rs 5 (.move (.tmp 0)),
 rs 6 (.mkfn (.func 107) [] [(.tmp 3)]),
 ⟨(some 7), none, .call (.func 106) [(.tmp 5), (.tmp 6)]⟩,
 rs 8 (.un .not (.tmp 7)),
 rs 4 (.move (.tmp 8))] (some [4]))
.ret))
theorem k87 : Try.f87.body.bind (compC Try.prog G87) = some c87 := by kernel_rfl
theorem e87 : compRes Try.prog Try.f87.results.toList = some r87 := by kernel_rfl
def F87 : FunX := ⟨false, G87, c87, r87⟩
theorem o87 : FunOk Try.prog 87 F87 := ⟨Try.f87, by kernel_rfl, k87, e87, by kernel_rfl, by kernel_rfl⟩
def G88 : Cfg := ⟨[], [(0, [1]), (1, [2])], 14, []⟩
def r88 : List CRes := [.tmp 2]
def c88 : CCode :=
(.seq (.region [
 rs 1 (.box false (.tmp 0)),
 rs 2 (.move (.const (.bool false)))] (some [1]))
(.seq (.region [
 rs 3 (.fieldAddr 0 (.tmp 1)),
 rs 4 (.load none (.tmp 3)),
 rs 5 (.fieldAddr 1 (.tmp 1)),
 rs 6 (.load none (.tmp 5)),
 rs 7 (.build [(.d (.int .i64 0)), (.d (.int .i64 0))] [(0, 1, (.tmp 4)), (1, 1, (.tmp 6))]),
 ⟨(some 8), none, .call (.func 91) [(.tmp 7)]⟩,
 rs 9 (.move (.tmp 8)),
 rg 10 9 true (.fieldAddr 2 (.tmp 1)),
 rg 11 9 true (.load none (.tmp 10)),
 ⟨(some 12), (some (9, true)), .call (.func 71) [(.tmp 11), (ci 0), (ci 50)]⟩,
 rs 13 (.pick (.tmp 9) (.tmp 12) (.const (.bool false))),
 rs 2 (.move (.tmp 13))] (some [2]))
.ret))
theorem k88 : Try.f88.body.bind (compC Try.prog G88) = some c88 := by kernel_rfl
theorem e88 : compRes Try.prog Try.f88.results.toList = some r88 := by kernel_rfl
def F88 : FunX := ⟨false, G88, c88, r88⟩
theorem o88 : FunOk Try.prog 88 F88 := ⟨Try.f88, by kernel_rfl, k88, e88, by kernel_rfl, by kernel_rfl⟩
def G89 : Cfg := ⟨[3], [(0, [1]), (1, [1, 3]), (2, [2])], 8, []⟩
def r89 : List CRes := [.tmp 2]
def c89 : CCode :=
(.seq (.region [
 rs 1 (.box false (.tmp 0)),
 rs 2 (.move (.const (.bool false)))] (some [1]))
(.seq (.region [
 rs 3 (.alloc [(.d (.int .i64 0))]),
 ⟨none, none, .simple (.store 1 (.tmp 3) (ci (-1)))⟩] (some [1, 3]))
(.seq (.region [
 rs 4 (.fieldAddr 4 (.tmp 1)),
 rs 5 (.load none (.tmp 4)),
 rs 6 (.mkfn (.func 109) [] [(.tmp 3)]),
 ⟨(some 7), none, .call (.func 108) [(.tmp 5), (.tmp 6)]⟩,
 rs 2 (.move (.tmp 7))] (some [2]))
.ret)))
theorem k89 : Try.f89.body.bind (compC Try.prog G89) = some c89 := by kernel_rfl
theorem e89 : compRes Try.prog Try.f89.results.toList = some r89 := by kernel_rfl
def F89 : FunX := ⟨false, G89, c89, r89⟩
theorem o89 : FunOk Try.prog 89 F89 := ⟨Try.f89, by kernel_rfl, k89, e89, by kernel_rfl, by kernel_rfl⟩
def G90 : Cfg := ⟨[3], [(0, [0, 3]), (1, [4])], 9, []⟩
def r90 : List CRes := [.tmp 4]
def c90 : CCode :=
(.seq (.region [
 rs 3 (.box true (.tmp 1)),
 rs 4 (.move (.const (.bool false)))] (some [0, 3]))
(.seq (.region [
 rs 5 (.move (.tmp 0)),
 rs 6 (.mkfn (.func 110) [] [(.tmp 3)]),
 ⟨(some 7), none, .call (.func 98) [(.tmp 5), (.tmp 6)]⟩,
 rs 8 (.un .not (.tmp 7)),
 rs 4 (.move (.tmp 8))] (some [4]))
.ret))
theorem k90 : Try.f90.body.bind (compC Try.prog G90) = some c90 := by kernel_rfl
theorem e90 : compRes Try.prog Try.f90.results.toList = some r90 := by kernel_rfl
def F90 : FunX := ⟨false, G90, c90, r90⟩
theorem o90 : FunOk Try.prog 90 F90 := ⟨Try.f90, by kernel_rfl, k90, e90, by kernel_rfl, by kernel_rfl⟩
def G91 : Cfg := ⟨[], [(0, [1]), (1, [2])], 18, []⟩
def r91 : List CRes := [.tmp 2]
def c91 : CCode :=
(.seq (.region [
 rs 1 (.box false (.tmp 0)),
 rs 2 (.move (.const (.bool false)))] (some [1]))
(.seq (.region [
 rs 3 (.fieldAddr 0 (.tmp 1)),
 rs 4 (.load none (.tmp 3)),
 ⟨(some 5), none, .call (.func 59) [(.tmp 4)]⟩,
 rs 6 (.move (.tmp 5)),
 rg 7 6 true (.fieldAddr 1 (.tmp 1)),
 rg 8 6 true (.load none (.tmp 7)),
 ⟨(some 9), (some (6, true)), .call (.func 59) [(.tmp 8)]⟩,
 rs 10 (.pick (.tmp 6) (.tmp 9) (.const (.bool false))),
 rs 11 (.move (.tmp 10)),
 rg 12 11 true (.fieldAddr 0 (.tmp 1)),
 rg 13 11 true (.load none (.tmp 12)),
 rg 14 11 true (.fieldAddr 1 (.tmp 1)),
 rg 15 11 true (.load none (.tmp 14)),
 rg 16 11 true (.bin .leq (.tmp 13) (.tmp 15)),
 rs 17 (.pick (.tmp 11) (.tmp 16) (.const (.bool false))),
 rs 2 (.move (.tmp 17))] (some [2]))
.ret))
theorem k91 : Try.f91.body.bind (compC Try.prog G91) = some c91 := by kernel_rfl
theorem e91 : compRes Try.prog Try.f91.results.toList = some r91 := by kernel_rfl
def F91 : FunX := ⟨false, G91, c91, r91⟩
theorem o91 : FunOk Try.prog 91 F91 := ⟨Try.f91, by kernel_rfl, k91, e91, by kernel_rfl, by kernel_rfl⟩
def G92 : Cfg := ⟨[6], [(0, [2, 3]), (1, [2, 3, 22]), (2, [4]), (3, [3, 24, 25, 26]), (4, [3, 24, 25, 26, 27]), (5, [3, 5, 6, 24, 25, 26]), (6, [3, 24, 25, 26, 63]), (7, [4]), (8, [3, 24, 25, 26]), (9, [4])], 65, []⟩
def r92 : List CRes := [.tmp 4]
def c92 : CCode :=
(.seq (.region [
 rs 2 (.box false (.tmp 0)),
 rs 3 (.box false (.tmp 1)),
 rs 4 (.move (.const (.bool false)))] (some [2, 3]))
(.seq (.seq (.region [
 rs 7 (.fieldAddr 0 (.tmp 3)),
 rs 8 (.load none (.tmp 7)),
 rs 9 (.len (.tmp 8)),
 rs 10 (.fieldAddr 2 (.tmp 2)),
 rs 11 (.load none (.tmp 10)),
 rs 12 (.len (.tmp 11)),
 rs 13 (.bin .neq (.tmp 9) (.tmp 12)),
 rs 14 (.move (.tmp 13)),
 rg 15 14 false (.fieldAddr 1 (.tmp 3)),
 rg 16 14 false (.load none (.tmp 15)),
 rg 17 14 false (.len (.tmp 16)),
 rg 18 14 false (.fieldAddr 2 (.tmp 2)),
 rg 19 14 false (.load none (.tmp 18)),
 rg 20 14 false (.len (.tmp 19)),
 rg 21 14 false (.bin .neq (.tmp 17) (.tmp 20)),
 rs 22 (.pick (.tmp 14) (.const (.bool true)) (.tmp 21))] (some [2, 3, 22]))
(.cond (.tmp 22)
 (.seq (.region [
 rs 4 (.move (.const (.bool false)))] (some [4]))
 .ret)
 .skip))
(.seq (.seq (.region [
 rs 23 (.fieldAddr 2 (.tmp 2)),
 rs 24 (.load none (.tmp 23)),
 rs 25 (.len (.tmp 24)),
 rs 26 (.move (ci 0))] (some [3, 24, 25, 26]))
(.block 0 (.loop (.seq (.region [
 rs 27 (.bin .lss (.tmp 26) (.tmp 25))] (some [3, 24, 25, 26, 27]))
 (.seq (.cond (.tmp 27)
 .skip
 (.exit 0))
 (.seq (.block 1 (.seq (.region [
 rs 28 (.move (.tmp 26)),
 rs 29 (.indexS 7 (.tmp 24) (.tmp 26)),
 rs 30 (.load (some 7) (.tmp 29)),
 rs 6 (.alloc [(.d (.int .i64 0)), (.d (.int .i64 0)), (.d (.int .i64 0)), (.d (.int .i64 0)), (.d (.int .i64 0)), (.d (.int .i64 0)), (.d (.int .i64 0))]),
 rs 5 (.move (.tmp 28)),
 rn (.store 7 (.tmp 6) (.tmp 30))] (some [3, 5, 6, 24, 25, 26]))
 (.seq (.region [
 rs 31 (.fieldAddr 3 (.tmp 6)),
 rs 32 (.load (some 2) (.tmp 31)),
 rs 33 (.fieldAddr 0 (.tmp 3)),
 rs 34 (.load none (.tmp 33)),
 rs 35 (.move (.tmp 5)),
 rs 36 (.indexS 1 (.tmp 34) (.tmp 35)),
 rs 37 (.load none (.tmp 36)),
 ⟨(some 38), none, .call (.func 85) [(.tmp 32), (.tmp 37)]⟩,
 rs 39 (.un .not (.tmp 38)),
 rs 40 (.move (.tmp 39)),
 rg 41 40 false (.fieldAddr 5 (.tmp 6)),
 rg 42 40 false (.load (some 2) (.tmp 41)),
 rg 43 40 false (.fieldAddr 1 (.tmp 3)),
 rg 44 40 false (.load none (.tmp 43)),
 rg 45 40 false (.move (.tmp 5)),
 rg 46 40 false (.indexS 1 (.tmp 44) (.tmp 45)),
 rg 47 40 false (.load none (.tmp 46)),
 ⟨(some 48), (some (40, false)), .call (.func 85) [(.tmp 42), (.tmp 47)]⟩,
 rg 49 40 false (.un .not (.tmp 48)),
 rs 50 (.pick (.tmp 40) (.const (.bool true)) (.tmp 49)),
 rs 51 (.move (.tmp 50)),
 rg 52 51 false (.fieldAddr 1 (.tmp 3)),
 rg 53 51 false (.load none (.tmp 52)),
 rg 54 51 false (.move (.tmp 5)),
 rg 55 51 false (.indexS 1 (.tmp 53) (.tmp 54)),
 rg 56 51 false (.load none (.tmp 55)),
 rg 57 51 false (.fieldAddr 0 (.tmp 3)),
 rg 58 51 false (.load none (.tmp 57)),
 rg 59 51 false (.move (.tmp 5)),
 rg 60 51 false (.indexS 1 (.tmp 58) (.tmp 59)),
 rg 61 51 false (.load none (.tmp 60)),
 rg 62 51 false (.bin .lss (.tmp 56) (.tmp 61)),
 rs 63 (.pick (.tmp 51) (.const (.bool true)) (.tmp 62))] (some [3, 24, 25, 26, 63]))
 (.cond (.tmp 63)
 (.seq (.region [
 rs 4 (.move (.const (.bool false)))] (some [4]))
 .ret)
 .skip))))
 (.region [
 rs 64 (.bin .add (.tmp 26) (ci 1)),
 rs 26 (.move (.tmp 64))] (some [3, 24, 25, 26]))))))))
(.seq (.region [
 rs 4 (.move (.const (.bool true)))] (some [4]))
.ret))))
theorem k92 : Try.f92.body.bind (compC Try.prog G92) = some c92 := by kernel_rfl
theorem e92 : compRes Try.prog Try.f92.results.toList = some r92 := by kernel_rfl
def F92 : FunX := ⟨false, G92, c92, r92⟩
theorem o92 : FunOk Try.prog 92 F92 := ⟨Try.f92, by kernel_rfl, k92, e92, by kernel_rfl, by kernel_rfl⟩
def G93 : Cfg := ⟨[7, 5], [(0, [0, 3]), (1, [0, 3, 5]), (2, [0, 3, 5, 8]), (3, [0, 3, 5, 8, 9]), (4, [0, 3, 5, 6, 8]), (5, [0, 3, 5, 7, 8]), (6, [0, 3, 5, 7, 8, 17]), (7, [0, 3, 5, 7, 8, 20]), (8, [4]), (9, [0, 3, 5, 8]), (10, [0, 3, 5, 8]), (11, [4])], 23, [(7, [(7, none)])]⟩
def r93 : List CRes := [.tmp 4]
def c93 : CCode :=
(.seq (.region [
 rs 3 (.box false (.tmp 1)),
 rs 4 (.move (.const (.bool false)))] (some [0, 3]))
(.seq (.region [
 rs 5 (.alloc [(.d (.int .i64 0)), (.d (.int .i64 0)), (.d (.int .i64 0)), (.d (.int .i64 0))])] (some [0, 3, 5]))
(.seq (.seq (.region [
 rs 8 (.move (ci 0))] (some [0, 3, 5, 8]))
(.block 0 (.loop (.seq (.region [
 rs 9 (.bin .lss (.tmp 8) (ci 12))] (some [0, 3, 5, 8, 9]))
 (.seq (.cond (.tmp 9)
 .skip
 (.exit 0))
 (.seq (.block 1 (.seq (.region [
 rs 10 (.move (.tmp 8)),
 rs 6 (.move (.tmp 10))] (some [0, 3, 5, 6, 8]))
 (.seq (.region [
 rs 11 (.move (.tmp 0)),
 rs 12 (.load (some 2) (.tmp 3)),
 rs 13 (.move (.tmp 6)),
 ⟨(some 14), none, .call (.func 60) [(.tmp 11), (.tmp 12), (.tmp 13)]⟩,
 rs 7 (.alloc [(.d (.int .i64 0)), (.d (.int .i64 0)), (.d (.int .i64 0)), (.d (.int .i64 0))]),
 rn (.store 4 (.tmp 7) (.tmp 14))] (some [0, 3, 5, 7, 8]))
 (.seq (.seq (.region [
 rs 15 (.load (some 4) (.tmp 7)),
 rs 16 (.load (some 4) (.tmp 5)),
 rs 17 (.eqA false [(.int .i64), (.int .i64), (.int .i64), (.int .i64)] (.tmp 15) (.tmp 16))] (some [0, 3, 5, 7, 8, 17]))
 (.cond (.tmp 17)
 (.exit 1)
 .skip))
 (.seq (.seq (.seq (.frz (7, none))
 (.region [
 rs 18 (.sliceA 4 1 (.tmp 7) none none),
 ⟨(some 19), none, .call (.func 96) [(.tmp 18)]⟩,
 rs 20 (.bin .lss (.tmp 19) (ci 0))] (some [0, 3, 5, 7, 8, 20])))
 (.cond (.tmp 20)
 (.seq (.region [
 rs 4 (.move (.const (.bool false)))] (some [4]))
 .ret)
 .skip))
 (.region [
 rs 21 (.load (some 4) (.tmp 7)),
 rn (.store 4 (.tmp 5) (.tmp 21))] (some [0, 3, 5, 8])))))))
 (.region [
 rs 22 (.bin .add (.tmp 8) (ci 1)),
 rs 8 (.move (.tmp 22))] (some [0, 3, 5, 8]))))))))
(.seq (.region [
 rs 4 (.move (.const (.bool true)))] (some [4]))
.ret))))
theorem k93 : Try.f93.body.bind (compC Try.prog G93) = some c93 := by kernel_rfl
theorem e93 : compRes Try.prog Try.f93.results.toList = some r93 := by kernel_rfl
def F93 : FunX := ⟨false, G93, c93, r93⟩
theorem o93 : FunOk Try.prog 93 F93 := ⟨Try.f93, by kernel_rfl, k93, e93, by kernel_rfl, by kernel_rfl⟩
def G94 : Cfg := ⟨[10], [(0, [0, 1, 5]), (1, [0, 1, 5, 7, 8]), (2, [0, 1, 5, 7, 21]), (3, [0, 1, 5, 7]), (4, [0, 1, 5, 7, 26, 27, 28]), (5, [0, 1, 5, 7, 26, 27, 28, 29]), (6, [0, 1, 5, 7, 10, 26, 27, 28]), (7, [0, 1, 5, 7, 10, 26, 27, 28, 43]), (8, [0, 1, 5, 7, 26, 27, 28]), (9, [0, 1, 5, 7, 26, 27, 28]), (10, [1, 7]), (11, [6])], 61, []⟩
def r94 : List CRes := [.tmp 6]
def c94 : CCode :=
(.seq (.region [
 rs 5 (.box false (.tmp 2)),
 rs 6 (.move (ci 0))] (some [0, 1, 5]))
(.seq (.region [
 rs 12 (.move (.tmp 0)),
 rs 13 (.nilCheck (.tmp 12)),
 rs 14 (.fieldAddr 6 (.tmp 13)),
 rs 15 (.load none (.tmp 14)),
 rs 16 (.load (some 2) (.tmp 5)),
 rs 17 (.lookup true [(.int .i64), (.int .i64)] (.d (.int .i64 0)) true (.tmp 15) (.tmp 16)),
 rs 11 (.move (.tmp 17)),
 rs 18 (.extract (.tmp 11) 0),
 rs 19 (.extract (.tmp 11) 1),
 rs 7 (.move (.tmp 18)),
 rs 8 (.move (.tmp 19))] (some [0, 1, 5, 7, 8]))
(.seq (.seq (.region [
 rs 20 (.move (.tmp 8)),
 rs 21 (.un .not (.tmp 20))] (some [0, 1, 5, 7, 21]))
(.cond (.tmp 21)
 (.seq (.region [
 rs 7 (.move (ci 720))] (some [0, 1, 5, 7]))
 (.seq (.seq (.region [
 rs 22 (.move (.tmp 0)),
 rs 23 (.nilCheck (.tmp 22)),
 rs 24 (.fieldAddr 0 (.tmp 23)),
 rs 25 (.fieldAddr 4 (.tmp 24)),
 rs 26 (.load none (.tmp 25)),
 rs 27 (.len (.tmp 26)),
 rs 28 (.move (ci 0))] (some [0, 1, 5, 7, 26, 27, 28]))
 (.block 0 (.loop (.seq (.region [
 rs 29 (.bin .lss (.tmp 28) (.tmp 27))] (some [0, 1, 5, 7, 26, 27, 28, 29]))
 (.seq (.cond (.tmp 29)
 .skip
 (.exit 0))
 (.seq (.block 1 (.seq (.region [
 rs 30 (.indexS 3 (.tmp 26) (.tmp 28)),
 rs 31 (.load (some 3) (.tmp 30)),
 rs 10 (.alloc [(.d (.int .i64 0)), (.d (.int .i64 0)), (.d (.int .i64 0))]),
 rn (.store 3 (.tmp 10) (.tmp 31))] (some [0, 1, 5, 7, 10, 26, 27, 28]))
 (.seq (.region [
 rs 32 (.fieldAddr 0 (.tmp 5)),
 rs 33 (.load none (.tmp 32)),
 rs 34 (.fieldAddr 0 (.tmp 10)),
 rs 35 (.load none (.tmp 34)),
 rs 36 (.bin .lss (.tmp 33) (.tmp 35)),
 rs 37 (.move (.tmp 36)),
 rg 38 37 true (.fieldAddr 0 (.tmp 10)),
 rg 39 37 true (.load none (.tmp 38)),
 rg 40 37 true (.fieldAddr 1 (.tmp 5)),
 rg 41 37 true (.load none (.tmp 40)),
 rg 42 37 true (.bin .leq (.tmp 39) (.tmp 41)),
 rs 43 (.pick (.tmp 37) (.tmp 42) (.const (.bool false)))] (some [0, 1, 5, 7, 10, 26, 27, 28, 43]))
 (.cond (.tmp 43)
 (.region [
 rs 44 (.move (.tmp 7)),
 rs 45 (.fieldAddr 1 (.tmp 10)),
 rs 46 (.load none (.tmp 45)),
 rs 47 (.bin .mul (.tmp 44) (.tmp 46)),
 rs 48 (.fieldAddr 2 (.tmp 10)),
 rs 49 (.load none (.tmp 48)),
 rs 50 (.bin .quo (.tmp 47) (.tmp 49)),
 rs 7 (.move (.tmp 50))] (some [0, 1, 5, 7, 26, 27, 28]))
 .skip))))
 (.region [
 rs 51 (.bin .add (.tmp 28) (ci 1)),
 rs 28 (.move (.tmp 51))] (some [0, 1, 5, 7, 26, 27, 28]))))))))
 (.region [
 rs 52 (.move (.tmp 0)),
 rs 53 (.nilCheck (.tmp 52)),
 rs 54 (.fieldAddr 6 (.tmp 53)),
 rs 55 (.load none (.tmp 54)),
 rs 56 (.load (some 2) (.tmp 5)),
 rs 57 (.move (.tmp 7)),
 rn (.mupd true [(.int .i64), (.int .i64)] (.tmp 55) (.tmp 56) (.tmp 57))] (some [1, 7]))))
 .skip))
(.seq (.region [
 rs 58 (.move (.tmp 1)),
 rs 59 (.move (.tmp 7)),
 rs 60 (.bin .mul (.tmp 58) (.tmp 59)),
 rs 6 (.move (.tmp 60))] (some [6]))
.ret))))
theorem k94 : Try.f94.body.bind (compC Try.prog G94) = some c94 := by kernel_rfl
theorem e94 : compRes Try.prog Try.f94.results.toList = some r94 := by kernel_rfl
def F94 : FunX := ⟨false, G94, c94, r94⟩
theorem o94 : FunOk Try.prog 94 F94 := ⟨Try.f94, by kernel_rfl, k94, e94, by kernel_rfl, by kernel_rfl⟩
def G95 : Cfg := ⟨[1], [(0, [1]), (1, [2])], 4, []⟩
def r95 : List CRes := [.tmp 2]
def c95 : CCode :=
(.seq (.region [
 rs 1 (.box true (.tmp 0)),
 rs 2 (.move (.const .nilFunc))] (some [1]))
(.seq (.region [
 rs 3 (.mkfn (.func 111) [] [(.tmp 1)]),
 rs 2 (.move (.tmp 3))] (some [2]))
.ret))
theorem k95 : Try.f95.body.bind (compC Try.prog G95) = some c95 := by kernel_rfl
theorem e95 : compRes Try.prog Try.f95.results.toList = some r95 := by kernel_rfl
def F95 : FunX := ⟨false, G95, c95, r95⟩
theorem o95 : FunOk Try.prog 95 F95 := ⟨Try.f95, by kernel_rfl, k95, e95, by kernel_rfl, by kernel_rfl⟩
end Go.Proofs.Ytdnefcjbcieecaa
namespace Go.Proofs.Ytdnefcjbcieecaa
open Go Go.Proofs
def G96 : Cfg := ⟨[], [(0, [0]), (1, [2])], 5, []⟩
def r96 : List CRes := [.tmp 2]
def c96 : CCode :=
(.seq (.region [
 rs 2 (.move (ci 0))] (some [0]))
(.seq (.region [
 rs 3 (.move (.tmp 0)),
 ⟨(some 4), none, .call (.func 113) [(.tmp 3)]⟩,
 rs 2 (.move (.tmp 4))] (some [2]))
.ret))
theorem k96 : Try.f96.body.bind (compC Try.prog G96) = some c96 := by kernel_rfl
theorem e96 : compRes Try.prog Try.f96.results.toList = some r96 := by kernel_rfl
def F96 : FunX := ⟨false, G96, c96, r96⟩
theorem o96 : FunOk Try.prog 96 F96 := ⟨Try.f96, by kernel_rfl, k96, e96, by kernel_rfl, by kernel_rfl⟩
def G97 : Cfg := ⟨[], [(0, [0, 1]), (1, [0, 1, 7, 8]), (2, [0, 1, 7, 8, 9]), (3, [0, 1, 5, 7, 8]), (4, [0, 1, 5, 7, 8, 16]), (5, [4]), (6, [0, 1, 7, 8]), (7, [4])], 19, []⟩
def r97 : List CRes := [.tmp 4]
def c97 : CCode :=
(.seq (.region [
 rs 4 (.move (ci 0))] (some [0, 1]))
(.seq (.seq (.region [
 rs 6 (.move (.tmp 0)),
 rs 7 (.len (.tmp 6)),
 rs 8 (.move (ci 0))] (some [0, 1, 7, 8]))
(.block 0 (.loop (.seq (.region [
 rs 9 (.bin .lss (.tmp 8) (.tmp 7))] (some [0, 1, 7, 8, 9]))
 (.seq (.cond (.tmp 9)
 .skip
 (.exit 0))
 (.seq (.block 1 (.seq (.region [
 rs 10 (.move (.tmp 8)),
 rs 5 (.move (.tmp 10))] (some [0, 1, 5, 7, 8]))
 (.seq (.region [
 rs 11 (.move (.tmp 1)),
 rs 12 (.move (.tmp 0)),
 rs 13 (.move (.tmp 5)),
 rs 14 (.indexS 1 (.tmp 12) (.tmp 13)),
 rs 15 (.load none (.tmp 14)),
 rs 16 (.bin .eql (.tmp 11) (.tmp 15))] (some [0, 1, 5, 7, 8, 16]))
 (.cond (.tmp 16)
 (.seq (.region [
 rs 17 (.move (.tmp 5)),
 rs 4 (.move (.tmp 17))] (some [4]))
 .ret)
 .skip))))
 (.region [
 rs 18 (.bin .add (.tmp 8) (ci 1)),
 rs 8 (.move (.tmp 18))] (some [0, 1, 7, 8]))))))))
(.seq (.region [
 ⟨(some 4), none, .simple (.move (ci (-1)))⟩] (some [4]))
.ret)))
theorem k97 : Try.f97.body.bind (compC Try.prog G97) = some c97 := by kernel_rfl
theorem e97 : compRes Try.prog Try.f97.results.toList = some r97 := by kernel_rfl
def F97 : FunX := ⟨false, G97, c97, r97⟩
theorem o97 : FunOk Try.prog 97 F97 := ⟨Try.f97, by kernel_rfl, k97, e97, by kernel_rfl, by kernel_rfl⟩
def G98 : Cfg := ⟨[], [(0, [0, 1]), (1, [4])], 9, []⟩
def r98 : List CRes := [.tmp 4]
def c98 : CCode :=
(.seq (.region [
 rs 4 (.move (.const (.bool false)))] (some [0, 1]))
(.seq (.region [
 rs 5 (.move (.tmp 0)),
 rs 6 (.move (.tmp 1)),
 ⟨(some 7), none, .call (.func 114) [(.tmp 5), (.tmp 6)]⟩,
 rs 8 (.bin .geq (.tmp 7) (ci 0)),
 rs 4 (.move (.tmp 8))] (some [4]))
.ret))
theorem k98 : Try.f98.body.bind (compC Try.prog G98) = some c98 := by kernel_rfl
theorem e98 : compRes Try.prog Try.f98.results.toList = some r98 := by kernel_rfl
def F98 : FunX := ⟨false, G98, c98, r98⟩
theorem o98 : FunOk Try.prog 98 F98 := ⟨Try.f98, by kernel_rfl, k98, e98, by kernel_rfl, by kernel_rfl⟩
def G99 : Cfg := ⟨[], [(0, [1, 2]), (1, [3])], 7, []⟩
def r99 : List CRes := [.tmp 3]
def c99 : CCode :=
(.seq (.region [
 rs 2 (.box false (.tmp 0)),
 rs 3 (.move (.const (.bool false)))] (some [1, 2]))
(.seq (.region [
 rs 4 (.load (some 2) (.tmp 2)),
 rs 5 (.load none (.tmp 1)),
 ⟨(some 6), none, .call (.func 85) [(.tmp 4), (.tmp 5)]⟩,
 rs 3 (.move (.tmp 6))] (some [3]))
.ret))
theorem k99 : Try.f99.body.bind (compC Try.prog G99) = some c99 := by kernel_rfl
theorem e99 : compRes Try.prog Try.f99.results.toList = some r99 := by kernel_rfl
def F99 : FunX := ⟨false, G99, c99, r99⟩
theorem o99 : FunOk Try.prog 99 F99 := ⟨Try.f99, by kernel_rfl, k99, e99, by kernel_rfl, by kernel_rfl⟩
def G100 : Cfg := ⟨[], [(0, [1, 2]), (1, [4])], 10, []⟩
def r100 : List CRes := [.tmp 4]
def c100 : CCode :=
(.seq (.region [
 rs 2 (.box false (.tmp 0)),
 rs 4 (.move (.const (.bool false)))] (some [1, 2]))
(.seq (.region [
 rs 5 (.move (.tmp 1)),
 rs 6 (.fieldAddr 0 (.tmp 2)),
 rs 7 (.load none (.tmp 6)),
 rs 8 (.bin .sub (.tmp 7) (ci 1)),
 ⟨(some 9), none, .call (.func 71) [(.tmp 5), (ci 0), (.tmp 8)]⟩,
 rs 4 (.move (.tmp 9))] (some [4]))
.ret))
theorem k100 : Try.f100.body.bind (compC Try.prog G100) = some c100 := by kernel_rfl
theorem e100 : compRes Try.prog Try.f100.results.toList = some r100 := by kernel_rfl
def F100 : FunX := ⟨false, G100, c100, r100⟩
theorem o100 : FunOk Try.prog 100 F100 := ⟨Try.f100, by kernel_rfl, k100, e100, by kernel_rfl, by kernel_rfl⟩
def G101 : Cfg := ⟨[], [(0, [1]), (1, [2])], 13, []⟩
def r101 : List CRes := [.tmp 2]
def c101 : CCode :=
(.seq (.region [
 rs 1 (.box false (.tmp 0)),
 rs 2 (.move (.const (.bool false)))] (some [1]))
(.seq (.region [
 rs 3 (.load (some 2) (.tmp 1)),
 ⟨(some 4), none, .call (.func 91) [(.tmp 3)]⟩,
 rs 5 (.move (.tmp 4)),
 rg 6 5 true (.fieldAddr 1 (.tmp 1)),
 rg 7 5 true (.load none (.tmp 6)),
 rg 8 5 true (.fieldAddr 0 (.tmp 1)),
 rg 9 5 true (.load none (.tmp 8)),
 rg 10 5 true (.bin .sub (.tmp 7) (.tmp 9)),
 rg 11 5 true (.bin .leq (.tmp 10) (ci 2)),
 rs 12 (.pick (.tmp 5) (.tmp 11) (.const (.bool false))),
 rs 2 (.move (.tmp 12))] (some [2]))
.ret))
theorem k101 : Try.f101.body.bind (compC Try.prog G101) = some c101 := by kernel_rfl
theorem e101 : compRes Try.prog Try.f101.results.toList = some r101 := by kernel_rfl
def F101 : FunX := ⟨false, G101, c101, r101⟩
theorem o101 : FunOk Try.prog 101 F101 := ⟨Try.f101, by kernel_rfl, k101, e101, by kernel_rfl, by kernel_rfl⟩
def G102 : Cfg := ⟨[], [(0, [0, 1]), (1, [4])], 9, []⟩
def r102 : List CRes := [.tmp 4]
def c102 : CCode :=
(.seq (.region [
 rs 4 (.move (.const (.bool false)))] (some [0, 1]))
(.seq (.region [
 rs 5 (.move (.tmp 0)),
 rs 6 (.move (.tmp 1)),
 ⟨(some 7), none, .call (.func 115) [(.tmp 5), (.tmp 6)]⟩,
 rs 8 (.bin .geq (.tmp 7) (ci 0)),
 rs 4 (.move (.tmp 8))] (some [4]))
.ret))
theorem k102 : Try.f102.body.bind (compC Try.prog G102) = some c102 := by kernel_rfl
theorem e102 : compRes Try.prog Try.f102.results.toList = some r102 := by kernel_rfl
def F102 : FunX := ⟨false, G102, c102, r102⟩
theorem o102 : FunOk Try.prog 102 F102 := ⟨Try.f102, by kernel_rfl, k102, e102, by kernel_rfl, by kernel_rfl⟩
def G103 : Cfg := ⟨[], [(0, [0, 1]), (1, [3])], 8, []⟩
def r103 : List CRes := [.tmp 3]
def c103 : CCode :=
(.seq (.region [
 rs 3 (.move (.const (.bool false)))] (some [0, 1]))
(.seq (.region [
 rs 4 (.load none (.tmp 1)),
 rs 5 (.move (.tmp 0)),
 ⟨(some 6), none, .call (.tmp 4) [(.tmp 5)]⟩,
 rs 7 (.un .not (.tmp 6)),
 rs 3 (.move (.tmp 7))] (some [3]))
.ret))
theorem k103 : Try.f103.body.bind (compC Try.prog G103) = some c103 := by kernel_rfl
theorem e103 : compRes Try.prog Try.f103.results.toList = some r103 := by kernel_rfl
def F103 : FunX := ⟨false, G103, c103, r103⟩
theorem o103 : FunOk Try.prog 103 F103 := ⟨Try.f103, by kernel_rfl, k103, e103, by kernel_rfl, by kernel_rfl⟩
def G104 : Cfg := ⟨[], [(0, [0, 1]), (1, [4])], 9, []⟩
def r104 : List CRes := [.tmp 4]
def c104 : CCode :=
(.seq (.region [
 rs 4 (.move (.const (.bool false)))] (some [0, 1]))
(.seq (.region [
 rs 5 (.move (.tmp 0)),
 rs 6 (.move (.tmp 1)),
 ⟨(some 7), none, .call (.func 116) [(.tmp 5), (.tmp 6)]⟩,
 rs 8 (.bin .geq (.tmp 7) (ci 0)),
 rs 4 (.move (.tmp 8))] (some [4]))
.ret))
theorem k104 : Try.f104.body.bind (compC Try.prog G104) = some c104 := by kernel_rfl
theorem e104 : compRes Try.prog Try.f104.results.toList = some r104 := by kernel_rfl
def F104 : FunX := ⟨false, G104, c104, r104⟩
theorem o104 : FunOk Try.prog 104 F104 := ⟨Try.f104, by kernel_rfl, k104, e104, by kernel_rfl, by kernel_rfl⟩
def G105 : Cfg := ⟨[], [(0, [1, 2]), (1, [3])], 8, []⟩
def r105 : List CRes := [.tmp 3]
def c105 : CCode :=
(.seq (.region [
 rs 2 (.box false (.tmp 0)),
 rs 3 (.move (.const (.bool false)))] (some [1, 2]))
(.seq (.region [
 rs 4 (.load none (.tmp 1)),
 rs 5 (.load (some 7) (.tmp 2)),
 ⟨(some 6), none, .call (.tmp 4) [(.tmp 5)]⟩,
 rs 7 (.un .not (.tmp 6)),
 rs 3 (.move (.tmp 7))] (some [3]))
.ret))
theorem k105 : Try.f105.body.bind (compC Try.prog G105) = some c105 := by kernel_rfl
theorem e105 : compRes Try.prog Try.f105.results.toList = some r105 := by kernel_rfl
def F105 : FunX := ⟨false, G105, c105, r105⟩
theorem o105 : FunOk Try.prog 105 F105 := ⟨Try.f105, by kernel_rfl, k105, e105, by kernel_rfl, by kernel_rfl⟩
def G106 : Cfg := ⟨[], [(0, [0, 1]), (1, [4])], 9, []⟩
def r106 : List CRes := [.tmp 4]
def c106 : CCode :=
(.seq (.region [
 rs 4 (.move (.const (.bool false)))] (some [0, 1]))
(.seq (.region [
 rs 5 (.move (.tmp 0)),
 rs 6 (.move (.tmp 1)),
 ⟨(some 7), none, .call (.func 117) [(.tmp 5), (.tmp 6)]⟩,
 rs 8 (.bin .geq (.tmp 7) (ci 0)),
 rs 4 (.move (.tmp 8))] (some [4]))
.ret))
theorem k106 : Try.f106.body.bind (compC Try.prog G106) = some c106 := by kernel_rfl
theorem e106 : compRes Try.prog Try.f106.results.toList = some r106 := by kernel_rfl
def F106 : FunX := ⟨false, G106, c106, r106⟩
theorem o106 : FunOk Try.prog 106 F106 := ⟨Try.f106, by kernel_rfl, k106, e106, by kernel_rfl, by kernel_rfl⟩
def G107 : Cfg := ⟨[], [(0, [1, 2]), (1, [3])], 8, []⟩
def r107 : List CRes := [.tmp 3]
def c107 : CCode :=
(.seq (.region [
 rs 2 (.box false (.tmp 0)),
 rs 3 (.move (.const (.bool false)))] (some [1, 2]))
(.seq (.region [
 rs 4 (.load none (.tmp 1)),
 rs 5 (.load (some 3) (.tmp 2)),
 ⟨(some 6), none, .call (.tmp 4) [(.tmp 5)]⟩,
 rs 7 (.un .not (.tmp 6)),
 rs 3 (.move (.tmp 7))] (some [3]))
.ret))
theorem k107 : Try.f107.body.bind (compC Try.prog G107) = some c107 := by kernel_rfl
theorem e107 : compRes Try.prog Try.f107.results.toList = some r107 := by kernel_rfl
def F107 : FunX := ⟨false, G107, c107, r107⟩
theorem o107 : FunOk Try.prog 107 F107 := ⟨Try.f107, by kernel_rfl, k107, e107, by kernel_rfl, by kernel_rfl⟩
def G108 : Cfg := ⟨[3], [(0, [0, 3]), (1, [4])], 9, []⟩
def r108 : List CRes := [.tmp 4]
def c108 : CCode :=
(.seq (.region [
 rs 3 (.box true (.tmp 1)),
 rs 4 (.move (.const (.bool false)))] (some [0, 3]))
(.seq (.region [
 rs 5 (.move (.tmp 0)),
 rs 6 (.mkfn (.func 119) [] [(.tmp 3)]),
 ⟨(some 7), none, .call (.func 118) [(.tmp 5), (.tmp 6)]⟩,
 rs 8 (.un .not (.tmp 7)),
 rs 4 (.move (.tmp 8))] (some [4]))
.ret))
theorem k108 : Try.f108.body.bind (compC Try.prog G108) = some c108 := by kernel_rfl
theorem e108 : compRes Try.prog Try.f108.results.toList = some r108 := by kernel_rfl
def F108 : FunX := ⟨false, G108, c108, r108⟩
theorem o108 : FunOk Try.prog 108 F108 := ⟨Try.f108, by kernel_rfl, k108, e108, by kernel_rfl, by kernel_rfl⟩
def G109 : Cfg := ⟨[], [(0, [1, 2]), (1, [1, 2, 4]), (2, [4]), (3, [3])], 23, []⟩
def r109 : List CRes := [.tmp 3]
def c109 : CCode :=
(.seq (.region [
 rs 2 (.box false (.tmp 0)),
 rs 3 (.move (.const (.bool false)))] (some [1, 2]))
(.seq (.region [
 rs 5 (.fieldAddr 0 (.tmp 2)),
 rs 6 (.load none (.tmp 5)),
 rs 7 (.load none (.tmp 1)),
 rs 8 (.bin .add (.tmp 7) (ci 1)),
 ⟨(some 9), none, .call (.func 71) [(.tmp 6), (.tmp 8), (ci 11)]⟩,
 rs 10 (.move (.tmp 9)),
 rg 11 10 true (.fieldAddr 1 (.tmp 2)),
 rg 12 10 true (.load none (.tmp 11)),
 ⟨(some 13), (some (10, true)), .call (.func 71) [(.tmp 12), (ci 1), (ci 6)]⟩,
 rs 14 (.pick (.tmp 10) (.tmp 13) (.const (.bool false))),
 rs 15 (.move (.tmp 14)),
 rg 16 15 true (.fieldAddr 2 (.tmp 2)),
 rg 17 15 true (.load none (.tmp 16)),
 ⟨(some 18), (some (15, true)), .call (.func 71) [(.tmp 17), (ci 1), (ci 4)]⟩,
 rs 19 (.pick (.tmp 15) (.tmp 18) (.const (.bool false))),
 rs 4 (.move (.tmp 19))] (some [1, 2, 4]))
(.seq (.region [
 rs 20 (.fieldAddr 0 (.tmp 2)),
 rs 21 (.load none (.tmp 20)),
 rn (.store 1 (.tmp 1) (.tmp 21))] (some [4]))
(.seq (.region [
 rs 22 (.move (.tmp 4)),
 rs 3 (.move (.tmp 22))] (some [3]))
.ret))))
theorem k109 : Try.f109.body.bind (compC Try.prog G109) = some c109 := by kernel_rfl
theorem e109 : compRes Try.prog Try.f109.results.toList = some r109 := by kernel_rfl
def F109 : FunX := ⟨false, G109, c109, r109⟩
theorem o109 : FunOk Try.prog 109 F109 := ⟨Try.f109, by kernel_rfl, k109, e109, by kernel_rfl, by kernel_rfl⟩
def G110 : Cfg := ⟨[], [(0, [1, 2]), (1, [3])], 8, []⟩
def r110 : List CRes := [.tmp 3]
def c110 : CCode :=
(.seq (.region [
 rs 2 (.box false (.tmp 0)),
 rs 3 (.move (.const (.bool false)))] (some [1, 2]))
(.seq (.region [
 rs 4 (.load none (.tmp 1)),
 rs 5 (.load (some 2) (.tmp 2)),
 ⟨(some 6), none, .call (.tmp 4) [(.tmp 5)]⟩,
 rs 7 (.un .not (.tmp 6)),
 rs 3 (.move (.tmp 7))] (some [3]))
.ret))
theorem k110 : Try.f110.body.bind (compC Try.prog G110) = some c110 := by kernel_rfl
theorem e110 : compRes Try.prog Try.f110.results.toList = some r110 := by kernel_rfl
def F110 : FunX := ⟨false, G110, c110, r110⟩
theorem o110 : FunOk Try.prog 110 F110 := ⟨Try.f110, by kernel_rfl, k110, e110, by kernel_rfl, by kernel_rfl⟩
def G111 : Cfg := ⟨[3, 2, 4], [(0, [1, 2]), (1, [1, 2, 3]), (2, [1, 2, 3, 4]), (3, [4]), (4, [])], 8, []⟩
def r111 : List CRes := []
def c111 : CCode :=
(.seq (.region [
 rs 2 (.box true (.tmp 0))] (some [1, 2]))
(.seq (.region [
 rs 3 (.alloc [(.d .nils), (.d .nils)])] (some [1, 2, 3]))
(.seq (.region [
 rs 4 (.alloc [(.d .nilf)])] (some [1, 2, 3, 4]))
(.seq (.region [
 rs 5 (.mkfn (.func 112) [] [(.tmp 1), (.tmp 3), (.tmp 2), (.tmp 4)]),
 rn (.store 1 (.tmp 4) (.tmp 5))] (some [4]))
(.region [
 rs 6 (.load none (.tmp 4)),
 ⟨(some 7), none, .call (.tmp 6) [(ci 0)]⟩] (some []))))))
theorem k111 : Try.f111.body.bind (compC Try.prog G111) = some c111 := by kernel_rfl
theorem e111 : compRes Try.prog Try.f111.results.toList = some r111 := by kernel_rfl
def F111 : FunX := ⟨false, G111, c111, r111⟩
theorem o111 : FunOk Try.prog 111 F111 := ⟨Try.f111, by kernel_rfl, k111, e111, by kernel_rfl, by kernel_rfl⟩
def G112 : Cfg := ⟨[7], [(0, [0, 1, 2, 3, 4]), (1, [0, 1, 2, 3, 4, 19]), (2, [6]), (3, [0, 2, 4, 7]), (4, [0, 2, 4, 7, 8, 9]), (5, [0, 2, 4, 7, 8, 9, 10]), (6, [0, 2, 4, 7, 8, 9, 10, 48]), (8, [0, 2, 4, 7, 8, 9, 10, 11]), (9, [0, 2, 4, 7, 8, 9, 10, 11, 60]), (11, [0, 2, 4, 7, 8, 9, 10, 11]), (12, [0, 2, 4, 7, 8, 9, 10, 11, 83]), (13, [6]), (10, [0, 2, 4, 7, 8, 9, 10, 11]), (7, [0, 2, 4, 7, 8, 9, 10]), (14, [6])], 84, []⟩
def r112 : List CRes := [.tmp 6]
def c112 : CCode :=
(.seq (.region [
 rs 6 (.move (.const (.bool false)))] (some [0, 1, 2, 3, 4]))
(.seq (.seq (.region [
 rs 12 (.move (.tmp 0)),
 rs 13 (.load none (.tmp 1)),
 rs 14 (.nilCheck (.tmp 13)),
 rs 15 (.fieldAddr 0 (.tmp 14)),
 rs 16 (.fieldAddr 2 (.tmp 15)),
 rs 17 (.load none (.tmp 16)),
 rs 18 (.len (.tmp 17)),
 rs 19 (.bin .eql (.tmp 12) (.tmp 18))] (some [0, 1, 2, 3, 4, 19]))
(.cond (.tmp 19)
 (.seq (.region [
 rs 20 (.load none (.tmp 1)),
 rs 21 (.load (some 2) (.tmp 2)),
 ⟨(some 22), none, .call (.func 93) [(.tmp 20), (.tmp 21)]⟩,
 rs 23 (.un .not (.tmp 22)),
 rs 24 (.move (.tmp 23)),
 rg 25 24 false (.load none (.tmp 3)),
 rg 26 24 false (.load (some 2) (.tmp 2)),
 ⟨(some 27), (some (24, false)), .call (.tmp 25) [(.tmp 26)]⟩,
 rs 28 (.pick (.tmp 24) (.const (.bool true)) (.tmp 27)),
 rs 6 (.move (.tmp 28))] (some [6]))
 .ret)
 .skip))
(.seq (.region [
 rs 29 (.load none (.tmp 1)),
 rs 30 (.nilCheck (.tmp 29)),
 rs 31 (.fieldAddr 0 (.tmp 30)),
 rs 32 (.fieldAddr 2 (.tmp 31)),
 rs 33 (.load none (.tmp 32)),
 rs 34 (.move (.tmp 0)),
 rs 35 (.indexS 7 (.tmp 33) (.tmp 34)),
 rs 36 (.load (some 7) (.tmp 35)),
 rs 7 (.alloc [(.d (.int .i64 0)), (.d (.int .i64 0)), (.d (.int .i64 0)), (.d (.int .i64 0)), (.d (.int .i64 0)), (.d (.int .i64 0)), (.d (.int .i64 0))]),
 rn (.store 7 (.tmp 7) (.tmp 36))] (some [0, 2, 4, 7]))
(.seq (.region [
 rs 37 (.fieldAddr 0 (.tmp 2)),
 rs 38 (.load none (.tmp 37)),
 rs 39 (.fieldAddr 1 (.tmp 2)),
 rs 40 (.load none (.tmp 39)),
 rs 8 (.move (.tmp 38)),
 rs 9 (.move (.tmp 40))] (some [0, 2, 4, 7, 8, 9]))
(.seq (.seq (.region [
 rs 41 (.fieldAddr 3 (.tmp 7)),
 rs 42 (.fieldAddr 0 (.tmp 41)),
 rs 43 (.load none (.tmp 42)),
 rs 10 (.move (.tmp 43))] (some [0, 2, 4, 7, 8, 9, 10]))
(.block 0 (.loop (.seq (.seq (.region [
 rs 44 (.move (.tmp 10)),
 rs 45 (.fieldAddr 3 (.tmp 7)),
 rs 46 (.fieldAddr 1 (.tmp 45)),
 rs 47 (.load none (.tmp 46)),
 rs 48 (.bin .leq (.tmp 44) (.tmp 47))] (some [0, 2, 4, 7, 8, 9, 10, 48]))
 (.cond (.tmp 48)
 .skip
 (.exit 0)))
 (.seq (.block 1 (.seq (.region [
 rs 51 (.move (.tmp 10)),
 rs 52 (.fieldAddr 5 (.tmp 7)),
 rs 53 (.fieldAddr 0 (.tmp 52)),
 rs 54 (.load none (.tmp 53)),
 rs 55 (.max [(.tmp 51), (.tmp 54)]),
 rs 11 (.move (.tmp 55))] (some [0, 2, 4, 7, 8, 9, 10, 11]))
 (.block 2 (.loop (.seq (.seq (.region [
 rs 56 (.move (.tmp 11)),
 rs 57 (.fieldAddr 5 (.tmp 7)),
 rs 58 (.fieldAddr 1 (.tmp 57)),
 rs 59 (.load none (.tmp 58)),
 rs 60 (.bin .leq (.tmp 56) (.tmp 59))] (some [0, 2, 4, 7, 8, 9, 10, 11, 60]))
 (.cond (.tmp 60)
 .skip
 (.exit 2)))
 (.seq (.block 3 (.seq (.region [
 rs 63 (.move (.tmp 8)),
 rs 64 (.move (.tmp 0)),
 rs 65 (.move (.tmp 0)),
 rs 66 (.sliceS 1 (.tmp 63) none (some (.tmp 64)) (some (.tmp 65))),
 rs 67 (.move (.tmp 10)),
 rs 68 (.bslice false 3 1 1 [(.int .i64 0)] [(0, (.tmp 67))]),
 rs 69 (.append false 3 1 8 (.tmp 66) (.tmp 68)),
 rs 70 (.move (.tmp 9)),
 rs 71 (.move (.tmp 0)),
 rs 72 (.move (.tmp 0)),
 rs 73 (.sliceS 1 (.tmp 70) none (some (.tmp 71)) (some (.tmp 72))),
 rs 74 (.move (.tmp 11)),
 rs 75 (.bslice false 3 1 1 [(.int .i64 0)] [(0, (.tmp 74))]),
 rs 76 (.append false 3 1 8 (.tmp 73) (.tmp 75)),
 rs 77 (.fieldAddr 0 (.tmp 2)),
 rn (.store 1 (.tmp 77) (.tmp 69)),
 rs 78 (.fieldAddr 1 (.tmp 2)),
 rn (.store 1 (.tmp 78) (.tmp 76))] (some [0, 2, 4, 7, 8, 9, 10, 11]))
 (.seq (.region [
 rs 79 (.load none (.tmp 4)),
 rs 80 (.move (.tmp 0)),
 rs 81 (.bin .add (.tmp 80) (ci 1)),
 ⟨(some 82), none, .call (.tmp 79) [(.tmp 81)]⟩,
 rs 83 (.un .not (.tmp 82))] (some [0, 2, 4, 7, 8, 9, 10, 11, 83]))
 (.cond (.tmp 83)
 (.seq (.region [
 rs 6 (.move (.const (.bool false)))] (some [6]))
 .ret)
 .skip))))
 (.region [
 rs 61 (.move (.tmp 11)),
 rs 62 (.bin .add (.tmp 61) (ci 1)),
 rs 11 (.move (.tmp 62))] (some [0, 2, 4, 7, 8, 9, 10, 11]))))))))
 (.region [
 rs 49 (.move (.tmp 10)),
 rs 50 (.bin .add (.tmp 49) (ci 1)),
 rs 10 (.move (.tmp 50))] (some [0, 2, 4, 7, 8, 9, 10])))))))
(.seq (.region [
 rs 6 (.move (.const (.bool true)))] (some [6]))
.ret))))))
theorem k112 : Try.f112.body.bind (compC Try.prog G112) = some c112 := by kernel_rfl
theorem e112 : compRes Try.prog Try.f112.results.toList = some r112 := by kernel_rfl
def F112 : FunX := ⟨false, G112, c112, r112⟩
theorem o112 : FunOk Try.prog 112 F112 := ⟨Try.f112, by kernel_rfl, k112, e112, by kernel_rfl, by kernel_rfl⟩
def G113 : Cfg := ⟨[], [(0, [0]), (1, [0, 7]), (2, [0]), (3, [0, 3]), (4, [0, 3, 4]), (5, [0, 3, 4, 15]), (7, [0, 3, 4]), (6, [0, 3, 4]), (8, [2])], 25, []⟩
-- BAD 113 region 2 at sort.go:67: other op
def r113 : List CRes := [.tmp 2]
def c113 : CCode :=
(.seq (.region [
 rs 2 (.move (ci 0))] (some [0]))
(.seq (.seq (.region [
 rs 5 (.move (.tmp 0)),
 rs 6 (.len (.tmp 5)),
 rs 7 (.bin .lss (.tmp 6) (ci 1))] (some [0, 7]))
(.cond (.tmp 7)
 (.region [
 rs 8 (.bad),
 rn (.panic (.tmp 8))] (some [0]))
 .skip))
(.seq (.region [
 rs 9 (.move (.tmp 0)),
 rs 10 (.indexS 1 (.tmp 9) (ci 0)),
 rs 11 (.load none (.tmp 10)),
 rs 3 (.move (.tmp 11))] (some [0, 3]))
(.seq (.seq (.region [
 rs 4 (.move (ci 1))] (some [0, 3, 4]))
(.block 0 (.loop (.seq (.seq (.region [
 rs 12 (.move (.tmp 4)),
 rs 13 (.move (.tmp 0)),
 rs 14 (.len (.tmp 13)),
 rs 15 (.bin .lss (.tmp 12) (.tmp 14))] (some [0, 3, 4, 15]))
 (.cond (.tmp 15)
 .skip
 (.exit 0)))
 (.seq (.block 1 (.region [
 rs 18 (.move (.tmp 3)),
 rs 19 (.move (.tmp 0)),
 rs 20 (.move (.tmp 4)),
 rs 21 (.indexS 1 (.tmp 19) (.tmp 20)),
 rs 22 (.load none (.tmp 21)),
 rs 23 (.min [(.tmp 18), (.tmp 22)]),
 rs 3 (.move (.tmp 23))] (some [0, 3, 4])))
 (.region [
 rs 16 (.move (.tmp 4)),
 rs 17 (.bin .add (.tmp 16) (ci 1)),
 rs 4 (.move (.tmp 17))] (some [0, 3, 4])))))))
(.seq (.region [
 rs 24 (.move (.tmp 3)),
 rs 2 (.move (.tmp 24))] (some [2]))
.ret)))))
theorem k113 : Try.f113.body.bind (compC Try.prog G113) = some c113 := by kernel_rfl
theorem e113 : compRes Try.prog Try.f113.results.toList = some r113 := by kernel_rfl
def F113 : FunX := ⟨false, G113, c113, r113⟩
theorem o113 : FunOk Try.prog 113 F113 := ⟨Try.f113, by kernel_rfl, k113, e113, by kernel_rfl, by kernel_rfl⟩
def G114 : Cfg := ⟨[], [(0, [0, 1]), (1, [0, 1, 7, 8]), (2, [0, 1, 7, 8, 9]), (3, [0, 1, 5, 7, 8]), (4, [0, 1, 5, 7, 8, 16]), (5, [4]), (6, [0, 1, 7, 8]), (7, [4])], 19, []⟩
def r114 : List CRes := [.tmp 4]
def c114 : CCode :=
(.seq (.region [
 rs 4 (.move (ci 0))] (some [0, 1]))
(.seq (.seq (.region [
 rs 6 (.move (.tmp 0)),
 rs 7 (.len (.tmp 6)),
 rs 8 (.move (ci 0))] (some [0, 1, 7, 8]))
(.block 0 (.loop (.seq (.region [
 rs 9 (.bin .lss (.tmp 8) (.tmp 7))] (some [0, 1, 7, 8, 9]))
 (.seq (.cond (.tmp 9)
 .skip
 (.exit 0))
 (.seq (.block 1 (.seq (.region [
 rs 10 (.move (.tmp 8)),
 rs 5 (.move (.tmp 10))] (some [0, 1, 5, 7, 8]))
 (.seq (.region [
 rs 11 (.move (.tmp 1)),
 rs 12 (.move (.tmp 0)),
 rs 13 (.move (.tmp 5)),
 rs 14 (.indexS 2 (.tmp 12) (.tmp 13)),
 rs 15 (.load (some 2) (.tmp 14)),
 ⟨(some 16), none, .call (.tmp 11) [(.tmp 15)]⟩] (some [0, 1, 5, 7, 8, 16]))
 (.cond (.tmp 16)
 (.seq (.region [
 rs 17 (.move (.tmp 5)),
 rs 4 (.move (.tmp 17))] (some [4]))
 .ret)
 .skip))))
 (.region [
 rs 18 (.bin .add (.tmp 8) (ci 1)),
 rs 8 (.move (.tmp 18))] (some [0, 1, 7, 8]))))))))
(.seq (.region [
 ⟨(some 4), none, .simple (.move (ci (-1)))⟩] (some [4]))
.ret)))
theorem k114 : Try.f114.body.bind (compC Try.prog G114) = some c114 := by kernel_rfl
theorem e114 : compRes Try.prog Try.f114.results.toList = some r114 := by kernel_rfl
def F114 : FunX := ⟨false, G114, c114, r114⟩
theorem o114 : FunOk Try.prog 114 F114 := ⟨Try.f114, by kernel_rfl, k114, e114, by kernel_rfl, by kernel_rfl⟩
def G115 : Cfg := ⟨[], [(0, [0, 1]), (1, [0, 1, 7, 8]), (2, [0, 1, 7, 8, 9]), (3, [0, 1, 5, 7, 8]), (4, [0, 1, 5, 7, 8, 16]), (5, [4]), (6, [0, 1, 7, 8]), (7, [4])], 19, []⟩
def r115 : List CRes := [.tmp 4]
def c115 : CCode :=
(.seq (.region [
 rs 4 (.move (ci 0))] (some [0, 1]))
(.seq (.seq (.region [
 rs 6 (.move (.tmp 0)),
 rs 7 (.len (.tmp 6)),
 rs 8 (.move (ci 0))] (some [0, 1, 7, 8]))
(.block 0 (.loop (.seq (.region [
 rs 9 (.bin .lss (.tmp 8) (.tmp 7))] (some [0, 1, 7, 8, 9]))
 (.seq (.cond (.tmp 9)
 .skip
 (.exit 0))
 (.seq (.block 1 (.seq (.region [
 rs 10 (.move (.tmp 8)),
 rs 5 (.move (.tmp 10))] (some [0, 1, 5, 7, 8]))
 (.seq (.region [
 rs 11 (.move (.tmp 1)),
 rs 12 (.move (.tmp 0)),
 rs 13 (.move (.tmp 5)),
 rs 14 (.indexS 1 (.tmp 12) (.tmp 13)),
 rs 15 (.load none (.tmp 14)),
 ⟨(some 16), none, .call (.tmp 11) [(.tmp 15)]⟩] (some [0, 1, 5, 7, 8, 16]))
 (.cond (.tmp 16)
 (.seq (.region [
 rs 17 (.move (.tmp 5)),
 rs 4 (.move (.tmp 17))] (some [4]))
 .ret)
 .skip))))
 (.region [
 rs 18 (.bin .add (.tmp 8) (ci 1)),
 rs 8 (.move (.tmp 18))] (some [0, 1, 7, 8]))))))))
(.seq (.region [
 ⟨(some 4), none, .simple (.move (ci (-1)))⟩] (some [4]))
.ret)))
theorem k115 : Try.f115.body.bind (compC Try.prog G115) = some c115 := by kernel_rfl
theorem e115 : compRes Try.prog Try.f115.results.toList = some r115 := by kernel_rfl
def F115 : FunX := ⟨false, G115, c115, r115⟩
theorem o115 : FunOk Try.prog 115 F115 := ⟨Try.f115, by kernel_rfl, k115, e115, by kernel_rfl, by kernel_rfl⟩
def G116 : Cfg := ⟨[], [(0, [0, 1]), (1, [0, 1, 7, 8]), (2, [0, 1, 7, 8, 9]), (3, [0, 1, 5, 7, 8]), (4, [0, 1, 5, 7, 8, 16]), (5, [4]), (6, [0, 1, 7, 8]), (7, [4])], 19, []⟩
def r116 : List CRes := [.tmp 4]
def c116 : CCode :=
(.seq (.region [
 rs 4 (.move (ci 0))] (some [0, 1]))
(.seq (.seq (.region [
 rs 6 (.move (.tmp 0)),
 rs 7 (.len (.tmp 6)),
 rs 8 (.move (ci 0))] (some [0, 1, 7, 8]))
(.block 0 (.loop (.seq (.region [
 rs 9 (.bin .lss (.tmp 8) (.tmp 7))] (some [0, 1, 7, 8, 9]))
 (.seq (.cond (.tmp 9)
 .skip
 (.exit 0))
 (.seq (.block 1 (.seq (.region [
 rs 10 (.move (.tmp 8)),
 rs 5 (.move (.tmp 10))] (some [0, 1, 5, 7, 8]))
 (.seq (.region [
 rs 11 (.move (.tmp 1)),
 rs 12 (.move (.tmp 0)),
 rs 13 (.move (.tmp 5)),
 rs 14 (.indexS 7 (.tmp 12) (.tmp 13)),
 rs 15 (.load (some 7) (.tmp 14)),
 ⟨(some 16), none, .call (.tmp 11) [(.tmp 15)]⟩] (some [0, 1, 5, 7, 8, 16]))
 (.cond (.tmp 16)
 (.seq (.region [
 rs 17 (.move (.tmp 5)),
 rs 4 (.move (.tmp 17))] (some [4]))
 .ret)
 .skip))))
 (.region [
 rs 18 (.bin .add (.tmp 8) (ci 1)),
 rs 8 (.move (.tmp 18))] (some [0, 1, 7, 8]))))))))
(.seq (.region [
 ⟨(some 4), none, .simple (.move (ci (-1)))⟩] (some [4]))
.ret)))
theorem k116 : Try.f116.body.bind (compC Try.prog G116) = some c116 := by kernel_rfl
theorem e116 : compRes Try.prog Try.f116.results.toList = some r116 := by kernel_rfl
def F116 : FunX := ⟨false, G116, c116, r116⟩
theorem o116 : FunOk Try.prog 116 F116 := ⟨Try.f116, by kernel_rfl, k116, e116, by kernel_rfl, by kernel_rfl⟩
def G117 : Cfg := ⟨[], [(0, [0, 1]), (1, [0, 1, 7, 8]), (2, [0, 1, 7, 8, 9]), (3, [0, 1, 5, 7, 8]), (4, [0, 1, 5, 7, 8, 16]), (5, [4]), (6, [0, 1, 7, 8]), (7, [4])], 19, []⟩
def r117 : List CRes := [.tmp 4]
def c117 : CCode :=
(.seq (.region [
 rs 4 (.move (ci 0))] (some [0, 1]))
(.seq (.seq (.region [
 rs 6 (.move (.tmp 0)),
 rs 7 (.len (.tmp 6)),
 rs 8 (.move (ci 0))] (some [0, 1, 7, 8]))
(.block 0 (.loop (.seq (.region [
 rs 9 (.bin .lss (.tmp 8) (.tmp 7))] (some [0, 1, 7, 8, 9]))
 (.seq (.cond (.tmp 9)
 .skip
 (.exit 0))
 (.seq (.block 1 (.seq (.region [
 rs 10 (.move (.tmp 8)),
 rs 5 (.move (.tmp 10))] (some [0, 1, 5, 7, 8]))
 (.seq (.region [
 rs 11 (.move (.tmp 1)),
 rs 12 (.move (.tmp 0)),
 rs 13 (.move (.tmp 5)),
 rs 14 (.indexS 3 (.tmp 12) (.tmp 13)),
 rs 15 (.load (some 3) (.tmp 14)),
 ⟨(some 16), none, .call (.tmp 11) [(.tmp 15)]⟩] (some [0, 1, 5, 7, 8, 16]))
 (.cond (.tmp 16)
 (.seq (.region [
 rs 17 (.move (.tmp 5)),
 rs 4 (.move (.tmp 17))] (some [4]))
 .ret)
 .skip))))
 (.region [
 rs 18 (.bin .add (.tmp 8) (ci 1)),
 rs 8 (.move (.tmp 18))] (some [0, 1, 7, 8]))))))))
(.seq (.region [
 ⟨(some 4), none, .simple (.move (ci (-1)))⟩] (some [4]))
.ret)))
theorem k117 : Try.f117.body.bind (compC Try.prog G117) = some c117 := by kernel_rfl
theorem e117 : compRes Try.prog Try.f117.results.toList = some r117 := by kernel_rfl
def F117 : FunX := ⟨false, G117, c117, r117⟩
theorem o117 : FunOk Try.prog 117 F117 := ⟨Try.f117, by kernel_rfl, k117, e117, by kernel_rfl, by kernel_rfl⟩
def G118 : Cfg := ⟨[], [(0, [0, 1]), (1, [4])], 9, []⟩
def r118 : List CRes := [.tmp 4]
def c118 : CCode :=
(.seq (.region [
 rs 4 (.move (.const (.bool false)))] (some [0, 1]))
(.seq (.region [
 rs 5 (.move (.tmp 0)),
 rs 6 (.move (.tmp 1)),
 ⟨(some 7), none, .call (.func 120) [(.tmp 5), (.tmp 6)]⟩,
 rs 8 (.bin .geq (.tmp 7) (ci 0)),
 rs 4 (.move (.tmp 8))] (some [4]))
.ret))
theorem k118 : Try.f118.body.bind (compC Try.prog G118) = some c118 := by kernel_rfl
theorem e118 : compRes Try.prog Try.f118.results.toList = some r118 := by kernel_rfl
def F118 : FunX := ⟨false, G118, c118, r118⟩
theorem o118 : FunOk Try.prog 118 F118 := ⟨Try.f118, by kernel_rfl, k118, e118, by kernel_rfl, by kernel_rfl⟩
end Go.Proofs.Ytdnefcjbcieecaa
namespace Go.Proofs.Ytdnefcjbcieecaa
open Go Go.Proofs
def G119 : Cfg := ⟨[], [(0, [1, 2]), (1, [3])], 8, []⟩
def r119 : List CRes := [.tmp 3]
def c119 : CCode :=
(.seq (.region [
 rs 2 (.box false (.tmp 0)),
 rs 3 (.move (.const (.bool false)))] (some [1, 2]))
(.seq (.region [
 rs 4 (.load none (.tmp 1)),
 rs 5 (.load (some 3) (.tmp 2)),
 ⟨(some 6), none, .call (.tmp 4) [(.tmp 5)]⟩,
 rs 7 (.un .not (.tmp 6)),
 rs 3 (.move (.tmp 7))] (some [3]))
.ret))
theorem k119 : Try.f119.body.bind (compC Try.prog G119) = some c119 := by kernel_rfl
theorem e119 : compRes Try.prog Try.f119.results.toList = some r119 := by kernel_rfl
def F119 : FunX := ⟨false, G119, c119, r119⟩
theorem o119 : FunOk Try.prog 119 F119 := ⟨Try.f119, by kernel_rfl, k119, e119, by kernel_rfl, by kernel_rfl⟩
def G120 : Cfg := ⟨[], [(0, [0, 1]), (1, [0, 1, 7, 8]), (2, [0, 1, 7, 8, 9]), (3, [0, 1, 5, 7, 8]), (4, [0, 1, 5, 7, 8, 16]), (5, [4]), (6, [0, 1, 7, 8]), (7, [4])], 19, []⟩
def r120 : List CRes := [.tmp 4]
def c120 : CCode :=
(.seq (.region [
 rs 4 (.move (ci 0))] (some [0, 1]))
(.seq (.seq (.region [
 rs 6 (.move (.tmp 0)),
 rs 7 (.len (.tmp 6)),
 rs 8 (.move (ci 0))] (some [0, 1, 7, 8]))
(.block 0 (.loop (.seq (.region [
 rs 9 (.bin .lss (.tmp 8) (.tmp 7))] (some [0, 1, 7, 8, 9]))
 (.seq (.cond (.tmp 9)
 .skip
 (.exit 0))
 (.seq (.block 1 (.seq (.region [
 rs 10 (.move (.tmp 8)),
 rs 5 (.move (.tmp 10))] (some [0, 1, 5, 7, 8]))
 (.seq (.region [
 rs 11 (.move (.tmp 1)),
 rs 12 (.move (.tmp 0)),
 rs 13 (.move (.tmp 5)),
 rs 14 (.indexS 3 (.tmp 12) (.tmp 13)),
 rs 15 (.load (some 3) (.tmp 14)),
 ⟨(some 16), none, .call (.tmp 11) [(.tmp 15)]⟩] (some [0, 1, 5, 7, 8, 16]))
 (.cond (.tmp 16)
 (.seq (.region [
 rs 17 (.move (.tmp 5)),
 rs 4 (.move (.tmp 17))] (some [4]))
 .ret)
 .skip))))
 (.region [
 rs 18 (.bin .add (.tmp 8) (ci 1)),
 rs 8 (.move (.tmp 18))] (some [0, 1, 7, 8]))))))))
(.seq (.region [
 ⟨(some 4), none, .simple (.move (ci (-1)))⟩] (some [4]))
.ret)))
theorem k120 : Try.f120.body.bind (compC Try.prog G120) = some c120 := by kernel_rfl
theorem e120 : compRes Try.prog Try.f120.results.toList = some r120 := by kernel_rfl
-- no function 160
def F120 : FunX := ⟨false, G120, c120, r120⟩
theorem o120 : FunOk Try.prog 120 F120 := ⟨Try.f120, by kernel_rfl, k120, e120, by kernel_rfl, by kernel_rfl⟩
end Go.Proofs.Ytdnefcjbcieecaa
namespace Go.Proofs.Ytdnefcjbcieecaa
open Go Go.Proofs
noncomputable section
theorem q23 : FunIs Try.prog 23 G23 c23 r23 := ⟨Try.f23, Try.func23, k23, e23, by kernel_rfl, by kernel_rfl⟩
theorem q43 : FunIs Try.prog 43 G43 c43 r43 := ⟨Try.f43, Try.func43, k43, e43, by kernel_rfl, by kernel_rfl⟩
theorem q71 : FunIs Try.prog 71 G71 c71 r71 := ⟨Try.f71, Try.func71, k71, e71, by kernel_rfl, by kernel_rfl⟩
theorem q59 : FunIs Try.prog 59 G59 c59 r59 := ⟨Try.f59, Try.func59, k59, e59, by kernel_rfl, by kernel_rfl⟩
theorem q91 : FunIs Try.prog 91 G91 c91 r91 := ⟨Try.f91, Try.func91, k91, e91, by kernel_rfl, by kernel_rfl⟩
theorem q85 : FunIs Try.prog 85 G85 c85 r85 := ⟨Try.f85, Try.func85, k85, e85, by kernel_rfl, by kernel_rfl⟩
theorem q101 : FunIs Try.prog 101 G101 c101 r101 := ⟨Try.f101, Try.func101, k101, e101, by kernel_rfl, by kernel_rfl⟩
theorem q100 : FunIs Try.prog 100 G100 c100 r100 := ⟨Try.f100, Try.func100, k100, e100, by kernel_rfl, by kernel_rfl⟩
theorem q83 : FunIs Try.prog 83 G83 c83 r83 := ⟨Try.f83, Try.func83, k83, e83, by kernel_rfl, by kernel_rfl⟩
theorem q88 : FunIs Try.prog 88 G88 c88 r88 := ⟨Try.f88, Try.func88, k88, e88, by kernel_rfl, by kernel_rfl⟩
theorem q17 : FunIs Try.prog 17 G17 c17 r17 := ⟨Try.f17, Try.func17, k17, e17, by kernel_rfl, by kernel_rfl⟩
theorem q61 : FunIs Try.prog 61 G61 c61 r61 := ⟨Try.f61, Try.func61, k61, e61, by kernel_rfl, by kernel_rfl⟩
theorem q55 : FunIs Try.prog 55 G55 c55 r55 := ⟨Try.f55, Try.func55, k55, e55, by kernel_rfl, by kernel_rfl⟩
def X0 : Sx := mkX spNil
theorem X0_ok : SpOk Try.prog X0.sp := spNil_ok _
theorem w23 (n lo hi : Int) : sx X0 c23 [] (doneF 0 r23) (envOf [vi n, vi lo, vi hi]) [] [] =
    Tr.br (decide (lo ≤ n)) (Tr.done (V.d (D.bool (decide (n ≤ hi)))) []) (Tr.done (V.d (D.bool false)) []) := by kernel_rfl
theorem y23 (n lo hi : Int) : Yields Try.prog 23 [vi n, vi lo, vi hi] (vb (inR n lo hi)) := by
  refine q23.yields X0_ok rfl rfl rfl (w23 n lo hi) ?_
  simp only [holds]
  grind [VLe.of_eq, inR, vb]
theorem w71 (n lo hi : Int) : sx X0 c71 [] (doneF 0 r71) (envOf [vi n, vi lo, vi hi]) [] [] =
    Tr.br (decide (lo ≤ n)) (Tr.done (V.d (D.bool (decide (n ≤ hi)))) []) (Tr.done (V.d (D.bool false)) []) := by kernel_rfl
theorem y71 (n lo hi : Int) : Yields Try.prog 71 [vi n, vi lo, vi hi] (vb (inR n lo hi)) := by
  refine q71.yields X0_ok rfl rfl rfl (w71 n lo hi) ?_
  simp only [holds]
  grind [VLe.of_eq, inR, vb]
theorem w61 (r : Rng) : sx X0 c61 [] (doneF 0 r61) (envOf [Rv r]) [] [] =
    Tr.done (V.agg [V.d (D.int .i64 (Rng.lo r)), V.d (D.int .i64 (Rng.hi r))]) [] := by kernel_rfl
theorem y61 (r : Rng) : Yields Try.prog 61 [Rv r] (Rv r) := by
  refine q61.yields X0_ok rfl rfl rfl (w61 r) ?_
  simp only [holds]
  exact .refl _
theorem w55 (lo hi : Int) : sx X0 c55 [] (doneF 0 r55) (envOf [vi lo, vi hi]) [] [] =
    Tr.done (V.agg [V.d (D.int .i64 lo), V.d (D.int .i64 hi)]) [] := by kernel_rfl
theorem y55 (lo hi : Int) : Yields Try.prog 55 [vi lo, vi hi] (Rv ⟨lo, hi⟩) := by
  refine q55.yields X0_ok rfl rfl rfl (w55 lo hi) ?_
  simp only [holds]
  exact .refl _
def thin (c : Cmp) (t : Tru) : Bool := decide (c.held.length ≤ 7 ∧ c.trades.length ≤ 7 ∧ c.divs.length ≤ 7 ∧ c.splits.length ≤ 7 ∧ c.closed.length ≤ 7 ∧ t.sold.length ≤ 7 ∧ t.deliv.length ≤ 7)
theorem w17 (c : Cmp) (t : Tru) : sx X0 c17 [] (doneF 0 r17) (envOf [Cv c, Uv t]) [] [] =
    Tr.br (decide (Int.ofNat (List.length (Cmp.held c)) ≤ (7 : Int))) (Tr.br (decide (Int.ofNat (List.length (Cmp.trades c)) ≤ (7 : Int))) (Tr.br (decide (Int.ofNat (List.length (Cmp.divs c)) ≤ (7 : Int))) (Tr.br (decide (Int.ofNat (List.length (Cmp.splits c)) ≤ (7 : Int))) (Tr.br (decide (Int.ofNat (List.length (Cmp.closed c)) ≤ (7 : Int))) (Tr.br (decide (Int.ofNat (List.length (Tru.sold t)) ≤ (7 : Int))) (Tr.done (V.d (D.bool (decide (Int.ofNat (List.length (Tru.deliv t)) ≤ (7 : Int))))) []) (Tr.done (V.d (D.bool false)) [])) (Tr.done (V.d (D.bool false)) [])) (Tr.done (V.d (D.bool false)) [])) (Tr.done (V.d (D.bool false)) [])) (Tr.done (V.d (D.bool false)) [])) (Tr.done (V.d (D.bool false)) []) := by kernel_rfl
theorem y17 (c : Cmp) (t : Tru) : Yields Try.prog 17 [Cv c, Uv t] (vb (thin c t)) := by
  refine q17.yields X0_ok rfl rfl rfl (w17 c t) ?_
  simp only [holds]
  grind [VLe.of_eq, thin, vb]
def entIII (m : Int → Int → Int → V) : Ent := fun args h => match args with
  | [.d (.int .i64 a), .d (.int .i64 b), .d (.int .i64 c)] => some (True, m a b c, none)
  | _ => none
theorem entIII_ok {P : Program} {f : Nat} {m : Int → Int → Int → V} (hy : ∀ a b c, Yields P f [vi a, vi b, vi c] (m a b c)) : EntOk P f (entIII m) := by
  intro args h p v h' he hp
  unfold entIII at he
  split at he
  · cases he; exact hy _ _ _ h
  · cases he
def entI (m : Int → V) : Ent := fun args h => match args with
  | [.d (.int .i64 a)] => some (True, m a, none)
  | _ => none
theorem entI_ok {P : Program} {f : Nat} {m : Int → V} (hy : ∀ a, Yields P f [vi a] (m a)) : EntOk P f (entI m) := by
  intro args h p v h' he hp
  unfold entI at he
  split at he
  · cases he; exact hy _ h
  · cases he
def entII (m : Int → Int → V) : Ent := fun args h => match args with
  | [.d (.int .i64 a), .d (.int .i64 b)] => some (True, m a b, none)
  | _ => none
theorem entII_ok {P : Program} {f : Nat} {m : Int → Int → V} (hy : ∀ a b, Yields P f [vi a, vi b] (m a b)) : EntOk P f (entII m) := by
  intro args h p v h' he hp
  unfold entII at he
  split at he
  · cases he; exact hy _ _ h
  · cases he
def entR (m : Rng → V) : Ent := fun args h => match args with
  | [.agg [.d (.int .i64 a), .d (.int .i64 b)]] => some (True, m ⟨a, b⟩, none)
  | _ => none
theorem entR_ok {P : Program} {f : Nat} {m : Rng → V} (hy : ∀ r, Yields P f [Rv r] (m r)) : EntOk P f (entR m) := by
  intro args h p v h' he hp
  unfold entR at he
  split at he
  · cases he; exact hy ⟨_, _⟩ h
  · cases he
def entRI (m : Rng → Int → V) : Ent := fun args h => match args with
  | [.agg [.d (.int .i64 a), .d (.int .i64 b)], .d (.int .i64 n)] => some (True, m ⟨a, b⟩ n, none)
  | _ => none
theorem entRI_ok {P : Program} {f : Nat} {m : Rng → Int → V} (hy : ∀ r n, Yields P f [Rv r, vi n] (m r n)) : EntOk P f (entRI m) := by
  intro args h p v h' he hp
  unfold entRI at he
  split at he
  · cases he; exact hy ⟨_, _⟩ _ h
  · cases he
def asC : V → Option Cmp
  | .agg [.d (.int .i64 hs), .d (.sl false n1 d1), .d (.sl false n2 d2), .d (.sl false n3 d3), .d (.sl false n4 d4), .d (.sl false n5 d5)] => some (dC hs n1 d1 n2 d2 n3 d3 n4 d4 n5 d5)
  | _ => none
def asU : V → Option Tru
  | .agg [.d (.sl false n1 d1), .d (.sl false n2 d2)] => some (dU n1 d1 n2 d2)
  | _ => none
def ent23 := entIII fun n lo hi => vb (inR n lo hi)
theorem ent23_ok : EntOk Try.prog 23 ent23 := entIII_ok y23
def ent71 := entIII fun n lo hi => vb (inR n lo hi)
theorem ent71_ok : EntOk Try.prog 71 ent71 := entIII_ok y71
def ent61 := entR fun r => Rv r
theorem ent61_ok : EntOk Try.prog 61 ent61 := entR_ok y61
def ent55 := entII fun lo hi => Rv ⟨lo, hi⟩
theorem ent55_ok : EntOk Try.prog 55 ent55 := entII_ok y55
def tab1 : Spec := (spAdd 55 ent55 (spAdd 61 ent61 (spAdd 71 ent71 (spAdd 23 ent23 spNil))))
theorem tab1_ok : SpOk Try.prog tab1 := (spAdd_ok ent55_ok (spAdd_ok ent61_ok (spAdd_ok ent71_ok (spAdd_ok ent23_ok (spNil_ok _)))))
def X1 : Sx := mkX tab1
theorem X1_ok : SpOk Try.prog X1.sp := tab1_ok
theorem w59 (n : Int) : sx X1 c59 [] (doneF 0 r59) (envOf [vi n]) [] [] =
    Tr.need True (Tr.done (V.d (D.bool (inR n (0 : Int) (11 : Int)))) []) := by kernel_rfl
theorem y59 (n : Int) : Yields Try.prog 59 [vi n] (vb (isDay n)) := by
  refine q59.yields X1_ok rfl rfl rfl (w59 n) ?_
  simp only [holds]
  grind [VLe.of_eq, isDay, inR, vb]
theorem w43 (r : Rng) : sx X1 c43 [] (doneF 0 r43) (envOf [Rv r]) [] [] =
    Tr.need True (Tr.br (inR (Rng.lo r) (0 : Int) (Rng.hi r)) (Tr.done (V.d (D.bool (decide (Rng.hi r ≤ (11 : Int))))) []) (Tr.done (V.d (D.bool false)) [])) := by kernel_rfl
theorem y43 (r : Rng) : Yields Try.prog 43 [Rv r] (vb r.days) := by
  refine q43.yields X1_ok rfl rfl rfl (w43 r) ?_
  simp only [holds]
  grind [VLe.of_eq, Rng.days, inR, vb]
theorem w85 (r : Rng) (n : Int) : sx X1 c85 [] (doneF 0 r85) (envOf [Rv r, vi n]) [] [] =
    Tr.need True (Tr.done (V.d (D.bool (inR n (Rng.lo r) (Rng.hi r)))) []) := by kernel_rfl
theorem y85 (r : Rng) (n : Int) : Yields Try.prog 85 [Rv r, vi n] (vb (r.has n)) := by
  refine q85.yields X1_ok rfl rfl rfl (w85 r n) ?_
  simp only [holds]
  grind [VLe.of_eq, Rng.has, inR, vb]
theorem w100 (c : Cmp) (n : Int) (hc : 1 ≤ c.houses) (hc2 : c.houses ≤ 9223372036854775807) : sx X1 c100 [] (doneF 0 r100) (envOf [Cv c, vi n]) [] [] =
    Tr.need ((-9223372036854775808 : Int) ≤ Cmp.houses c - (1 : Int) ∧ Cmp.houses c - (1 : Int) ≤ (9223372036854775807 : Int)) (Tr.need True (Tr.done (V.d (D.bool (inR n (0 : Int) (Cmp.houses c - (1 : Int))))) [])) := by kernel_rfl
theorem y100 (c : Cmp) (n : Int) (hc : 1 ≤ c.houses) (hc2 : c.houses ≤ 9223372036854775807) : Yields Try.prog 100 [Cv c, vi n] (vb (inR n 0 (c.houses - 1))) := by
  refine q100.yields X1_ok rfl rfl rfl (w100 c n hc hc2) ?_
  simp only [holds]
  grind [VLe.of_eq, inR, vb]
def ent59 := entI fun n => vb (isDay n)
theorem ent59_ok : EntOk Try.prog 59 ent59 := entI_ok y59
def ent43 := entR fun r => vb r.days
theorem ent43_ok : EntOk Try.prog 43 ent43 := entR_ok y43
def ent85 := entRI fun r n => vb (r.has n)
theorem ent85_ok : EntOk Try.prog 85 ent85 := entRI_ok y85
def tab2 : Spec := (spAdd 85 ent85 (spAdd 43 ent43 (spAdd 59 ent59 tab1)))
theorem tab2_ok : SpOk Try.prog tab2 := (spAdd_ok ent85_ok (spAdd_ok ent43_ok (spAdd_ok ent59_ok tab1_ok)))
def X2 : Sx := mkX tab2
theorem X2_ok : SpOk Try.prog X2.sp := tab2_ok
theorem w91 (r : Rng) : sx X2 c91 [] (doneF 0 r91) (envOf [Rv r]) [] [] =
    Tr.need True (Tr.br (isDay (Rng.lo r)) (Tr.need True (Tr.br (isDay (Rng.hi r)) (Tr.done (V.d (D.bool (decide (Rng.lo r ≤ Rng.hi r)))) []) (Tr.done (V.d (D.bool false)) []))) (Tr.done (V.d (D.bool false)) [])) := by kernel_rfl
theorem y91 (r : Rng) : Yields Try.prog 91 [Rv r] (vb r.days) := by
  refine q91.yields X2_ok rfl rfl rfl (w91 r) ?_
  simp only [holds]
  grind [VLe.of_eq, Rng.days, isDay, inR, vb]
def ent91 := entR fun r => vb r.days
theorem ent91_ok : EntOk Try.prog 91 ent91 := entR_ok y91
def tab3 : Spec := (spAdd 91 ent91 tab2)
theorem tab3_ok : SpOk Try.prog tab3 := (spAdd_ok ent91_ok tab2_ok)
def X3 : Sx := mkX tab3
theorem X3_ok : SpOk Try.prog X3.sp := tab3_ok
theorem w101 (r : Rng) : sx X3 c101 [] (doneF 0 r101) (envOf [Rv r]) [] [] =
    Tr.need True (Tr.br (Rng.days { lo := Rng.lo r, hi := Rng.hi r }) (Tr.need ((-9223372036854775808 : Int) ≤ Rng.hi r - Rng.lo r ∧ Rng.hi r - Rng.lo r ≤ (9223372036854775807 : Int)) (Tr.done (V.d (D.bool (decide (Rng.hi r - Rng.lo r ≤ (2 : Int))))) [])) (Tr.done (V.d (D.bool false)) [])) := by kernel_rfl
theorem y101 (r : Rng) : Yields Try.prog 101 [Rv r] (vb r.short) := by
  refine q101.yields X3_ok rfl rfl rfl (w101 r) ?_
  simp only [holds]
  grind [VLe.of_eq, Rng.days, Rng.short, inR, vb]
theorem w88 (d : Dvd) : sx X3 c88 [] (doneF 0 r88) (envOf [Dv d]) [] [] =
    Tr.need True (Tr.br (Rng.days { lo := Dvd.ex d, hi := Dvd.record d }) (Tr.need True (Tr.done (V.d (D.bool (inR (Dvd.pence d) (0 : Int) (50 : Int)))) [])) (Tr.done (V.d (D.bool false)) [])) := by kernel_rfl
theorem y88 (d : Dvd) : Yields Try.prog 88 [Dv d] (vb (okDv d)) := by
  refine q88.yields X3_ok rfl rfl rfl (w88 d) ?_
  simp only [holds]
  grind [VLe.of_eq, Rng.days, okDv, inR, vb]
end
end Go.Proofs.Ytdnefcjbcieecaa
namespace Go.Proofs.Ytdnefcjbcieecaa
open Go Go.Proofs
noncomputable section
def XB (t : Nat) : Sx := { sp := spNil, md := fun k => bif Nat.beq k t then 1 else 0, sh := shI }
theorem XB_ok (t : Nat) : SpOk Try.prog (XB t).sp := spNil_ok _
def XI (t : Nat) : Sx := { sp := spNil, md := fun k => bif Nat.beq k t then 2 else 0, sh := shI }
theorem XI_ok (t : Nat) : SpOk Try.prog (XI t).sp := spNil_ok _
theorem q114 : FunIs Try.prog 114 G114 c114 r114 := ⟨Try.f114, Try.func114, k114, e114, by kernel_rfl, by kernel_rfl⟩
theorem q115 : FunIs Try.prog 115 G115 c115 r115 := ⟨Try.f115, Try.func115, k115, e115, by kernel_rfl, by kernel_rfl⟩
theorem q116 : FunIs Try.prog 116 G116 c116 r116 := ⟨Try.f116, Try.func116, k116, e116, by kernel_rfl, by kernel_rfl⟩
theorem q117 : FunIs Try.prog 117 G117 c117 r117 := ⟨Try.f117, Try.func117, k117, e117, by kernel_rfl, by kernel_rfl⟩
theorem q120 : FunIs Try.prog 120 G120 c120 r120 := ⟨Try.f120, Try.func120, k120, e120, by kernel_rfl, by kernel_rfl⟩
theorem q98 : FunIs Try.prog 98 G98 c98 r98 := ⟨Try.f98, Try.func98, k98, e98, by kernel_rfl, by kernel_rfl⟩
theorem q102 : FunIs Try.prog 102 G102 c102 r102 := ⟨Try.f102, Try.func102, k102, e102, by kernel_rfl, by kernel_rfl⟩
theorem q104 : FunIs Try.prog 104 G104 c104 r104 := ⟨Try.f104, Try.func104, k104, e104, by kernel_rfl, by kernel_rfl⟩
theorem q106 : FunIs Try.prog 106 G106 c106 r106 := ⟨Try.f106, Try.func106, k106, e106, by kernel_rfl, by kernel_rfl⟩
theorem q118 : FunIs Try.prog 118 G118 c118 r118 := ⟨Try.f118, Try.func118, k118, e118, by kernel_rfl, by kernel_rfl⟩
def Found (N : Nat) (p : Nat → Bool) (H : Nat → Heap) (yes : Nat → V) (no : V) (v : V) (h' : Heap) : Prop :=
  ∃ m, m ≤ N ∧ (∀ j, j < m → p j = false) ∧ ((m = N ∧ v = no ∧ h' = H m) ∨ (m < N ∧ p m = true ∧ v = yes m ∧ h' = H (m + 1)))
theorem w115 (l : List Int) (g : Nat) (a c : List V) (h : Heap) : sx (XB 16) c115 [] (doneK r115) (envOf [vsl eI l, .fn (.func g) a c]) [] h =
    Tr.lp (CCode.at c115 [1, 0, 1, 0, 0]) [Fr.blk (0), Fr.seq (CCode.at c115 [1, 1])] [(0, V.d (D.sl false (List.length l) (enc eI l))), (1, V.fn (Fn.func g) a c), (7, V.d (D.int .i64 (Int.ofNat (List.length l)))), (8, V.d (D.int .i64 (0 : Int)))] h := by kernel_rfl
def E115 (l : List Int) (g : Nat) (a c : List V) (k : Nat) : Env := [(0, vsl eI l), (1, .fn (.func g) a c), (7, vi l.length), (8, vi k)]
def S115 : List Fr := [Fr.blk 0, Fr.seq (CCode.at c115 [1, 1])]
theorem b115 (l : List Int) (g : Nat) (a c : List V) (h : Heap) (k : Nat) : sx (XB 16) (CCode.at c115 [1,0,1,0,0]) [] leafK (E115 l g a c k) [] h =
    Tr.br (decide (Int.ofNat k < Int.ofNat (List.length l))) (Tr.need ((0 : Int) ≤ Int.ofNat k ∧ Int.ofNat k < Int.ofNat (List.length l) ∧ okEl [0] (enc eI l) (1 : Nat) (Int.ofNat k)) (Tr.clB false (V.fn (Fn.func g) a c) [V.d (D.int .i64 (cI (enc eI l) (1 : Nat) (Int.ofNat k) (0 : Nat)))] h fun b h' => Tr.br b (Tr.leaf CExit.ret [(4, V.d (D.int .i64 (Int.ofNat k)))] h') (Tr.need ((-9223372036854775808 : Int) ≤ Int.ofNat k + (1 : Int) ∧ Int.ofNat k + (1 : Int) ≤ (9223372036854775807 : Int)) (Tr.leaf CExit.normal [(0, V.d (D.sl false (List.length l) (enc eI l))), (1, V.fn (Fn.func g) a c), (7, V.d (D.int .i64 (Int.ofNat (List.length l)))), (8, V.d (D.int .i64 (Int.ofNat k + (1 : Int))))] h')))) (Tr.leaf (CExit.exit (0)) [(0, V.d (D.sl false (List.length l) (enc eI l))), (1, V.fn (Fn.func g) a c), (7, V.d (D.int .i64 (Int.ofNat (List.length l)))), (8, V.d (D.int .i64 (Int.ofNat k))), (9, V.d (D.bool (decide (Int.ofNat k < Int.ofNat (List.length l)))))] h) := by kernel_rfl
theorem x115 (env : Env) (h : Heap) : sS (XB 16) (doneK r115) S115 (.exit 0) env [] h =
    Tr.done (V.d (D.int .i64 (-1 : Int))) h := by kernel_rfl
theorem t115 (k : Int) (h : Heap) : sS (XB 16) (doneK r115) S115 .ret [(4, .d (.int .i64 k))] [] h =
    Tr.done (V.d (D.int .i64 k)) h := by kernel_rfl
theorem i115 (l : List Int) (g : Nat) (a c : List V) (H : Nat → Heap) (p : Nat → Bool) (hl : l.length ≤ 140737488355328) (hH : ∀ k, (H k).length = (H 0).length ∧ (H k).all (blkBel (H 0).length) = true)
    (hb : bel2 (H 0).length (.fn (.func g) a c) = true) (hf : ∀ k : Nat, k < l.length → (∀ j, j < k → p j = false) → callV Try.prog (.fn (.func g) a c) [vi (lat l k)] (H k) fun v h' => v = vb (p k) ∧ h' = H (k + 1)) :
    ACalls Try.prog 115 [vsl eI l, .fn (.func g) a c] (H 0) (Found l.length p H (fun m => vi m) (vi (-1))) := by
  refine q115.calls (XB_ok 16) (h := H 0) rfl (w115 l g a c (H 0)) ?_
  simp only [holds]
  refine lp_count (XB_ok 16) l.length (fun k => ∀ j, j < k → p j = false) (E115 l g a c) H rfl rfl (fun j hj => by omega) (fun k _ => ⟨(hH k).1, ?_, (hH k).2⟩) ?_
  · show (true && (_ && (true && (true && true)))) = true
    simpa using hb
  intro k hk hA Q' hn he hr
  rw [b115]
  simp only [holds]
  refine ⟨fun h1 => ?_, fun h1 => ?_⟩
  · have hlt : k < l.length := by have := of_decide_eq_true h1; simp only [Int.ofNat_eq_natCast] at this; omega
    refine ⟨⟨by simp, by simpa using hlt, ok_I (by simpa using hlt)⟩, ?_⟩
    have := hf k hlt hA
    simp only [Int.ofNat_eq_natCast, cI_I]
    refine callV_holds ?_ this
    rintro v h' ⟨rfl, rfl⟩
    refine ⟨p k, rfl, fun e => (by cases e), fun hp => ?_, fun hp => ?_⟩
    · refine hr _ _ (ret_tree (XB_ok 16) (doneK_ok rfl) (t115 (k : Int) (H (k + 1))) ?_)
      simp only [holds]
      exact ⟨k, hk, hA, .inr ⟨hlt, hp, rfl, rfl⟩⟩
    · refine ⟨⟨by omega, by omega⟩, ?_⟩
      have := hn [] hlt (fun j hj => by
        rcases Nat.lt_or_ge j k with h | h
        · exact hA j h
        · have : j = k := by omega
          rw [this]; exact hp)
      rw [List.append_nil] at this
      exact this
  · have hge : k = l.length := by have := of_decide_eq_false h1; simp only [Int.ofNat_eq_natCast] at this; omega
    refine he _ _ _ (ret_tree (XB_ok 16) (doneK_ok rfl) (x115 _ (H k)) ?_)
    simp only [holds]
    exact ⟨k, hk, hA, .inl ⟨hge, rfl, rfl⟩⟩
theorem w102 (l : List Int) (g : Nat) (a c : List V) (h : Heap) : sx (XI 7) c102 [] (doneK r102) (envOf [vsl eI l, .fn (.func g) a c]) [] h =
    Tr.clI false (V.d (D.fn (Fn.func (115)))) [V.d (D.sl false (List.length l) (enc eI l)), V.fn (Fn.func g) a c] h fun b h' => Tr.done (V.d (D.bool (decide ((0 : Int) ≤ b)))) h' := by kernel_rfl
theorem i102 (l : List Int) (g : Nat) (a c : List V) (H : Nat → Heap) (p : Nat → Bool) (hl : l.length ≤ 140737488355328) (hH : ∀ k, (H k).length = (H 0).length ∧ (H k).all (blkBel (H 0).length) = true)
    (hb : bel2 (H 0).length (.fn (.func g) a c) = true) (hf : ∀ k : Nat, k < l.length → (∀ j, j < k → p j = false) → callV Try.prog (.fn (.func g) a c) [vi (lat l k)] (H k) fun v h' => v = vb (p k) ∧ h' = H (k + 1)) :
    ACalls Try.prog 102 [vsl eI l, .fn (.func g) a c] (H 0) (Found l.length p H (fun _ => vb true) (vb false)) := by
  refine q102.calls (XI_ok 7) (h := H 0) rfl (w102 l g a c (H 0)) ?_
  simp only [holds]
  refine callV_holds ?_ (i115 l g a c H p hl hH hb hf)
  rintro v h' ⟨m, hm, hA, ⟨h1, rfl, rfl⟩ | ⟨h1, h2, rfl, rfl⟩⟩
  · exact ⟨_, rfl, fun e => (by cases e), m, hm, hA, .inl ⟨h1, rfl, rfl⟩⟩
  · refine ⟨_, rfl, fun e => (by cases e), m, hm, hA, .inr ⟨h1, h2, ?_, rfl⟩⟩
    have : decide ((0 : Int) ≤ (m : Int)) = true := by simp
    exact congrArg (fun b => V.d (.bool b)) this
theorem w114 (l : List Rng) (g : Nat) (a c : List V) (h : Heap) : sx (XB 16) c114 [] (doneK r114) (envOf [vsl eR l, .fn (.func g) a c]) [] h =
    Tr.lp (CCode.at c114 [1, 0, 1, 0, 0]) [Fr.blk (0), Fr.seq (CCode.at c114 [1, 1])] [(0, V.d (D.sl false (List.length l) (enc eR l))), (1, V.fn (Fn.func g) a c), (7, V.d (D.int .i64 (Int.ofNat (List.length l)))), (8, V.d (D.int .i64 (0 : Int)))] h := by kernel_rfl
def E114 (l : List Rng) (g : Nat) (a c : List V) (k : Nat) : Env := [(0, vsl eR l), (1, .fn (.func g) a c), (7, vi l.length), (8, vi k)]
def S114 : List Fr := [Fr.blk 0, Fr.seq (CCode.at c114 [1, 1])]
theorem b114 (l : List Rng) (g : Nat) (a c : List V) (h : Heap) (k : Nat) : sx (XB 16) (CCode.at c114 [1,0,1,0,0]) [] leafK (E114 l g a c k) [] h =
    Tr.br (decide (Int.ofNat k < Int.ofNat (List.length l))) (Tr.need ((0 : Int) ≤ Int.ofNat k ∧ Int.ofNat k < Int.ofNat (List.length l) ∧ okEl [0, 0] (enc eR l) (2 : Nat) (Int.ofNat k)) (Tr.clB false (V.fn (Fn.func g) a c) [V.agg [V.d (D.int .i64 (cI (enc eR l) (2 : Nat) (Int.ofNat k) (0 : Nat))), V.d (D.int .i64 (cI (enc eR l) (2 : Nat) (Int.ofNat k) (1)))]] h fun b h' => Tr.br b (Tr.leaf CExit.ret [(4, V.d (D.int .i64 (Int.ofNat k)))] h') (Tr.need ((-9223372036854775808 : Int) ≤ Int.ofNat k + (1 : Int) ∧ Int.ofNat k + (1 : Int) ≤ (9223372036854775807 : Int)) (Tr.leaf CExit.normal [(0, V.d (D.sl false (List.length l) (enc eR l))), (1, V.fn (Fn.func g) a c), (7, V.d (D.int .i64 (Int.ofNat (List.length l)))), (8, V.d (D.int .i64 (Int.ofNat k + (1 : Int))))] h')))) (Tr.leaf (CExit.exit (0)) [(0, V.d (D.sl false (List.length l) (enc eR l))), (1, V.fn (Fn.func g) a c), (7, V.d (D.int .i64 (Int.ofNat (List.length l)))), (8, V.d (D.int .i64 (Int.ofNat k))), (9, V.d (D.bool (decide (Int.ofNat k < Int.ofNat (List.length l)))))] h) := by kernel_rfl
theorem x114 (env : Env) (h : Heap) : sS (XB 16) (doneK r114) S114 (.exit 0) env [] h =
    Tr.done (V.d (D.int .i64 (-1 : Int))) h := by kernel_rfl
theorem t114 (k : Int) (h : Heap) : sS (XB 16) (doneK r114) S114 .ret [(4, .d (.int .i64 k))] [] h =
    Tr.done (V.d (D.int .i64 k)) h := by kernel_rfl
theorem i114 (l : List Rng) (g : Nat) (a c : List V) (H : Nat → Heap) (p : Nat → Bool) (hl : l.length ≤ 140737488355328) (hH : ∀ k, (H k).length = (H 0).length ∧ (H k).all (blkBel (H 0).length) = true)
    (hb : bel2 (H 0).length (.fn (.func g) a c) = true) (hf : ∀ k : Nat, k < l.length → (∀ j, j < k → p j = false) → callV Try.prog (.fn (.func g) a c) [Rv (lat l k)] (H k) fun v h' => v = vb (p k) ∧ h' = H (k + 1)) :
    ACalls Try.prog 114 [vsl eR l, .fn (.func g) a c] (H 0) (Found l.length p H (fun m => vi m) (vi (-1))) := by
  refine q114.calls (XB_ok 16) (h := H 0) rfl (w114 l g a c (H 0)) ?_
  simp only [holds]
  refine lp_count (XB_ok 16) l.length (fun k => ∀ j, j < k → p j = false) (E114 l g a c) H rfl rfl (fun j hj => by omega) (fun k _ => ⟨(hH k).1, ?_, (hH k).2⟩) ?_
  · show (true && (_ && (true && (true && true)))) = true
    simpa using hb
  intro k hk hA Q' hn he hr
  rw [b114]
  simp only [holds]
  refine ⟨fun h1 => ?_, fun h1 => ?_⟩
  · have hlt : k < l.length := by have := of_decide_eq_true h1; simp only [Int.ofNat_eq_natCast] at this; omega
    refine ⟨⟨by simp, by simpa using hlt, ok_R (by simpa using hlt)⟩, ?_⟩
    have := hf k hlt hA
    simp only [Int.ofNat_eq_natCast, cI_R0, cI_R1]
    refine callV_holds ?_ this
    rintro v h' ⟨rfl, rfl⟩
    refine ⟨p k, rfl, fun e => (by cases e), fun hp => ?_, fun hp => ?_⟩
    · refine hr _ _ (ret_tree (XB_ok 16) (doneK_ok rfl) (t114 (k : Int) (H (k + 1))) ?_)
      simp only [holds]
      exact ⟨k, hk, hA, .inr ⟨hlt, hp, rfl, rfl⟩⟩
    · refine ⟨⟨by omega, by omega⟩, ?_⟩
      have := hn [] hlt (fun j hj => by
        rcases Nat.lt_or_ge j k with h | h
        · exact hA j h
        · have : j = k := by omega
          rw [this]; exact hp)
      rw [List.append_nil] at this
      exact this
  · have hge : k = l.length := by have := of_decide_eq_false h1; simp only [Int.ofNat_eq_natCast] at this; omega
    refine he _ _ _ (ret_tree (XB_ok 16) (doneK_ok rfl) (x114 _ (H k)) ?_)
    simp only [holds]
    exact ⟨k, hk, hA, .inl ⟨hge, rfl, rfl⟩⟩
theorem w98 (l : List Rng) (g : Nat) (a c : List V) (h : Heap) : sx (XI 7) c98 [] (doneK r98) (envOf [vsl eR l, .fn (.func g) a c]) [] h =
    Tr.clI false (V.d (D.fn (Fn.func (114)))) [V.d (D.sl false (List.length l) (enc eR l)), V.fn (Fn.func g) a c] h fun b h' => Tr.done (V.d (D.bool (decide ((0 : Int) ≤ b)))) h' := by kernel_rfl
theorem i98 (l : List Rng) (g : Nat) (a c : List V) (H : Nat → Heap) (p : Nat → Bool) (hl : l.length ≤ 140737488355328) (hH : ∀ k, (H k).length = (H 0).length ∧ (H k).all (blkBel (H 0).length) = true)
    (hb : bel2 (H 0).length (.fn (.func g) a c) = true) (hf : ∀ k : Nat, k < l.length → (∀ j, j < k → p j = false) → callV Try.prog (.fn (.func g) a c) [Rv (lat l k)] (H k) fun v h' => v = vb (p k) ∧ h' = H (k + 1)) :
    ACalls Try.prog 98 [vsl eR l, .fn (.func g) a c] (H 0) (Found l.length p H (fun _ => vb true) (vb false)) := by
  refine q98.calls (XI_ok 7) (h := H 0) rfl (w98 l g a c (H 0)) ?_
  simp only [holds]
  refine callV_holds ?_ (i114 l g a c H p hl hH hb hf)
  rintro v h' ⟨m, hm, hA, ⟨h1, rfl, rfl⟩ | ⟨h1, h2, rfl, rfl⟩⟩
  · exact ⟨_, rfl, fun e => (by cases e), m, hm, hA, .inl ⟨h1, rfl, rfl⟩⟩
  · refine ⟨_, rfl, fun e => (by cases e), m, hm, hA, .inr ⟨h1, h2, ?_, rfl⟩⟩
    have : decide ((0 : Int) ≤ (m : Int)) = true := by simp
    exact congrArg (fun b => V.d (.bool b)) this
theorem w116 (l : List Trd) (g : Nat) (a c : List V) (h : Heap) : sx (XB 16) c116 [] (doneK r116) (envOf [vsl eT l, .fn (.func g) a c]) [] h =
    Tr.lp (CCode.at c116 [1, 0, 1, 0, 0]) [Fr.blk (0), Fr.seq (CCode.at c116 [1, 1])] [(0, V.d (D.sl false (List.length l) (enc eT l))), (1, V.fn (Fn.func g) a c), (7, V.d (D.int .i64 (Int.ofNat (List.length l)))), (8, V.d (D.int .i64 (0 : Int)))] h := by kernel_rfl
def E116 (l : List Trd) (g : Nat) (a c : List V) (k : Nat) : Env := [(0, vsl eT l), (1, .fn (.func g) a c), (7, vi l.length), (8, vi k)]
def S116 : List Fr := [Fr.blk 0, Fr.seq (CCode.at c116 [1, 1])]
theorem b116 (l : List Trd) (g : Nat) (a c : List V) (h : Heap) (k : Nat) : sx (XB 16) (CCode.at c116 [1,0,1,0,0]) [] leafK (E116 l g a c k) [] h =
    Tr.br (decide (Int.ofNat k < Int.ofNat (List.length l))) (Tr.need ((0 : Int) ≤ Int.ofNat k ∧ Int.ofNat k < Int.ofNat (List.length l) ∧ okEl [0, 0, 0, 0, 0, 0, 0] (enc eT l) (7 : Nat) (Int.ofNat k)) (Tr.clB false (V.fn (Fn.func g) a c) [V.agg [V.d (D.int .i64 (cI (enc eT l) (7 : Nat) (Int.ofNat k) (0 : Nat))), V.d (D.int .i64 (cI (enc eT l) (7 : Nat) (Int.ofNat k) (1))), V.d (D.int .i64 (cI (enc eT l) (7 : Nat) (Int.ofNat k) (2))), V.d (D.int .i64 (cI (enc eT l) (7 : Nat) (Int.ofNat k) (3))), V.d (D.int .i64 (cI (enc eT l) (7 : Nat) (Int.ofNat k) (4))), V.d (D.int .i64 (cI (enc eT l) (7 : Nat) (Int.ofNat k) (5))), V.d (D.int .i64 (cI (enc eT l) (7 : Nat) (Int.ofNat k) (6)))]] h fun b h' => Tr.br b (Tr.leaf CExit.ret [(4, V.d (D.int .i64 (Int.ofNat k)))] h') (Tr.need ((-9223372036854775808 : Int) ≤ Int.ofNat k + (1 : Int) ∧ Int.ofNat k + (1 : Int) ≤ (9223372036854775807 : Int)) (Tr.leaf CExit.normal [(0, V.d (D.sl false (List.length l) (enc eT l))), (1, V.fn (Fn.func g) a c), (7, V.d (D.int .i64 (Int.ofNat (List.length l)))), (8, V.d (D.int .i64 (Int.ofNat k + (1 : Int))))] h')))) (Tr.leaf (CExit.exit (0)) [(0, V.d (D.sl false (List.length l) (enc eT l))), (1, V.fn (Fn.func g) a c), (7, V.d (D.int .i64 (Int.ofNat (List.length l)))), (8, V.d (D.int .i64 (Int.ofNat k))), (9, V.d (D.bool (decide (Int.ofNat k < Int.ofNat (List.length l)))))] h) := by kernel_rfl
theorem x116 (env : Env) (h : Heap) : sS (XB 16) (doneK r116) S116 (.exit 0) env [] h =
    Tr.done (V.d (D.int .i64 (-1 : Int))) h := by kernel_rfl
theorem t116 (k : Int) (h : Heap) : sS (XB 16) (doneK r116) S116 .ret [(4, .d (.int .i64 k))] [] h =
    Tr.done (V.d (D.int .i64 k)) h := by kernel_rfl
theorem i116 (l : List Trd) (g : Nat) (a c : List V) (H : Nat → Heap) (p : Nat → Bool) (hl : l.length ≤ 140737488355328) (hH : ∀ k, (H k).length = (H 0).length ∧ (H k).all (blkBel (H 0).length) = true)
    (hb : bel2 (H 0).length (.fn (.func g) a c) = true) (hf : ∀ k : Nat, k < l.length → (∀ j, j < k → p j = false) → callV Try.prog (.fn (.func g) a c) [Tv (lat l k)] (H k) fun v h' => v = vb (p k) ∧ h' = H (k + 1)) :
    ACalls Try.prog 116 [vsl eT l, .fn (.func g) a c] (H 0) (Found l.length p H (fun m => vi m) (vi (-1))) := by
  refine q116.calls (XB_ok 16) (h := H 0) rfl (w116 l g a c (H 0)) ?_
  simp only [holds]
  refine lp_count (XB_ok 16) l.length (fun k => ∀ j, j < k → p j = false) (E116 l g a c) H rfl rfl (fun j hj => by omega) (fun k _ => ⟨(hH k).1, ?_, (hH k).2⟩) ?_
  · show (true && (_ && (true && (true && true)))) = true
    simpa using hb
  intro k hk hA Q' hn he hr
  rw [b116]
  simp only [holds]
  refine ⟨fun h1 => ?_, fun h1 => ?_⟩
  · have hlt : k < l.length := by have := of_decide_eq_true h1; simp only [Int.ofNat_eq_natCast] at this; omega
    refine ⟨⟨by simp, by simpa using hlt, ok_T (by simpa using hlt)⟩, ?_⟩
    have := hf k hlt hA
    simp only [Int.ofNat_eq_natCast, cI_T0, cI_T1, cI_T2, cI_T3, cI_T4, cI_T5, cI_T6]
    refine callV_holds ?_ this
    rintro v h' ⟨rfl, rfl⟩
    refine ⟨p k, rfl, fun e => (by cases e), fun hp => ?_, fun hp => ?_⟩
    · refine hr _ _ (ret_tree (XB_ok 16) (doneK_ok rfl) (t116 (k : Int) (H (k + 1))) ?_)
      simp only [holds]
      exact ⟨k, hk, hA, .inr ⟨hlt, hp, rfl, rfl⟩⟩
    · refine ⟨⟨by omega, by omega⟩, ?_⟩
      have := hn [] hlt (fun j hj => by
        rcases Nat.lt_or_ge j k with h | h
        · exact hA j h
        · have : j = k := by omega
          rw [this]; exact hp)
      rw [List.append_nil] at this
      exact this
  · have hge : k = l.length := by have := of_decide_eq_false h1; simp only [Int.ofNat_eq_natCast] at this; omega
    refine he _ _ _ (ret_tree (XB_ok 16) (doneK_ok rfl) (x116 _ (H k)) ?_)
    simp only [holds]
    exact ⟨k, hk, hA, .inl ⟨hge, rfl, rfl⟩⟩
theorem w104 (l : List Trd) (g : Nat) (a c : List V) (h : Heap) : sx (XI 7) c104 [] (doneK r104) (envOf [vsl eT l, .fn (.func g) a c]) [] h =
    Tr.clI false (V.d (D.fn (Fn.func (116)))) [V.d (D.sl false (List.length l) (enc eT l)), V.fn (Fn.func g) a c] h fun b h' => Tr.done (V.d (D.bool (decide ((0 : Int) ≤ b)))) h' := by kernel_rfl
theorem i104 (l : List Trd) (g : Nat) (a c : List V) (H : Nat → Heap) (p : Nat → Bool) (hl : l.length ≤ 140737488355328) (hH : ∀ k, (H k).length = (H 0).length ∧ (H k).all (blkBel (H 0).length) = true)
    (hb : bel2 (H 0).length (.fn (.func g) a c) = true) (hf : ∀ k : Nat, k < l.length → (∀ j, j < k → p j = false) → callV Try.prog (.fn (.func g) a c) [Tv (lat l k)] (H k) fun v h' => v = vb (p k) ∧ h' = H (k + 1)) :
    ACalls Try.prog 104 [vsl eT l, .fn (.func g) a c] (H 0) (Found l.length p H (fun _ => vb true) (vb false)) := by
  refine q104.calls (XI_ok 7) (h := H 0) rfl (w104 l g a c (H 0)) ?_
  simp only [holds]
  refine callV_holds ?_ (i116 l g a c H p hl hH hb hf)
  rintro v h' ⟨m, hm, hA, ⟨h1, rfl, rfl⟩ | ⟨h1, h2, rfl, rfl⟩⟩
  · exact ⟨_, rfl, fun e => (by cases e), m, hm, hA, .inl ⟨h1, rfl, rfl⟩⟩
  · refine ⟨_, rfl, fun e => (by cases e), m, hm, hA, .inr ⟨h1, h2, ?_, rfl⟩⟩
    have : decide ((0 : Int) ≤ (m : Int)) = true := by simp
    exact congrArg (fun b => V.d (.bool b)) this
theorem w117 (l : List Dvd) (g : Nat) (a c : List V) (h : Heap) : sx (XB 16) c117 [] (doneK r117) (envOf [vsl eV l, .fn (.func g) a c]) [] h =
    Tr.lp (CCode.at c117 [1, 0, 1, 0, 0]) [Fr.blk (0), Fr.seq (CCode.at c117 [1, 1])] [(0, V.d (D.sl false (List.length l) (enc eV l))), (1, V.fn (Fn.func g) a c), (7, V.d (D.int .i64 (Int.ofNat (List.length l)))), (8, V.d (D.int .i64 (0 : Int)))] h := by kernel_rfl
def E117 (l : List Dvd) (g : Nat) (a c : List V) (k : Nat) : Env := [(0, vsl eV l), (1, .fn (.func g) a c), (7, vi l.length), (8, vi k)]
def S117 : List Fr := [Fr.blk 0, Fr.seq (CCode.at c117 [1, 1])]
theorem b117 (l : List Dvd) (g : Nat) (a c : List V) (h : Heap) (k : Nat) : sx (XB 16) (CCode.at c117 [1,0,1,0,0]) [] leafK (E117 l g a c k) [] h =
    Tr.br (decide (Int.ofNat k < Int.ofNat (List.length l))) (Tr.need ((0 : Int) ≤ Int.ofNat k ∧ Int.ofNat k < Int.ofNat (List.length l) ∧ okEl [0, 0, 0] (enc eV l) (3 : Nat) (Int.ofNat k)) (Tr.clB false (V.fn (Fn.func g) a c) [V.agg [V.d (D.int .i64 (cI (enc eV l) (3 : Nat) (Int.ofNat k) (0 : Nat))), V.d (D.int .i64 (cI (enc eV l) (3 : Nat) (Int.ofNat k) (1))), V.d (D.int .i64 (cI (enc eV l) (3 : Nat) (Int.ofNat k) (2)))]] h fun b h' => Tr.br b (Tr.leaf CExit.ret [(4, V.d (D.int .i64 (Int.ofNat k)))] h') (Tr.need ((-9223372036854775808 : Int) ≤ Int.ofNat k + (1 : Int) ∧ Int.ofNat k + (1 : Int) ≤ (9223372036854775807 : Int)) (Tr.leaf CExit.normal [(0, V.d (D.sl false (List.length l) (enc eV l))), (1, V.fn (Fn.func g) a c), (7, V.d (D.int .i64 (Int.ofNat (List.length l)))), (8, V.d (D.int .i64 (Int.ofNat k + (1 : Int))))] h')))) (Tr.leaf (CExit.exit (0)) [(0, V.d (D.sl false (List.length l) (enc eV l))), (1, V.fn (Fn.func g) a c), (7, V.d (D.int .i64 (Int.ofNat (List.length l)))), (8, V.d (D.int .i64 (Int.ofNat k))), (9, V.d (D.bool (decide (Int.ofNat k < Int.ofNat (List.length l)))))] h) := by kernel_rfl
theorem x117 (env : Env) (h : Heap) : sS (XB 16) (doneK r117) S117 (.exit 0) env [] h =
    Tr.done (V.d (D.int .i64 (-1 : Int))) h := by kernel_rfl
theorem t117 (k : Int) (h : Heap) : sS (XB 16) (doneK r117) S117 .ret [(4, .d (.int .i64 k))] [] h =
    Tr.done (V.d (D.int .i64 k)) h := by kernel_rfl
theorem i117 (l : List Dvd) (g : Nat) (a c : List V) (H : Nat → Heap) (p : Nat → Bool) (hl : l.length ≤ 140737488355328) (hH : ∀ k, (H k).length = (H 0).length ∧ (H k).all (blkBel (H 0).length) = true)
    (hb : bel2 (H 0).length (.fn (.func g) a c) = true) (hf : ∀ k : Nat, k < l.length → (∀ j, j < k → p j = false) → callV Try.prog (.fn (.func g) a c) [Dv (lat l k)] (H k) fun v h' => v = vb (p k) ∧ h' = H (k + 1)) :
    ACalls Try.prog 117 [vsl eV l, .fn (.func g) a c] (H 0) (Found l.length p H (fun m => vi m) (vi (-1))) := by
  refine q117.calls (XB_ok 16) (h := H 0) rfl (w117 l g a c (H 0)) ?_
  simp only [holds]
  refine lp_count (XB_ok 16) l.length (fun k => ∀ j, j < k → p j = false) (E117 l g a c) H rfl rfl (fun j hj => by omega) (fun k _ => ⟨(hH k).1, ?_, (hH k).2⟩) ?_
  · show (true && (_ && (true && (true && true)))) = true
    simpa using hb
  intro k hk hA Q' hn he hr
  rw [b117]
  simp only [holds]
  refine ⟨fun h1 => ?_, fun h1 => ?_⟩
  · have hlt : k < l.length := by have := of_decide_eq_true h1; simp only [Int.ofNat_eq_natCast] at this; omega
    refine ⟨⟨by simp, by simpa using hlt, ok_V (by simpa using hlt)⟩, ?_⟩
    have := hf k hlt hA
    simp only [Int.ofNat_eq_natCast, cI_V0, cI_V1, cI_V2]
    refine callV_holds ?_ this
    rintro v h' ⟨rfl, rfl⟩
    refine ⟨p k, rfl, fun e => (by cases e), fun hp => ?_, fun hp => ?_⟩
    · refine hr _ _ (ret_tree (XB_ok 16) (doneK_ok rfl) (t117 (k : Int) (H (k + 1))) ?_)
      simp only [holds]
      exact ⟨k, hk, hA, .inr ⟨hlt, hp, rfl, rfl⟩⟩
    · refine ⟨⟨by omega, by omega⟩, ?_⟩
      have := hn [] hlt (fun j hj => by
        rcases Nat.lt_or_ge j k with h | h
        · exact hA j h
        · have : j = k := by omega
          rw [this]; exact hp)
      rw [List.append_nil] at this
      exact this
  · have hge : k = l.length := by have := of_decide_eq_false h1; simp only [Int.ofNat_eq_natCast] at this; omega
    refine he _ _ _ (ret_tree (XB_ok 16) (doneK_ok rfl) (x117 _ (H k)) ?_)
    simp only [holds]
    exact ⟨k, hk, hA, .inl ⟨hge, rfl, rfl⟩⟩
theorem w106 (l : List Dvd) (g : Nat) (a c : List V) (h : Heap) : sx (XI 7) c106 [] (doneK r106) (envOf [vsl eV l, .fn (.func g) a c]) [] h =
    Tr.clI false (V.d (D.fn (Fn.func (117)))) [V.d (D.sl false (List.length l) (enc eV l)), V.fn (Fn.func g) a c] h fun b h' => Tr.done (V.d (D.bool (decide ((0 : Int) ≤ b)))) h' := by kernel_rfl
theorem i106 (l : List Dvd) (g : Nat) (a c : List V) (H : Nat → Heap) (p : Nat → Bool) (hl : l.length ≤ 140737488355328) (hH : ∀ k, (H k).length = (H 0).length ∧ (H k).all (blkBel (H 0).length) = true)
    (hb : bel2 (H 0).length (.fn (.func g) a c) = true) (hf : ∀ k : Nat, k < l.length → (∀ j, j < k → p j = false) → callV Try.prog (.fn (.func g) a c) [Dv (lat l k)] (H k) fun v h' => v = vb (p k) ∧ h' = H (k + 1)) :
    ACalls Try.prog 106 [vsl eV l, .fn (.func g) a c] (H 0) (Found l.length p H (fun _ => vb true) (vb false)) := by
  refine q106.calls (XI_ok 7) (h := H 0) rfl (w106 l g a c (H 0)) ?_
  simp only [holds]
  refine callV_holds ?_ (i117 l g a c H p hl hH hb hf)
  rintro v h' ⟨m, hm, hA, ⟨h1, rfl, rfl⟩ | ⟨h1, h2, rfl, rfl⟩⟩
  · exact ⟨_, rfl, fun e => (by cases e), m, hm, hA, .inl ⟨h1, rfl, rfl⟩⟩
  · refine ⟨_, rfl, fun e => (by cases e), m, hm, hA, .inr ⟨h1, h2, ?_, rfl⟩⟩
    have : decide ((0 : Int) ≤ (m : Int)) = true := by simp
    exact congrArg (fun b => V.d (.bool b)) this
theorem w120 (l : List Spl) (g : Nat) (a c : List V) (h : Heap) : sx (XB 16) c120 [] (doneK r120) (envOf [vsl eS l, .fn (.func g) a c]) [] h =
    Tr.lp (CCode.at c120 [1, 0, 1, 0, 0]) [Fr.blk (0), Fr.seq (CCode.at c120 [1, 1])] [(0, V.d (D.sl false (List.length l) (enc eS l))), (1, V.fn (Fn.func g) a c), (7, V.d (D.int .i64 (Int.ofNat (List.length l)))), (8, V.d (D.int .i64 (0 : Int)))] h := by kernel_rfl
def E120 (l : List Spl) (g : Nat) (a c : List V) (k : Nat) : Env := [(0, vsl eS l), (1, .fn (.func g) a c), (7, vi l.length), (8, vi k)]
def S120 : List Fr := [Fr.blk 0, Fr.seq (CCode.at c120 [1, 1])]
theorem b120 (l : List Spl) (g : Nat) (a c : List V) (h : Heap) (k : Nat) : sx (XB 16) (CCode.at c120 [1,0,1,0,0]) [] leafK (E120 l g a c k) [] h =
    Tr.br (decide (Int.ofNat k < Int.ofNat (List.length l))) (Tr.need ((0 : Int) ≤ Int.ofNat k ∧ Int.ofNat k < Int.ofNat (List.length l) ∧ okEl [0, 0, 0] (enc eS l) (3 : Nat) (Int.ofNat k)) (Tr.clB false (V.fn (Fn.func g) a c) [V.agg [V.d (D.int .i64 (cI (enc eS l) (3 : Nat) (Int.ofNat k) (0 : Nat))), V.d (D.int .i64 (cI (enc eS l) (3 : Nat) (Int.ofNat k) (1))), V.d (D.int .i64 (cI (enc eS l) (3 : Nat) (Int.ofNat k) (2)))]] h fun b h' => Tr.br b (Tr.leaf CExit.ret [(4, V.d (D.int .i64 (Int.ofNat k)))] h') (Tr.need ((-9223372036854775808 : Int) ≤ Int.ofNat k + (1 : Int) ∧ Int.ofNat k + (1 : Int) ≤ (9223372036854775807 : Int)) (Tr.leaf CExit.normal [(0, V.d (D.sl false (List.length l) (enc eS l))), (1, V.fn (Fn.func g) a c), (7, V.d (D.int .i64 (Int.ofNat (List.length l)))), (8, V.d (D.int .i64 (Int.ofNat k + (1 : Int))))] h')))) (Tr.leaf (CExit.exit (0)) [(0, V.d (D.sl false (List.length l) (enc eS l))), (1, V.fn (Fn.func g) a c), (7, V.d (D.int .i64 (Int.ofNat (List.length l)))), (8, V.d (D.int .i64 (Int.ofNat k))), (9, V.d (D.bool (decide (Int.ofNat k < Int.ofNat (List.length l)))))] h) := by kernel_rfl
theorem x120 (env : Env) (h : Heap) : sS (XB 16) (doneK r120) S120 (.exit 0) env [] h =
    Tr.done (V.d (D.int .i64 (-1 : Int))) h := by kernel_rfl
theorem t120 (k : Int) (h : Heap) : sS (XB 16) (doneK r120) S120 .ret [(4, .d (.int .i64 k))] [] h =
    Tr.done (V.d (D.int .i64 k)) h := by kernel_rfl
theorem i120 (l : List Spl) (g : Nat) (a c : List V) (H : Nat → Heap) (p : Nat → Bool) (hl : l.length ≤ 140737488355328) (hH : ∀ k, (H k).length = (H 0).length ∧ (H k).all (blkBel (H 0).length) = true)
    (hb : bel2 (H 0).length (.fn (.func g) a c) = true) (hf : ∀ k : Nat, k < l.length → (∀ j, j < k → p j = false) → callV Try.prog (.fn (.func g) a c) [Sv (lat l k)] (H k) fun v h' => v = vb (p k) ∧ h' = H (k + 1)) :
    ACalls Try.prog 120 [vsl eS l, .fn (.func g) a c] (H 0) (Found l.length p H (fun m => vi m) (vi (-1))) := by
  refine q120.calls (XB_ok 16) (h := H 0) rfl (w120 l g a c (H 0)) ?_
  simp only [holds]
  refine lp_count (XB_ok 16) l.length (fun k => ∀ j, j < k → p j = false) (E120 l g a c) H rfl rfl (fun j hj => by omega) (fun k _ => ⟨(hH k).1, ?_, (hH k).2⟩) ?_
  · show (true && (_ && (true && (true && true)))) = true
    simpa using hb
  intro k hk hA Q' hn he hr
  rw [b120]
  simp only [holds]
  refine ⟨fun h1 => ?_, fun h1 => ?_⟩
  · have hlt : k < l.length := by have := of_decide_eq_true h1; simp only [Int.ofNat_eq_natCast] at this; omega
    refine ⟨⟨by simp, by simpa using hlt, ok_S (by simpa using hlt)⟩, ?_⟩
    have := hf k hlt hA
    simp only [Int.ofNat_eq_natCast, cI_S0, cI_S1, cI_S2]
    refine callV_holds ?_ this
    rintro v h' ⟨rfl, rfl⟩
    refine ⟨p k, rfl, fun e => (by cases e), fun hp => ?_, fun hp => ?_⟩
    · refine hr _ _ (ret_tree (XB_ok 16) (doneK_ok rfl) (t120 (k : Int) (H (k + 1))) ?_)
      simp only [holds]
      exact ⟨k, hk, hA, .inr ⟨hlt, hp, rfl, rfl⟩⟩
    · refine ⟨⟨by omega, by omega⟩, ?_⟩
      have := hn [] hlt (fun j hj => by
        rcases Nat.lt_or_ge j k with h | h
        · exact hA j h
        · have : j = k := by omega
          rw [this]; exact hp)
      rw [List.append_nil] at this
      exact this
  · have hge : k = l.length := by have := of_decide_eq_false h1; simp only [Int.ofNat_eq_natCast] at this; omega
    refine he _ _ _ (ret_tree (XB_ok 16) (doneK_ok rfl) (x120 _ (H k)) ?_)
    simp only [holds]
    exact ⟨k, hk, hA, .inl ⟨hge, rfl, rfl⟩⟩
theorem w118 (l : List Spl) (g : Nat) (a c : List V) (h : Heap) : sx (XI 7) c118 [] (doneK r118) (envOf [vsl eS l, .fn (.func g) a c]) [] h =
    Tr.clI false (V.d (D.fn (Fn.func (120)))) [V.d (D.sl false (List.length l) (enc eS l)), V.fn (Fn.func g) a c] h fun b h' => Tr.done (V.d (D.bool (decide ((0 : Int) ≤ b)))) h' := by kernel_rfl
theorem i118 (l : List Spl) (g : Nat) (a c : List V) (H : Nat → Heap) (p : Nat → Bool) (hl : l.length ≤ 140737488355328) (hH : ∀ k, (H k).length = (H 0).length ∧ (H k).all (blkBel (H 0).length) = true)
    (hb : bel2 (H 0).length (.fn (.func g) a c) = true) (hf : ∀ k : Nat, k < l.length → (∀ j, j < k → p j = false) → callV Try.prog (.fn (.func g) a c) [Sv (lat l k)] (H k) fun v h' => v = vb (p k) ∧ h' = H (k + 1)) :
    ACalls Try.prog 118 [vsl eS l, .fn (.func g) a c] (H 0) (Found l.length p H (fun _ => vb true) (vb false)) := by
  refine q118.calls (XI_ok 7) (h := H 0) rfl (w118 l g a c (H 0)) ?_
  simp only [holds]
  refine callV_holds ?_ (i120 l g a c H p hl hH hb hf)
  rintro v h' ⟨m, hm, hA, ⟨h1, rfl, rfl⟩ | ⟨h1, h2, rfl, rfl⟩⟩
  · exact ⟨_, rfl, fun e => (by cases e), m, hm, hA, .inl ⟨h1, rfl, rfl⟩⟩
  · refine ⟨_, rfl, fun e => (by cases e), m, hm, hA, .inr ⟨h1, h2, ?_, rfl⟩⟩
    have : decide ((0 : Int) ≤ (m : Int)) = true := by simp
    exact congrArg (fun b => V.d (.bool b)) this
end
end Go.Proofs.Ytdnefcjbcieecaa
namespace Go.Proofs.Ytdnefcjbcieecaa
open Go Go.Proofs
noncomputable section
theorem q84 : FunIs Try.prog 84 G84 c84 r84 := ⟨Try.f84, Try.func84, k84, e84, by kernel_rfl, by kernel_rfl⟩
theorem q86 : FunIs Try.prog 86 G86 c86 r86 := ⟨Try.f86, Try.func86, k86, e86, by kernel_rfl, by kernel_rfl⟩
theorem q87 : FunIs Try.prog 87 G87 c87 r87 := ⟨Try.f87, Try.func87, k87, e87, by kernel_rfl, by kernel_rfl⟩
theorem q90 : FunIs Try.prog 90 G90 c90 r90 := ⟨Try.f90, Try.func90, k90, e90, by kernel_rfl, by kernel_rfl⟩
theorem q108 : FunIs Try.prog 108 G108 c108 r108 := ⟨Try.f108, Try.func108, k108, e108, by kernel_rfl, by kernel_rfl⟩
theorem q103 : FunIs Try.prog 103 G103 c103 r103 := ⟨Try.f103, Try.func103, k103, e103, by kernel_rfl, by kernel_rfl⟩
theorem q105 : FunIs Try.prog 105 G105 c105 r105 := ⟨Try.f105, Try.func105, k105, e105, by kernel_rfl, by kernel_rfl⟩
theorem q107 : FunIs Try.prog 107 G107 c107 r107 := ⟨Try.f107, Try.func107, k107, e107, by kernel_rfl, by kernel_rfl⟩
theorem q110 : FunIs Try.prog 110 G110 c110 r110 := ⟨Try.f110, Try.func110, k110, e110, by kernel_rfl, by kernel_rfl⟩
theorem q119 : FunIs Try.prog 119 G119 c119 r119 := ⟨Try.f119, Try.func119, k119, e119, by kernel_rfl, by kernel_rfl⟩
theorem q109 : FunIs Try.prog 109 G109 c109 r109 := ⟨Try.f109, Try.func109, k109, e109, by kernel_rfl, by kernel_rfl⟩
theorem q89 : FunIs Try.prog 89 G89 c89 r89 := ⟨Try.f89, Try.func89, k89, e89, by kernel_rfl, by kernel_rfl⟩
theorem q52 : FunIs Try.prog 52 G52 c52 r52 := ⟨Try.f52, Try.func52, k52, e52, by kernel_rfl, by kernel_rfl⟩
def ent100 : Ent := fun args h => match args with
  | [x, .d (.int .i64 n)] => match asC x with
    | some c => some (Cv c = x ∧ 1 ≤ c.houses ∧ c.houses ≤ 9223372036854775807, vb (inR n 0 (c.houses - 1)), none)
    | none => none
  | _ => none
theorem ent100_ok : EntOk Try.prog 100 ent100 := by
  intro args h p v h' he hp
  unfold ent100 at he
  split at he
  · split at he
    · cases he
      rw [← hp.1]
      exact y100 _ _ hp.2.1 hp.2.2 h
    · cases he
  · cases he
def ent101 := entR fun r => vb r.short
theorem ent101_ok : EntOk Try.prog 101 ent101 := entR_ok y101
def ent88 : Ent := fun args h => match args with
  | [.agg [.d (.int .i64 a), .d (.int .i64 b), .d (.int .i64 c)]] => some (True, vb (okDv ⟨a, b, c⟩), none)
  | _ => none
theorem ent88_ok : EntOk Try.prog 88 ent88 := by
  intro args h p v h' he hp
  unfold ent88 at he
  split at he
  · cases he; exact y88 ⟨_, _, _⟩ h
  · cases he
def tab4 : Spec := (spAdd 88 ent88 (spAdd 101 ent101 (spAdd 100 ent100 tab3)))
theorem tab4_ok : SpOk Try.prog tab4 := (spAdd_ok ent88_ok (spAdd_ok ent101_ok (spAdd_ok ent100_ok tab3_ok)))
def X4 : Sx := mkX tab4
theorem X4_ok : SpOk Try.prog X4.sp := tab4_ok
theorem w83 (c : Cmp) (t : Trd) (hc : 1 ≤ c.houses) (hc2 : c.houses ≤ 9223372036854775807) : sx X4 c83 [] (doneK r83) (envOf [Cv c, Tv t]) [] [] =
    Tr.need (Cv (dCe c) = Cv c ∧ (1 : Int) ≤ Cmp.houses (dCe c) ∧ Cmp.houses (dCe c) ≤ (9223372036854775807 : Int)) (Tr.br (inR (Trd.seller t) (0 : Int) (Cmp.houses (dCe c) - (1 : Int))) (Tr.need (Cv (dCe c) = Cv c ∧ (1 : Int) ≤ Cmp.houses (dCe c) ∧ Cmp.houses (dCe c) ≤ (9223372036854775807 : Int)) (Tr.br (inR (Trd.buyer t) (0 : Int) (Cmp.houses (dCe c) - (1 : Int))) (Tr.br (Trd.seller t != Trd.buyer t) (Tr.need True (Tr.br (inR (Trd.shares t) (1 : Int) (100 : Int)) (Tr.need True (Tr.br (Rng.short { lo := Rng.lo (Trd.sold t), hi := Rng.hi (Trd.sold t) }) (Tr.need True (Tr.done (V.d (D.bool (Rng.short { lo := Rng.lo (Trd.deliv t), hi := Rng.hi (Trd.deliv t) }))) [])) (Tr.done (V.d (D.bool false)) []))) (Tr.done (V.d (D.bool false)) []))) (Tr.done (V.d (D.bool false)) [])) (Tr.done (V.d (D.bool false)) []))) (Tr.done (V.d (D.bool false)) [])) := by kernel_rfl
theorem y83 (c : Cmp) (t : Trd) (hc : 1 ≤ c.houses) (hc2 : c.houses ≤ 9223372036854775807) : Yields Try.prog 83 [Cv c, Tv t] (vb (okTr c.houses t)) := by
  refine q83.yieldsK X4_ok rfl rfl rfl (w83 c t hc hc2) ?_
  simp only [holds]
  simp only [dC_enc]
  refine ⟨⟨trivial, hc, hc2⟩, ?_⟩
  grind [VLe.of_eq, okTr, Rng.short, inR, vb, Cv]
def ent83 : Ent := fun args h => match args with
  | [x, .agg [.d (.int .i64 a), .d (.int .i64 b), .d (.int .i64 e), .d (.int .i64 s1), .d (.int .i64 s2), .d (.int .i64 d1), .d (.int .i64 d2)]] => match asC x with
    | some c => some (Cv c = x ∧ 1 ≤ c.houses ∧ c.houses ≤ 9223372036854775807, vb (okTr c.houses ⟨a, b, e, ⟨s1, s2⟩, ⟨d1, d2⟩⟩), none)
    | none => none
  | _ => none
theorem ent83_ok : EntOk Try.prog 83 ent83 := by
  intro args h p v h' he hp
  unfold ent83 at he
  split at he
  · split at he
    · cases he
      rw [← hp.1]
      exact y83 _ ⟨_, _, _, ⟨_, _⟩, ⟨_, _⟩⟩ hp.2.1 hp.2.2 h
    · cases he
  · cases he
def tab5 : Spec := (spAdd 83 ent83 tab4)
theorem tab5_ok : SpOk Try.prog tab5 := (spAdd_ok ent83_ok tab4_ok)
def X5 : Sx := mkX tab5
theorem X5_ok : SpOk Try.prog X5.sp := tab5_ok
theorem found_all {α : Type} [Inhabited α] {l : List α} {p : α → Bool} {H : Nat → Heap} {v : V} {h' : Heap} (hf : Found l.length (fun k => !(p (lat l (k : Nat)))) H (fun _ => vb true) (vb false) v h') : v = .d (.bool (!(l.all p))) := by
  obtain ⟨m, hm, hA, ⟨h1, rfl, rfl⟩ | ⟨h1, h2, rfl, rfl⟩⟩ := hf
  · have : l.all p = true := by
      rw [List.all_eq_true]
      intro x hx
      obtain ⟨j, hj, rfl⟩ := List.getElem_of_mem hx
      have := hA j (by omega)
      simpa [lat, hj] using this
    rw [this]; rfl
  · have : l.all p = false := by
      rw [List.all_eq_false]
      exact ⟨lat l (m : Nat), by simp [lat, h1], by simpa using h2⟩
    rw [this]; rfl
def h103 (r : Rng) : Heap := [some (.box [.fn (.func 85) [Rv r] []])]
theorem w103 (r : Rng) (x : Int) : sx X5 c103 [] (doneK r103) (envOf [vi x, .ptr 0 0 0]) [] (h103 r) =
    Tr.need True (Tr.done (V.d (D.bool !Rng.has { lo := Rng.lo r, hi := Rng.hi r } x)) [some (Blk.box [V.fn (Fn.func (85)) [V.agg [V.d (D.int .i64 (Rng.lo r)), V.d (D.int .i64 (Rng.hi r))]] []])]) := by kernel_rfl
theorem cl103 (r : Rng) (x : Int) : ACalls Try.prog 103 [vi x, .ptr 0 0 0] (h103 r) fun v h' => v = vb (!(r.has x)) ∧ h' = h103 r :=
  q103.calls X5_ok (h := h103 r) rfl (w103 r x) (by simp only [holds]; exact ⟨trivial, rfl, rfl⟩)
theorem w84 (l : List Int) (r : Rng) : sx (XB 7) c84 [] (doneK r84) (envOf [vsl eI l, .fn (.func 85) [Rv r] []]) [] [] =
    Tr.clB false (V.d (D.fn (Fn.func (102)))) [V.d (D.sl false (List.length l) (enc eI l)), V.fn (Fn.func (103)) [] [V.ptr (0) (0) (0)]] [some (Blk.box [V.fn (Fn.func (85)) [V.agg [V.d (D.int .i64 (Rng.lo r)), V.d (D.int .i64 (Rng.hi r))]] []])] fun b h' => Tr.done (V.d (D.bool !b)) h' := by kernel_rfl
theorem y84 (l : List Int) (r : Rng) (hl : l.length ≤ 140737488355328) : Yields Try.prog 84 [vsl eI l, .fn (.func 85) [Rv r] []] (vb (l.all r.has)) := by
  refine q84.yieldsK (XB_ok 7) rfl rfl rfl (w84 l r) ?_
  simp only [holds]
  refine callV_holds ?_ (i102 l 103 [] [.ptr 0 0 0] (fun _ => h103 r) (fun k => !(r.has (lat l (k : Nat)))) hl (fun _ => ⟨rfl, rfl⟩) rfl (fun k hk _ => cl103 r _))
  intro v h' hf
  exact ⟨_, found_all hf, fun e => (by cases e), .of_eq (by rw [Bool.not_not]; rfl)⟩
def h105 (c : Cmp) : Heap := [some (.box [.fn (.func 83) [Cv c] []])]
theorem w105 (c : Cmp) (t : Trd) : sx X5 c105 [] (doneK r105) (envOf [Tv t, .ptr 0 0 0]) [] (h105 c) =
    Tr.need (Cv (dCe c) = Cv c ∧ (1 : Int) ≤ Cmp.houses (dCe c) ∧ Cmp.houses (dCe c) ≤ (9223372036854775807 : Int)) (Tr.done (V.d (D.bool !okTr (Cmp.houses (dCe c)) { seller := Trd.seller t, buyer := Trd.buyer t, shares := Trd.shares t, sold := { lo := Rng.lo (Trd.sold t), hi := Rng.hi (Trd.sold t) }, deliv := { lo := Rng.lo (Trd.deliv t), hi := Rng.hi (Trd.deliv t) } })) [some (Blk.box [V.fn (Fn.func (83)) [Cv c] []])]) := by kernel_rfl
theorem cl105 (c : Cmp) (t : Trd) (hc : 1 ≤ c.houses) (hc2 : c.houses ≤ 9223372036854775807) : ACalls Try.prog 105 [Tv t, .ptr 0 0 0] (h105 c) fun v h' => v = vb (!(okTr c.houses t)) ∧ h' = h105 c :=
  q105.calls X5_ok (h := h105 c) rfl (w105 c t) (by simp only [holds, dC_enc]; exact ⟨⟨trivial, hc, hc2⟩, rfl, rfl⟩)
theorem w86 (l : List Trd) (c : Cmp) : sx (XB 7) c86 [] (doneK r86) (envOf [vsl eT l, .fn (.func 83) [Cv c] []]) [] [] =
    Tr.clB false (V.d (D.fn (Fn.func (104)))) [V.d (D.sl false (List.length l) (enc eT l)), V.fn (Fn.func (105)) [] [V.ptr (0) (0) (0)]] [some (Blk.box [V.fn (Fn.func (83)) [Cv c] []])] fun b h' => Tr.done (V.d (D.bool !b)) h' := by kernel_rfl
theorem y86 (l : List Trd) (c : Cmp) (hc : 1 ≤ c.houses) (hc2 : c.houses ≤ 9223372036854775807) (hl : l.length ≤ 140737488355328) : Yields Try.prog 86 [vsl eT l, .fn (.func 83) [Cv c] []] (vb (l.all (okTr c.houses))) := by
  refine q86.yieldsK (XB_ok 7) rfl rfl rfl (w86 l c) ?_
  simp only [holds]
  refine callV_holds ?_ (i104 l 105 [] [.ptr 0 0 0] (fun _ => h105 c) (fun k => !(okTr c.houses (lat l (k : Nat)))) hl (fun _ => ⟨rfl, rfl⟩) rfl (fun k hk _ => cl105 c _ hc hc2))
  intro v h' hf
  exact ⟨_, found_all hf, fun e => (by cases e), .of_eq (by rw [Bool.not_not]; rfl)⟩
def h107 : Heap := [some (.box [.d (.fn (.func 88))])]
theorem w107 (t : Dvd) : sx X5 c107 [] (doneK r107) (envOf [Dv t, .ptr 0 0 0]) [] h107 =
    Tr.need True (Tr.done (V.d (D.bool !okDv { ex := Dvd.ex t, record := Dvd.record t, pence := Dvd.pence t })) [some (Blk.box [V.d (D.fn (Fn.func (88)))])]) := by kernel_rfl
theorem cl107 (t : Dvd) : ACalls Try.prog 107 [Dv t, .ptr 0 0 0] h107 fun v h' => v = vb (!(okDv t)) ∧ h' = h107 :=
  q107.calls X5_ok (h := h107) rfl (w107 t) (by simp only [holds]; exact ⟨trivial, rfl, rfl⟩)
theorem w87 (l : List Dvd) : sx (XB 7) c87 [] (doneK r87) (envOf [vsl eV l, .d (.fn (.func 88))]) [] [] =
    Tr.clB false (V.d (D.fn (Fn.func (106)))) [V.d (D.sl false (List.length l) (enc eV l)), V.fn (Fn.func (107)) [] [V.ptr (0) (0) (0)]] [some (Blk.box [V.d (D.fn (Fn.func (88)))])] fun b h' => Tr.done (V.d (D.bool !b)) h' := by kernel_rfl
theorem y87 (l : List Dvd) (hl : l.length ≤ 140737488355328) : Yields Try.prog 87 [vsl eV l, .d (.fn (.func 88))] (vb (l.all okDv)) := by
  refine q87.yieldsK (XB_ok 7) rfl rfl rfl (w87 l) ?_
  simp only [holds]
  refine callV_holds ?_ (i106 l 107 [] [.ptr 0 0 0] (fun _ => h107) (fun k => !(okDv (lat l (k : Nat)))) hl (fun _ => ⟨rfl, rfl⟩) rfl (fun k hk _ => cl107 _))
  intro v h' hf
  exact ⟨_, found_all hf, fun e => (by cases e), .of_eq (by rw [Bool.not_not]; rfl)⟩
def h110 : Heap := [some (.box [.d (.fn (.func 91))])]
theorem w110 (t : Rng) : sx X5 c110 [] (doneK r110) (envOf [Rv t, .ptr 0 0 0]) [] h110 =
    Tr.need True (Tr.done (V.d (D.bool !Rng.days { lo := Rng.lo t, hi := Rng.hi t })) [some (Blk.box [V.d (D.fn (Fn.func (91)))])]) := by kernel_rfl
theorem cl110 (t : Rng) : ACalls Try.prog 110 [Rv t, .ptr 0 0 0] h110 fun v h' => v = vb (!(t.days)) ∧ h' = h110 :=
  q110.calls X5_ok (h := h110) rfl (w110 t) (by simp only [holds]; exact ⟨trivial, rfl, rfl⟩)
theorem w90 (l : List Rng) : sx (XB 7) c90 [] (doneK r90) (envOf [vsl eR l, .d (.fn (.func 91))]) [] [] =
    Tr.clB false (V.d (D.fn (Fn.func (98)))) [V.d (D.sl false (List.length l) (enc eR l)), V.fn (Fn.func (110)) [] [V.ptr (0) (0) (0)]] [some (Blk.box [V.d (D.fn (Fn.func (91)))])] fun b h' => Tr.done (V.d (D.bool !b)) h' := by kernel_rfl
theorem y90 (l : List Rng) (hl : l.length ≤ 140737488355328) : Yields Try.prog 90 [vsl eR l, .d (.fn (.func 91))] (vb (l.all Rng.days)) := by
  refine q90.yieldsK (XB_ok 7) rfl rfl rfl (w90 l) ?_
  simp only [holds]
  refine callV_holds ?_ (i98 l 110 [] [.ptr 0 0 0] (fun _ => h110) (fun k => !((lat l (k : Nat)).days)) hl (fun _ => ⟨rfl, rfl⟩) rfl (fun k hk _ => cl110 _))
  intro v h' hf
  exact ⟨_, found_all hf, fun e => (by cases e), .of_eq (by rw [Bool.not_not]; rfl)⟩
def okSp (last : Int) (s : Spl) : Bool := decide (last + 1 ≤ s.day ∧ s.day ≤ 11 ∧ 1 ≤ s.num ∧ s.num ≤ 6 ∧ 1 ≤ s.den ∧ s.den ≤ 4)
def okSs : Int → List Spl → Bool
  | _, [] => true
  | last, s :: l => okSp last s && okSs s.day l
def lastAt (l : List Spl) (k : Nat) : Int := if k = 0 then -1 else (lat l ((k : Int) - 1)).day
def h109 (last : Int) : Heap := [some (.box [vi last]), some (.box [.fn (.func 109) [] [.ptr 0 0 0]])]
theorem w109 (s : Spl) (last : Int) (rest : Heap) : sx X5 c109 [] (doneK r109) (envOf [Sv s, .ptr 0 0 0]) [] (some (.box [vi last]) :: rest) =
    Tr.need ((-9223372036854775808 : Int) ≤ last + (1 : Int) ∧ last + (1 : Int) ≤ (9223372036854775807 : Int)) (Tr.need True (Tr.br (inR (Spl.day s) (last + (1 : Int)) (11 : Int)) (Tr.need True (Tr.br (inR (Spl.num s) (1 : Int) (6 : Int)) (Tr.need True (Tr.done (V.d (D.bool (inR (Spl.den s) (1 : Int) (4 : Int)))) (some (Blk.box [V.d (D.int .i64 (Spl.day s))]) :: rest))) (Tr.done (V.d (D.bool false)) (some (Blk.box [V.d (D.int .i64 (Spl.day s))]) :: rest)))) (Tr.done (V.d (D.bool false)) (some (Blk.box [V.d (D.int .i64 (Spl.day s))]) :: rest)))) := by kernel_rfl
theorem cl109 (s : Spl) (last : Int) (h1 : -1 ≤ last) (h2 : last ≤ 11) (rest : Heap) : ACalls Try.prog 109 [Sv s, .ptr 0 0 0] (some (.box [vi last]) :: rest) fun v h' => v = vb (okSp last s) ∧ h' = some (.box [vi s.day]) :: rest :=
  q109.calls X5_ok (h := some (.box [vi last]) :: rest) rfl (w109 s last rest) (by simp only [holds]; grind [okSp, inR, vb, vi])
def ent109 : Ent := fun args h => match args, h with
  | [.agg [.d (.int .i64 a), .d (.int .i64 b), .d (.int .i64 c)], .ptr 0 0 0], some (.box [.d (.int .i64 last)]) :: rest => some (-1 ≤ last ∧ last ≤ 11, vb (okSp last ⟨a, b, c⟩), some (some (.box [vi a]) :: rest))
  | _, _ => none
theorem ent109_ok : EntOk Try.prog 109 ent109 := by
  intro args h p v h' he hp
  unfold ent109 at he
  split at he
  · cases he; exact cl109 ⟨_, _, _⟩ _ hp.1 hp.2 _
  · cases he
def tab109 : Spec := (spAdd 109 ent109 spNil)
theorem tab109_ok : SpOk Try.prog tab109 := (spAdd_ok ent109_ok (spNil_ok _))
def X109 : Sx := mkX tab109
theorem X109_ok : SpOk Try.prog X109.sp := tab109_ok
theorem w119 (s : Spl) (last : Int) : sx X109 c119 [] (doneK r119) (envOf [Sv s, .ptr 1 0 0]) [] (h109 last) =
    Tr.need ((-1 : Int) ≤ last ∧ last ≤ (11 : Int)) (Tr.done (V.d (D.bool !okSp last { day := Spl.day s, num := Spl.num s, den := Spl.den s })) [some (Blk.box [V.d (D.int .i64 (Spl.day s))]), some (Blk.box [V.fn (Fn.func (109)) [] [V.ptr (0) (0) (0)]])]) := by kernel_rfl
theorem cl119 (s : Spl) (last : Int) (h1 : -1 ≤ last) (h2 : last ≤ 11) : ACalls Try.prog 119 [Sv s, .ptr 1 0 0] (h109 last) fun v h' => v = vb (!(okSp last s)) ∧ h' = h109 s.day :=
  q119.calls X109_ok (h := h109 last) rfl (w119 s last) (by simp only [holds]; exact ⟨⟨h1, h2⟩, rfl, rfl⟩)
theorem w108 (l : List Spl) (last : Int) : sx (XB 7) c108 [] (doneK r108) (envOf [vsl eS l, .fn (.func 109) [] [.ptr 0 0 0]]) [] [some (.box [vi last])] =
    Tr.clB false (V.d (D.fn (Fn.func (118)))) [V.d (D.sl false (List.length l) (enc eS l)), V.fn (Fn.func (119)) [] [V.ptr (1) (0) (0)]] [some (Blk.box [V.d (D.int .i64 last)]), some (Blk.box [V.fn (Fn.func (109)) [] [V.ptr (0) (0) (0)]])] fun b h' => Tr.done (V.d (D.bool !b)) h' := by kernel_rfl
theorem lastAt_succ (l : List Spl) (k : Nat) : lastAt l (k + 1) = (lat l (k : Nat)).day := by
  unfold lastAt
  rw [if_neg (by omega)]
  congr 2
  omega
theorem okSs_iff (l : List Spl) (last : Int) : okSs last l = true ↔ ∀ k : Nat, k < l.length → okSp (if k = 0 then last else (lat l ((k : Int) - 1)).day) (lat l (k : Nat)) = true := by
  induction l generalizing last with
  | nil => simp [okSs]
  | cons s l ih =>
    simp only [okSs, Bool.and_eq_true, ih]
    constructor
    · rintro ⟨h1, h2⟩ k hk
      cases k with
      | zero => simpa [lat] using h1
      | succ k =>
        have := h2 k (by simpa using hk)
        rw [if_neg (by omega)]
        have e1 : lat (s :: l) ((k + 1 : Nat) : Int) = lat l (k : Nat) := by simp only [lat, Int.toNat_natCast, List.getD_cons_succ]
        rw [e1]
        have e2 : ((k + 1 : Nat) : Int) - 1 = (k : Nat) := by omega
        rw [e2]
        cases k with
        | zero => simpa [lat] using this
        | succ k =>
          rw [if_neg (by omega)] at this
          have e3 : lat (s :: l) ((k + 1 : Nat) : Int) = lat l (((k + 1 : Nat) : Int) - 1) := by
            have : (((k + 1 : Nat) : Int) - 1).toNat = k := by omega
            simp only [lat, this, Int.toNat_natCast, List.getD_cons_succ]
          rw [e3]; exact this
    · intro h
      refine ⟨by simpa [lat] using h 0 (by simp), fun k hk => ?_⟩
      have := h (k + 1) (by simpa using hk)
      rw [if_neg (by omega)] at this
      have e1 : lat (s :: l) ((k + 1 : Nat) : Int) = lat l (k : Nat) := by simp only [lat, Int.toNat_natCast, List.getD_cons_succ]
      rw [e1] at this
      have e2 : ((k + 1 : Nat) : Int) - 1 = (k : Nat) := by omega
      rw [e2] at this
      cases k with
      | zero => simpa [lat] using this
      | succ k =>
        rw [if_neg (by omega)]
        have e3 : lat (s :: l) ((k + 1 : Nat) : Int) = lat l (((k + 1 : Nat) : Int) - 1) := by
          have : (((k + 1 : Nat) : Int) - 1).toNat = k := by omega
          simp only [lat, this, Int.toNat_natCast, List.getD_cons_succ]
        rw [← e3]; exact this
theorem lastAt_in (l : List Spl) (k : Nat) (h : ∀ j, j < k → (!(okSp (lastAt l j) (lat l (j : Nat)))) = false) : -1 ≤ lastAt l k ∧ lastAt l k ≤ 11 := by
  induction k with
  | zero => exact ⟨by simp [lastAt], by simp [lastAt]⟩
  | succ k ih =>
    have h1 := ih fun j hj => h j (by omega)
    have h2 := h k (by omega)
    rw [lastAt_succ]
    simp only [Bool.not_eq_false', okSp, decide_eq_true_eq] at h2
    omega
theorem y108 (l : List Spl) (hl : l.length ≤ 140737488355328) : ACalls Try.prog 108 [vsl eS l, .fn (.func 109) [] [.ptr 0 0 0]] [some (.box [vi (-1)])] fun v h' => v = vb (okSs (-1) l) := by
  refine q108.calls (XB_ok 7) (h := [some (.box [vi (-1)])]) rfl (w108 l (-1)) ?_
  simp only [holds]
  refine callV_holds ?_ (i118 l 119 [] [.ptr 1 0 0] (fun k => h109 (lastAt l k)) (fun k => !(okSp (lastAt l k) (lat l (k : Nat)))) hl (fun _ => ⟨rfl, rfl⟩) rfl (fun k hk hA => ?_))
  · rintro v h' ⟨m, hm, hA, ⟨h1, rfl, rfl⟩ | ⟨h1, h2, rfl, rfl⟩⟩
    · refine ⟨_, rfl, fun e => (by cases e), ?_⟩
      have : okSs (-1) l = true := by
        rw [okSs_iff]
        intro k hk
        simpa [lastAt] using hA k (by omega)
      rw [this]; rfl
    · refine ⟨_, rfl, fun e => (by cases e), ?_⟩
      have : okSs (-1) l = false := by
        cases hs : okSs (-1) l with
        | false => rfl
        | true =>
          rw [okSs_iff] at hs
          have := hs m h1
          simp only [lastAt, Bool.not_eq_true'] at h2
          rw [h2] at this; cases this
      rw [this]; rfl
  · have hb := lastAt_in l k hA
    rw [lastAt_succ]
    exact cl119 _ _ hb.1 hb.2
theorem w89 (c : Cmp) : sx (XB 7) c89 [] (doneK r89) (envOf [Cv c]) [] [] =
    Tr.clB false (V.d (D.fn (Fn.func (108)))) [V.d (D.sl false (List.length (Cmp.splits c)) (enc eS (Cmp.splits c))), V.fn (Fn.func (109)) [] [V.ptr (0) (0) (0)]] [some (Blk.box [V.d (D.int .i64 (-1 : Int))])] fun b h' => Tr.done (V.d (D.bool b)) h' := by kernel_rfl
theorem y89 (c : Cmp) (hl : c.splits.length ≤ 140737488355328) : Yields Try.prog 89 [Cv c] (vb (okSs (-1) c.splits)) := by
  refine q89.yieldsK (XB_ok 7) rfl rfl rfl (w89 c) ?_
  simp only [holds]
  refine callV_holds ?_ (y108 c.splits hl)
  rintro v h' rfl
  exact ⟨_, rfl, fun e => (by cases e), .refl _⟩
def ent84 : Ent := fun args h => match args with
  | [.d (.sl false n cs), .fn (.func 85) [.agg [.d (.int .i64 a), .d (.int .i64 b)]] []] => some (okL eI 1 gI n cs, vb ((dec 1 gI n cs).all (Rng.has ⟨a, b⟩)), none)
  | _ => none
theorem ent84_ok : EntOk Try.prog 84 ent84 := by
  intro args h p v h' he hp
  unfold ent84 at he
  split at he
  · cases he; rw [okL_vsl hp]; exact y84 _ ⟨_, _⟩ (by rw [dec_len]; exact hp.2) h
  · cases he
def ent86 : Ent := fun args h => match args with
  | [.d (.sl false n cs), .fn (.func 83) [x] []] => match asC x with
    | some c => some (okL eT 7 gT n cs ∧ Cv c = x ∧ 1 ≤ c.houses ∧ c.houses ≤ 9223372036854775807, vb ((dec 7 gT n cs).all (okTr c.houses)), none)
    | none => none
  | _ => none
theorem ent86_ok : EntOk Try.prog 86 ent86 := by
  intro args h p v h' he hp
  unfold ent86 at he
  split at he
  · split at he
    · cases he; rw [okL_vsl hp.1, ← hp.2.1]; exact y86 _ _ hp.2.2.1 hp.2.2.2 (by rw [dec_len]; exact hp.1.2) h
    · cases he
  · cases he
def ent87 : Ent := fun args h => match args with
  | [.d (.sl false n cs), .d (.fn (.func 88))] => some (okL eV 3 gV n cs, vb ((dec 3 gV n cs).all okDv), none)
  | _ => none
theorem ent87_ok : EntOk Try.prog 87 ent87 := by
  intro args h p v h' he hp
  unfold ent87 at he
  split at he
  · cases he; rw [okL_vsl hp]; exact y87 _ (by rw [dec_len]; exact hp.2) h
  · cases he
def ent90 : Ent := fun args h => match args with
  | [.d (.sl false n cs), .d (.fn (.func 91))] => some (okL eR 2 gR n cs, vb ((dec 2 gR n cs).all Rng.days), none)
  | _ => none
theorem ent90_ok : EntOk Try.prog 90 ent90 := by
  intro args h p v h' he hp
  unfold ent90 at he
  split at he
  · cases he; rw [okL_vsl hp]; exact y90 _ (by rw [dec_len]; exact hp.2) h
  · cases he
def ent89 : Ent := fun args h => match args with
  | [x] => match asC x with
    | some c => some (Cv c = x ∧ c.splits.length ≤ 140737488355328, vb (okSs (-1) c.splits), none)
    | none => none
  | _ => none
theorem ent89_ok : EntOk Try.prog 89 ent89 := by
  intro args h p v h' he hp
  unfold ent89 at he
  split at he
  · split at he
    · cases he; rw [← hp.1]; exact y89 _ hp.2 h
    · cases he
  · cases he
def tab6 : Spec := (spAdd 89 ent89 (spAdd 90 ent90 (spAdd 87 ent87 (spAdd 86 ent86 (spAdd 84 ent84 tab5)))))
theorem tab6_ok : SpOk Try.prog tab6 := (spAdd_ok ent89_ok (spAdd_ok ent90_ok (spAdd_ok ent87_ok (spAdd_ok ent86_ok (spAdd_ok ent84_ok tab5_ok)))))
def X6 : Sx := mkX tab6
theorem X6_ok : SpOk Try.prog X6.sp := tab6_ok
def faultM (c : Cmp) : Int :=
  if 4 < c.houses ∨ 4 < c.trades.length ∨ 3 < c.divs.length ∨ 2 < c.splits.length ∨ 2 < c.closed.length then 3
  else if 1 ≤ c.houses ∧ (c.held.length : Int) = c.houses ∧ c.held.all (Rng.has ⟨0, 100⟩) = true ∧ c.trades.all (okTr c.houses) = true ∧ c.divs.all okDv = true ∧ okSs (-1) c.splits = true ∧ c.closed.all Rng.days = true then 0 else 1
theorem w52 (c : Cmp) : sx X6 c52 [] (doneK r52) (envOf [Cv c]) [] [] =
    let x1_ := (List.length (Cmp.trades c))
    let x2_ := (List.length (Cmp.divs c))
    let x3_ := (List.length (Cmp.closed c))
    let x4_ := (List.length (Cmp.held c))
    Tr.br (decide ((4 : Int) < Cmp.houses c)) (Tr.done (V.d (D.int .i64 (3 : Int))) []) (Tr.br (decide ((4 : Int) < Int.ofNat x1_)) (Tr.done (V.d (D.int .i64 (3 : Int))) []) (Tr.br (decide ((3 : Int) < Int.ofNat x2_)) (Tr.done (V.d (D.int .i64 (3 : Int))) []) (Tr.br (decide ((2 : Int) < Int.ofNat (List.length (Cmp.splits c)))) (Tr.done (V.d (D.int .i64 (3 : Int))) []) (Tr.br (decide ((2 : Int) < Int.ofNat x3_)) (Tr.done (V.d (D.int .i64 (3 : Int))) []) (Tr.br (decide (Cmp.houses c < (1 : Int))) (Tr.done (V.d (D.int .i64 (1 : Int))) []) (Tr.br (Int.ofNat x4_ != Cmp.houses c) (Tr.done (V.d (D.int .i64 (1 : Int))) []) (Tr.need (okL eI (1 : Nat) gI x4_ (enc eI (Cmp.held c))) (Tr.br (!List.all (dec (1 : Nat) gI x4_ (enc eI (Cmp.held c))) (Rng.has { lo := (0 : Int), hi := (100 : Int) })) (Tr.done (V.d (D.int .i64 (1 : Int))) []) (Tr.need (okL eT (7 : Nat) gT x1_ (enc eT (Cmp.trades c)) ∧ Cv (dCe c) = Cv c ∧ (1 : Int) ≤ Cmp.houses (dCe c) ∧ Cmp.houses (dCe c) ≤ (9223372036854775807 : Int)) (Tr.br (!List.all (dec (7 : Nat) gT x1_ (enc eT (Cmp.trades c))) (okTr (Cmp.houses (dCe c)))) (Tr.done (V.d (D.int .i64 (1 : Int))) []) (Tr.need (okL eV (3 : Nat) gV x2_ (enc eV (Cmp.divs c))) (Tr.br (!List.all (dec (3 : Nat) gV x2_ (enc eV (Cmp.divs c))) okDv) (Tr.done (V.d (D.int .i64 (1 : Int))) []) (Tr.need (Cv (dCe c) = Cv c ∧ List.length (Cmp.splits (dCe c)) ≤ (140737488355328 : Nat)) (Tr.br (!okSs (-1 : Int) (Cmp.splits (dCe c))) (Tr.done (V.d (D.int .i64 (1 : Int))) []) (Tr.need (okL eR (2 : Nat) gR x3_ (enc eR (Cmp.closed c))) (Tr.br (!List.all (dec (2 : Nat) gR x3_ (enc eR (Cmp.closed c))) Rng.days) (Tr.done (V.d (D.int .i64 (1 : Int))) []) (Tr.done (V.d (D.int .i64 (0 : Int))) []))))))))))))))))) := by kernel_rfl
theorem y52 (c : Cmp) : Yields Try.prog 52 [Cv c] (vi (faultM c)) := by
  refine q52.yieldsK X6_ok rfl rfl rfl (w52 c) ?_
  simp only [holds, dCe, dC_enc, okL_I, okL_T, okL_V, okL_R, dec_I, dec_T, dec_V, dec_R, true_and]
  repeat' (first | (refine And.intro ?_ ?_) | (refine fun (_ : _ = _) => ?_))
  all_goals grind [VLe.of_eq, faultM, vi, Cv]
end
end Go.Proofs.Ytdnefcjbcieecaa
namespace Go.Proofs.Ytdnefcjbcieecaa
open Go Go.Proofs
noncomputable section
theorem q99 : FunIs Try.prog 99 G99 c99 r99 := ⟨Try.f99, Try.func99, k99, e99, by kernel_rfl, by kernel_rfl⟩
theorem q82 : FunIs Try.prog 82 G82 c82 r82 := ⟨Try.f82, Try.func82, k82, e82, by kernel_rfl, by kernel_rfl⟩
theorem q50 : FunIs Try.prog 50 G50 c50 r50 := ⟨Try.f50, Try.func50, k50, e50, by kernel_rfl, by kernel_rfl⟩
theorem q81 : FunIs Try.prog 81 G81 c81 r81 := ⟨Try.f81, Try.func81, k81, e81, by kernel_rfl, by kernel_rfl⟩
theorem q49 : FunIs Try.prog 49 G49 c49 r49 := ⟨Try.f49, Try.func49, k49, e49, by kernel_rfl, by kernel_rfl⟩
def openB (cl : List Rng) (n : Int) : Bool := !(cl.any fun r => r.has n)
def regF (cl : List Rng) : Nat → Int → Int
  | 0, _ => -1
  | k + 1, n => if openB cl n = true then n else regF cl k (n + 1)
def regM (cl : List Rng) (n : Int) : Int := if 0 ≤ n then regF cl (12 - n).toNat n else -1
theorem regF_in (cl : List Rng) : ∀ (k : Nat) (n : Int), regF cl k n = -1 ∨ (n ≤ regF cl k n ∧ regF cl k n < n + k)
  | 0, n => .inl rfl
  | k + 1, n => by
    rw [regF]
    split
    · exact .inr ⟨Int.le_refl _, by omega⟩
    · rcases regF_in cl k (n + 1) with h | h
      · exact .inl h
      · exact .inr ⟨by omega, by omega⟩
theorem found_any {α : Type} [Inhabited α] {l : List α} {p : α → Bool} {H : Nat → Heap} {v : V} {h' : Heap} (hf : Found l.length (fun k => p (lat l (k : Nat))) H (fun _ => vb true) (vb false) v h') : v = .d (.bool (l.any p)) := by
  obtain ⟨m, hm, hA, ⟨h1, rfl, rfl⟩ | ⟨h1, h2, rfl, rfl⟩⟩ := hf
  · have : l.any p = false := by
      rw [List.any_eq_false]
      intro x hx
      obtain ⟨j, hj, rfl⟩ := List.getElem_of_mem hx
      have := hA j (by omega)
      simpa [lat, hj] using this
    rw [this]; rfl
  · have : l.any p = true := by
      rw [List.any_eq_true]
      exact ⟨lat l (m : Nat), by simp [lat, h1], h2⟩
    rw [this]; rfl
theorem w99 (r : Rng) (n : Int) : sx X3 c99 [] (doneK r99) (envOf [Rv r, .ptr 0 0 0]) [] [some (.box [vi n])] =
    Tr.need True (Tr.done (V.d (D.bool (Rng.has { lo := Rng.lo r, hi := Rng.hi r } n))) [some (Blk.box [V.d (D.int .i64 n)])]) := by kernel_rfl
theorem cl99 (r : Rng) (n : Int) : ACalls Try.prog 99 [Rv r, .ptr 0 0 0] [some (.box [vi n])] fun v h' => v = vb (r.has n) ∧ h' = [some (.box [vi n])] :=
  q99.calls X3_ok (h := [some (.box [vi n])]) rfl (w99 r n) (by simp only [holds]; exact ⟨trivial, rfl, rfl⟩)
theorem a98 (l : List Rng) (n : Int) (hl : l.length ≤ 140737488355328) : ACalls Try.prog 98 [vsl eR l, .fn (.func 99) [] [.ptr 0 0 0]] [some (.box [vi n])] fun v h' => v = vb (!(openB l n)) ∧ h' = [some (.box [vi n])] := by
  refine (i98 l 99 [] [.ptr 0 0 0] (fun _ => [some (.box [vi n])]) (fun k => Rng.has (lat l (k : Nat)) n) hl (fun _ => ⟨rfl, rfl⟩) rfl (fun k hk _ => cl99 _ _)).mono ?_
  intro v h' hf
  have := found_any (p := fun r : Rng => r.has n) hf
  obtain ⟨m, hm, hA, ⟨h1, h2, h3⟩ | ⟨h1, h2, h3, h4⟩⟩ := hf
  · exact ⟨by rw [this]; simp [openB, vb], h3⟩
  · exact ⟨by rw [this]; simp [openB, vb], h4⟩
def ent98 : Ent := fun args h => match args, h with
  | [.d (.sl false n cs), .fn (.func 99) [] [.ptr 0 0 0]], [some (.box [.d (.int .i64 m)])] => some (okL eR 2 gR n cs, vb (!(openB (dec 2 gR n cs) m)), none)
  | _, _ => none
theorem ent98_ok : EntOk Try.prog 98 ent98 := by
  intro args h p v h' he hp
  unfold ent98 at he
  split at he
  · cases he; rw [okL_vsl hp]; exact a98 _ _ (by rw [dec_len]; exact hp.2)
  · cases he
def tab7 : Spec := (spAdd 98 ent98 tab6)
theorem tab7_ok : SpOk Try.prog tab7 := (spAdd_ok ent98_ok tab6_ok)
def X7 : Sx := mkX tab7
theorem X7_ok : SpOk Try.prog X7.sp := tab7_ok
def E82 (c : Cmp) : Env := [(2, .rptr (Cds c) 0), (3, .ptr 0 0 0)]
theorem w82 (c : Cmp) (n : Int) : sx X7 c82 [] (doneK r82) (envOf [Cv c, vi n]) [] [] =
    Tr.lp (CCode.at c82 [1, 0, 0, 0]) [Fr.blk (0), Fr.seq (CCode.at c82 [1, 1])] [(2, V.rptr (Cds c) (0)), (3, V.ptr (0) (0) (0))] [some (Blk.box [V.d (D.int .i64 n)])] := by kernel_rfl
theorem b82 (c : Cmp) (n : Int) : sx X7 (CCode.at c82 [1,0,0,0]) [] leafK (E82 c) [] [some (.box [vi n])] =
    Tr.need True (Tr.br (isDay n) (Tr.need (okL eR (2 : Nat) gR (List.length (Cmp.closed c)) (enc eR (Cmp.closed c))) (Tr.br (!!openB (dec (2 : Nat) gR (List.length (Cmp.closed c)) (enc eR (Cmp.closed c))) n) (Tr.leaf CExit.ret [(4, V.d (D.int .i64 n))] [some (Blk.box [V.d (D.int .i64 n)])]) (Tr.need ((-9223372036854775808 : Int) ≤ n + (1 : Int) ∧ n + (1 : Int) ≤ (9223372036854775807 : Int)) (Tr.leaf CExit.normal [(2, V.rptr (Cds c) (0)), (3, V.ptr (0) (0) (0))] [some (Blk.box [V.d (D.int .i64 (n + (1 : Int)))])])))) (Tr.leaf (CExit.exit (0)) [(2, V.rptr (Cds c) (0)), (3, V.ptr (0) (0) (0)), (6, V.d (D.bool (isDay n)))] [some (Blk.box [V.d (D.int .i64 n)])])) := by kernel_rfl
theorem x82 (env : Env) (h : Heap) : sS X7 (doneK r82) [Fr.blk 0, Fr.seq (CCode.at c82 [1, 1])] (.exit 0) env [] h =
    Tr.done (V.d (D.int .i64 (-1 : Int))) h := by kernel_rfl
theorem t82 (n : Int) (h : Heap) : sS X7 (doneK r82) [Fr.blk 0, Fr.seq (CCode.at c82 [1, 1])] .ret [(4, vi n)] [] h =
    Tr.done (V.d (D.int .i64 n)) h := by kernel_rfl
theorem y82 (c : Cmp) (n : Int) (hl : c.closed.length ≤ 140737488355328) : Yields Try.prog 82 [Cv c, vi n] (vi (regM c.closed n)) := by
  refine q82.yieldsK X7_ok rfl rfl rfl (w82 c n) ?_
  simp only [holds]
  refine lp_count X7_ok (if 0 ≤ n then (12 - n).toNat else 0) (fun k => 0 ≤ n → regF c.closed (12 - n).toNat n = regF c.closed ((12 - n).toNat - k) (n + k)) (fun _ => E82 c) (fun k => [some (.box [vi (n + k)])])
    rfl (by simp; rfl) (by intro _; simp) (fun k _ => ⟨rfl, rfl, rfl⟩) ?_
  intro k hk hA Q' hn he hr
  rw [b82]
  simp only [holds, okL_R, dec_R, true_and, Bool.not_not]
  refine ⟨fun h1 => ⟨hl, fun h2 => ?_, fun h2 => ⟨?_, ?_⟩⟩, fun h1 => ?_⟩
  · refine hr _ _ (ret_tree X7_ok (doneK_ok rfl) (t82 _ _) ?_)
    simp only [holds]
    refine .of_eq (congrArg vi ?_)
    simp only [isDay, inR, decide_eq_true_eq] at h1
    by_cases h0 : 0 ≤ n
    · rw [if_pos h0] at hk
      rw [regM, if_pos h0, hA h0]
      have : (12 - n).toNat - k = ((12 - n).toNat - k - 1) + 1 := by omega
      rw [this, regF, if_pos h2]
    · rw [if_neg h0] at hk; omega
  · simp only [isDay, inR, decide_eq_true_eq] at h1; omega
  · simp only [isDay, inR, decide_eq_true_eq] at h1
    have h0 : 0 ≤ n := by
      by_cases h0 : 0 ≤ n
      · exact h0
      · rw [if_neg h0] at hk; omega
    rw [if_pos h0] at hk hn
    have := hn [] (by omega) (fun _ => by
      rw [hA h0]
      have : (12 - n).toNat - k = ((12 - n).toNat - (k + 1)) + 1 := by omega
      rw [this, regF, if_neg (by rw [h2]; decide)]
      congr 1
      omega)
    have e : n + ((k + 1 : Nat) : Int) = n + (k : Int) + 1 := by omega
    rw [e] at this
    exact this
  · refine he _ _ _ (ret_tree X7_ok (doneK_ok rfl) (x82 _ _) ?_)
    simp only [holds]
    refine .of_eq (congrArg vi ?_)
    simp only [isDay, inR, decide_eq_false_iff_not] at h1
    by_cases h0 : 0 ≤ n
    · rw [if_pos h0] at hk
      rw [regM, if_pos h0, hA h0]
      have : (12 - n).toNat - k = 0 := by omega
      rw [this, regF]
    · rw [regM, if_neg h0]
theorem w81 (c : Cmp) (n : Int) : sx X7 c81 [] (doneK r81) (envOf [Cv c, vi n]) [] [] =
    Tr.lp (CCode.at c81 [1, 0, 1, 0, 0]) [Fr.blk (0), Fr.seq (CCode.at c81 [1, 1])] [(1, V.d (D.int .i64 n)), (2, V.rptr (Cds c) (0)), (5, V.d (D.int .i64 (0 : Int)))] [] := by kernel_rfl
def E81 (c : Cmp) (n : Int) (k : Nat) : Env := [(1, vi n), (2, .rptr (Cds c) 0), (5, vi k)]
theorem b81 (c : Cmp) (n : Int) (k : Nat) : sx X7 (CCode.at c81 [1,0,1,0,0]) [] leafK (E81 c n k) [] [] =
    Tr.br (decide (Int.ofNat k < Int.ofNat (List.length (Cmp.closed c)))) (Tr.need ((0 : Int) ≤ Int.ofNat k ∧ Int.ofNat k < Int.ofNat (List.length (Cmp.closed c)) ∧ okEl [0, 0] (enc eR (Cmp.closed c)) (2 : Nat) (Int.ofNat k)) (Tr.need ((0 : Int) ≤ Int.ofNat k ∧ Int.ofNat k < Int.ofNat (List.length (Cmp.closed c)) ∧ okEl [0, 0] (enc eR (Cmp.closed c)) (2 : Nat) (Int.ofNat k)) (Tr.need True (Tr.br (inR n (cI (enc eR (Cmp.closed c)) (2 : Nat) (Int.ofNat k) (0 : Nat)) (cI (enc eR (Cmp.closed c)) (2 : Nat) (Int.ofNat k) (1))) (Tr.leaf CExit.ret [(4, V.d (D.bool false))] []) (Tr.need ((-9223372036854775808 : Int) ≤ Int.ofNat k + (1 : Int) ∧ Int.ofNat k + (1 : Int) ≤ (9223372036854775807 : Int)) (Tr.leaf CExit.normal [(1, V.d (D.int .i64 n)), (2, V.rptr (Cds c) (0)), (5, V.d (D.int .i64 (Int.ofNat k + (1 : Int))))] [])))))) (Tr.leaf (CExit.exit (0)) [(1, V.d (D.int .i64 n)), (2, V.rptr (Cds c) (0)), (5, V.d (D.int .i64 (Int.ofNat k))), (10, V.d (D.bool (decide (Int.ofNat k < Int.ofNat (List.length (Cmp.closed c))))))] []) := by kernel_rfl
theorem x81 (env : Env) (h : Heap) : sS X7 (doneK r81) [Fr.blk 0, Fr.seq (CCode.at c81 [1, 1])] (.exit 0) env [] h =
    Tr.done (V.d (D.bool true)) h := by kernel_rfl
theorem t81 (b : Bool) (h : Heap) : sS X7 (doneK r81) [Fr.blk 0, Fr.seq (CCode.at c81 [1, 1])] .ret [(4, vb b)] [] h =
    Tr.done (V.d (D.bool b)) h := by kernel_rfl
theorem any_at {α : Type} [Inhabited α] {l : List α} {p : α → Bool} {k : Nat} (hk : k < l.length) (h : p (lat l (k : Nat)) = true) : l.any p = true := by
  rw [List.any_eq_true]; exact ⟨lat l (k : Nat), by simp [lat, hk], h⟩
theorem any_none {α : Type} [Inhabited α] {l : List α} {p : α → Bool} (h : ∀ j : Nat, j < l.length → p (lat l j) = false) : l.any p = false := by
  rw [List.any_eq_false]
  intro x hx
  obtain ⟨j, hj, rfl⟩ := List.getElem_of_mem hx
  have := h j hj
  simpa [lat, hj] using this
theorem y81 (c : Cmp) (n : Int) (hl : c.closed.length ≤ 140737488355328) : Yields Try.prog 81 [Cv c, vi n] (vb (openB c.closed n)) := by
  refine q81.yieldsK X7_ok rfl rfl rfl (w81 c n) ?_
  simp only [holds]
  refine lp_count X7_ok c.closed.length (fun k => ∀ j : Nat, j < k → (lat c.closed j).has n = false) (E81 c n) (fun _ => []) rfl rfl (fun j hj => by omega) (fun k _ => ⟨rfl, rfl, rfl⟩) ?_
  intro k hk hA Q' hn he hr
  rw [b81]
  simp only [holds, Int.ofNat_eq_natCast, cI_R0, cI_R1, true_and]
  refine ⟨fun h1 => ?_, fun h1 => ?_⟩
  · have hlt : k < c.closed.length := by have := of_decide_eq_true h1; omega
    refine ⟨⟨by omega, by omega, ok_R (by simpa using hlt)⟩, ⟨by omega, by omega, ok_R (by simpa using hlt)⟩, fun h2 => ?_, fun h2 => ⟨by omega, ?_⟩⟩
    · refine hr _ _ (ret_tree X7_ok (doneK_ok rfl) (t81 false _) ?_)
      simp only [holds]
      refine .of_eq (congrArg vb ?_)
      rw [openB, any_at hlt h2]; rfl
    · exact hn [] hlt (fun j hj => by
        rcases Nat.lt_or_ge j k with h | h
        · exact hA j h
        · have : j = k := by omega
          rw [this]; exact h2)
  · have hge : k = c.closed.length := by have := of_decide_eq_false h1; omega
    refine he _ _ _ (ret_tree X7_ok (doneK_ok rfl) (x81 _ _) ?_)
    simp only [holds]
    refine .of_eq (congrArg vb ?_)
    rw [openB, any_none (fun j hj => hA j (by omega))]; rfl
def entC (q : Cmp → Prop) (m : Cmp → V) : Ent := fun args h => match args with
  | [x] => match asC x with
    | some c => some (Cv c = x ∧ q c, m c, none)
    | none => none
  | _ => none
theorem entC_ok {P : Program} {f : Nat} {q : Cmp → Prop} {m : Cmp → V} (hy : ∀ c, q c → Yields P f [Cv c] (m c)) : EntOk P f (entC q m) := by
  intro args h p v h' he hp
  unfold entC at he
  split at he
  · split at he
    · cases he; rw [← hp.1]; exact hy _ hp.2 h
    · cases he
  · cases he
def entCI (q : Cmp → Int → Prop) (m : Cmp → Int → V) : Ent := fun args h => match args with
  | [x, .d (.int .i64 n)] => match asC x with
    | some c => some (Cv c = x ∧ q c n, m c n, none)
    | none => none
  | _ => none
theorem entCI_ok {P : Program} {f : Nat} {q : Cmp → Int → Prop} {m : Cmp → Int → V} (hy : ∀ c n, q c n → Yields P f [Cv c, vi n] (m c n)) : EntOk P f (entCI q m) := by
  intro args h p v h' he hp
  unfold entCI at he
  split at he
  · split at he
    · cases he; rw [← hp.1]; exact hy _ _ hp.2 h
    · cases he
  · cases he
def entCU (q : Cmp → Tru → Prop) (m : Cmp → Tru → V) : Ent := fun args _ => match args with
  | [x, y] => match asC x, asU y with
    | some c, some t => some (Cv c = x ∧ Uv t = y ∧ q c t, m c t, none)
    | _, _ => none
  | _ => none
theorem entCU_ok {P : Program} {f : Nat} {q : Cmp → Tru → Prop} {m : Cmp → Tru → V} (hy : ∀ c t, q c t → Yields P f [Cv c, Uv t] (m c t)) : EntOk P f (entCU q m) := by
  intro args h p v h' he hp
  unfold entCU at he
  split at he
  · split at he
    · cases he; rw [← hp.1, ← hp.2.1]; exact hy _ _ hp.2.2 h
    · cases he
  · cases he
def ent82 := entCI (fun c _ => c.closed.length ≤ 140737488355328) (fun c n => vi (regM c.closed n))
theorem ent82_ok : EntOk Try.prog 82 ent82 := entCI_ok fun c n => y82 c n
def ent81 := entCI (fun c _ => c.closed.length ≤ 140737488355328) (fun c n => vb (openB c.closed n))
theorem ent81_ok : EntOk Try.prog 81 ent81 := entCI_ok fun c n => y81 c n
def ent52 := entC (fun _ => True) (fun c => vi (faultM c))
theorem ent52_ok : EntOk Try.prog 52 ent52 := entC_ok fun c _ => y52 c
def tab8 : Spec := (spAdd 52 ent52 (spAdd 81 ent81 (spAdd 82 ent82 tab7)))
theorem tab8_ok : SpOk Try.prog tab8 := (spAdd_ok ent52_ok (spAdd_ok ent81_ok (spAdd_ok ent82_ok tab7_ok)))
def X8 : Sx := mkX tab8
theorem X8_ok : SpOk Try.prog X8.sp := tab8_ok
theorem w49 (c : Cmp) (n : Int) : sx X8 c49 [] (doneK r49) (envOf [Cv c, vi n]) [] [] =
    Tr.lp (CCode.at c49 [1, 0, 1, 0, 0]) [Fr.blk (0), Fr.seq (CCode.at c49 [1, 1])] [(2, V.rptr (Cds c) (0)), (5, V.d (D.int .i64 n))] [] := by kernel_rfl
def E49 (c : Cmp) (n : Int) : Env := [(2, .rptr (Cds c) 0), (5, vi n)]
theorem b49 (c : Cmp) (n : Int) : sx X8 (CCode.at c49 [1,0,1,0,0]) [] leafK (E49 c n) [] [] =
    Tr.br (decide (n ≤ (11 : Int))) (Tr.need (Cv (dCe c) = Cv c ∧ List.length (Cmp.closed (dCe c)) ≤ (140737488355328 : Nat)) (Tr.br (openB (Cmp.closed (dCe c)) n) (Tr.leaf CExit.ret [(4, V.d (D.int .i64 n))] []) (Tr.need ((-9223372036854775808 : Int) ≤ n + (1 : Int) ∧ n + (1 : Int) ≤ (9223372036854775807 : Int)) (Tr.leaf CExit.normal [(2, V.rptr (Cds c) (0)), (5, V.d (D.int .i64 (n + (1 : Int))))] [])))) (Tr.leaf (CExit.exit (0)) [(2, V.rptr (Cds c) (0)), (5, V.d (D.int .i64 n)), (8, V.d (D.bool (decide (n ≤ (11 : Int)))))] []) := by kernel_rfl
theorem x49 (env : Env) (h : Heap) : sS X8 (doneK r49) [Fr.blk 0, Fr.seq (CCode.at c49 [1, 1])] (.exit 0) env [] h =
    Tr.done (V.d (D.int .i64 (-1 : Int))) h := by kernel_rfl
theorem t49 (n : Int) (h : Heap) : sS X8 (doneK r49) [Fr.blk 0, Fr.seq (CCode.at c49 [1, 1])] .ret [(4, vi n)] [] h =
    Tr.done (V.d (D.int .i64 n)) h := by kernel_rfl
def regR (cl : List Rng) (n : Int) : Int := regF cl (12 - n).toNat n
theorem y49 (c : Cmp) (n : Int) (h0 : -9223372036854775808 ≤ n) (hl : c.closed.length ≤ 140737488355328) : Yields Try.prog 49 [Cv c, vi n] (vi (regR c.closed n)) := by
  refine q49.yieldsK X8_ok rfl rfl rfl (w49 c n) ?_
  simp only [holds]
  refine lp_count X8_ok (12 - n).toNat (fun k => regF c.closed (12 - n).toNat n = regF c.closed ((12 - n).toNat - k) (n + k)) (fun k => E49 c (n + k)) (fun k => [])
    (by simp; rfl) rfl (by simp) (fun k _ => ⟨rfl, rfl, rfl⟩) ?_
  intro k hk hA Q' hn he hr
  rw [b49]
  simp only [holds, dCe, dC_enc, true_and]
  refine ⟨fun h1 => ⟨hl, fun h2 => ?_, fun h2 => ⟨?_, ?_⟩⟩, fun h1 => ?_⟩
  · refine hr _ _ (ret_tree X8_ok (doneK_ok rfl) (t49 _ _) ?_)
    simp only [holds]
    refine .of_eq (congrArg vi ?_)
    have h1 := of_decide_eq_true h1
    have : (12 - n).toNat - k = ((12 - n).toNat - k - 1) + 1 := by omega
    rw [regR, hA, this, regF, if_pos h2]
  · have h1 := of_decide_eq_true h1; omega
  · have h1 := of_decide_eq_true h1
    have := hn [] (by omega) (by
      rw [hA]
      have : (12 - n).toNat - k = ((12 - n).toNat - (k + 1)) + 1 := by omega
      rw [this, regF, if_neg (by rw [h2]; decide)]
      congr 1
      omega)
    have e : n + ((k + 1 : Nat) : Int) = n + (k : Int) + 1 := by omega
    rw [e] at this
    exact this
  · refine he _ _ _ (ret_tree X8_ok (doneK_ok rfl) (x49 _ _) ?_)
    simp only [holds]
    refine .of_eq (congrArg vi ?_)
    have h1 := of_decide_eq_false h1
    have : (12 - n).toNat - k = 0 := by omega
    rw [regR, hA, this, regF]
def regN (c : Cmp) (n : Int) : Int := if faultM c = 0 ∧ isDay n = true then regM c.closed n else 0
def regE (c : Cmp) (n : Int) : Int := if faultM c ≠ 0 then faultM c else if isDay n = true then 0 else 2
theorem fault_ok {c : Cmp} (h : faultM c = 0) : (1 ≤ c.houses ∧ c.houses ≤ 4 ∧ (c.held.length : Int) = c.houses ∧ c.trades.length ≤ 4 ∧ c.divs.length ≤ 3 ∧ c.splits.length ≤ 2 ∧ c.closed.length ≤ 2) ∧
    c.held.all (Rng.has ⟨0, 100⟩) = true ∧ c.trades.all (okTr c.houses) = true ∧ c.divs.all okDv = true ∧ okSs (-1) c.splits = true ∧ c.closed.all Rng.days = true := by
  unfold faultM at h
  split at h
  · cases h
  · rename_i h1
    split at h
    · rename_i h2
      exact ⟨by omega, h2.2.2⟩
    · cases h
theorem w50 (c : Cmp) (n : Int) : sx X8 c50 [] (doneF 0 r50) (envOf [Cv c, vi n]) [] [] =
    Tr.need (Cv (dCe c) = Cv c ∧ True) (Tr.br (faultM (dCe c) != (0 : Int)) (Tr.done (V.tup [V.d (D.int .i64 (0 : Int)), V.d (D.int .i64 (faultM (dCe c)))]) []) (Tr.need True (Tr.br (!isDay n) (Tr.done (V.tup [V.d (D.int .i64 (0 : Int)), V.d (D.int .i64 (2 : Int))]) []) (Tr.need (Cv (dCe c) = Cv c ∧ List.length (Cmp.closed (dCe c)) ≤ (140737488355328 : Nat)) (Tr.done (V.tup [V.d (D.int .i64 (regM (Cmp.closed (dCe c)) n)), V.d (D.int .i64 (0 : Int))]) []))))) := by kernel_rfl
theorem y50 (c : Cmp) (n : Int) : Yields Try.prog 50 [Cv c, vi n] (V.tup [vi (regN c n), vi (regE c n)]) := by
  refine q50.yields X8_ok rfl rfl rfl (w50 c n) ?_
  simp only [holds]
  simp only [dCe, dC_enc, true_and]
  repeat' (first | (refine And.intro ?_ ?_) | (refine fun (_ : _ = _) => ?_))
  all_goals (have hf := @fault_ok c; grind [VLe.of_eq, regN, regE, vi])
end
end Go.Proofs.Ytdnefcjbcieecaa
