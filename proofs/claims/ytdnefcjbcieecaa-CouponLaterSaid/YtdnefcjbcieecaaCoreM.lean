/- Code and functions. -/
import Derived.Test.YtdnefcjbcieecaaCoreV
set_option linter.unusedVariables false
set_option linter.unusedSimpArgs false
namespace Go.Proofs.Ytdnefcjbcieecaa
open Go

def LoopP (P : Program) (G : Cfg) (n : Nat) (c : CCode) (Q : CExit → Env → Heap → Prop) (env : Env) (h : Heap) : Prop :=
  ∀ g, compC P G g = some c → AWp P n G.sz (.loop g) Q env h

/-- A call of a function (not of a yield). -/
def callF (P : Program) (f : V) (args : List V) (h : Heap) (K : V → Heap → Prop) : Prop :=
  match f with
  | .d (.fn (.func g)) => ACalls P g args h K
  | .fn (.func g) first caps => ACalls P g (first ++ args ++ caps) h K
  | _ => False
/-- What is owed when a loop over a function is done. -/
def doneR (id : Nat) (env : Env) (h : Heap) (Q : CExit → Env → Heap → Prop) : Prop :=
  match h[id]? with
  | some (some (.loop L)) => L.st ≠ .busy ∧ Q (L.pend.getD .normal) env (h.set id none)
  | _ => False

def wpc (P : Program) (G : Cfg) (n : Nat) : CCode → (CExit → Env → Heap → Prop) → Env → Heap → Prop
  | .skip, Q => Q .normal
  | .region ops live, Q => fun env h => runOps2 P n ops env h fun env' h' => Q .normal (env'.keep live) h'
  | .frz x, Q => fun env h => match frzB h (frzV env h x) with
    | some (id, g, ds) => Q .normal (fzE id g ds env) (fzH id g ds h)
    | none => Q .normal env h
  | .both a b, Q => fun env h => wpc P G n a Q env h ∧ wpc P G n b Q env h
  | .seq a b, Q => wpc P G n a fun e env h => match e with
    | .normal => wpc P G n b Q env h
    | .exit id => Q (.exit id) env h
    | .ret => Q .ret env h
  | .cond c a b, Q => fun env h => brV (opnd env c) (wpc P G n a Q env h) (wpc P G n b Q env h)
  | .block id c, Q => wpc P G n c fun e env h => match e with
    | .normal => Q .normal env h
    | .exit i => if i = id then Q .normal env h else Q (.exit i) env h
    | .ret => Q .ret env h
  | .loop c, Q => LoopP P G n c Q
  | .rangeF g ps ca cb, Q => fun env h => callF P (opnd env g) [.yl h.length] (h ++ [some (.loop ⟨G, ca, cb, ps, env, .ready, none⟩)]) fun _ h' => doneR h.length env h' Q
  | .exit id, Q => Q (.exit id)
  | .ret, Q => Q .ret

@[congr] theorem wpc_congr {P : Program} {G : Cfg} {n : Nat} {c : CCode} {Q : CExit → Env → Heap → Prop} {env env' : Env} {h h' : Heap} (h1 : env = env') (h2 : h = h') : wpc P G n c Q env h = wpc P G n c Q env' h' := by rw [h1, h2]

section
variable {P : Program} {G : Cfg} {n : Nat}

theorem QQ.of_nxt {M : Mem} {h : Heap} {w : World} {Q : CExit → Env → Heap → Prop} {live : Option (List Nat)} {a' : Act} {w' : World}
    (hx : Nxt n G.sz M h w (fun env' h' => Q .normal (env'.keep live) h') a' w') : QQ n G.sz M h w Q .normal a' w' := by
  obtain ⟨M', env', h', hp, hE, hK⟩ := hx
  exact ⟨M', _, h', hp, hE.keep live, hK⟩

theorem QQ.trans {M M1 : Mem} {h h1 : Heap} {w w1 : World} {Q : CExit → Env → Heap → Prop} {e : Exit} {a : Act} {w' : World} (hp : Post n M h w M1 h1 w1) (hq : QQ n G.sz M1 h1 w1 Q e a w') : QQ n G.sz M h w Q e a w' := by
  obtain ⟨M', env', h', hp', hE, hK⟩ := hq
  exact ⟨M', env', h', hp.trans hp', hE, hK⟩

theorem runOps2_snoc (r : ROp) (K : Env → Heap → Prop) : ∀ (xs : List ROp) (env : Env) (h : Heap), runOps2 P n (xs ++ [r]) env h K → runOps2 P n xs env h fun env h => runG P n r K env h
  | [], env, h, hr => by
    rw [List.nil_append, runOps2_cons] at hr
    exact hr
  | x :: xs, env, h, hr => by
    rw [List.cons_append, runOps2_cons] at hr
    rw [runOps2_cons]
    exact runG_mono (fun env h hh => runOps2_snoc r K xs env h hh) hr
theorem runOps2_mono {K K' : Env → Heap → Prop} (hk : ∀ env h, K env h → K' env h) : ∀ (xs : List ROp) (env : Env) (h : Heap), runOps2 P n xs env h K → runOps2 P n xs env h K'
  | [], env, h, hr => hk _ _ hr
  | x :: xs, env, h, hr => by
    rw [runOps2_cons] at hr ⊢
    exact runG_mono (fun env h hh => runOps2_mono hk xs env h hh) hr

theorem treeC_sound' {rs : List ROp} {live : List Nat} {Q : CExit → Env → Heap → Prop} : ∀ (t : OT) (acc : List ROp) (c : CCode) (env : Env) (h : Heap), treeC rs live t acc = some c → wpc P G n c Q env h →
    runOps2 P n acc.reverse env h (runT P n rs (fun env h => Q .normal (env.keep (some live)) h) t)
  | .leaf, acc, c, env, h, hc, hk => by cases hc; exact hk
  | .node j t, acc, c, env, h, hc, hk => by
    unfold treeC at hc
    split at hc
    · rename_i r hr
      have h1 := treeC_sound' t (r :: acc) c env h hc hk
      rw [List.reverse_cons] at h1
      refine runOps2_mono (fun env h hh => ?_) _ _ _ (runOps2_snoc r _ _ _ _ h1)
      unfold runT runI
      rw [hr]
      exact hh
    · cases hc
  | .alt a b, acc, c, env, h, hc, hk => by
    unfold treeC at hc
    split at hc
    · rename_i x y hx hy
      cases hc
      refine runOps2_mono (fun env h hh => ?_) _ _ _ hk
      exact ⟨treeC_sound' a [] x env h hx hh.1, treeC_sound' b [] y env h hy hh.2⟩
    · cases hc
theorem treeC_sound {rs : List ROp} {live : List Nat} {Q : CExit → Env → Heap → Prop} {t : OT} {c : CCode} {env : Env} {h : Heap} (hc : treeC rs live t [] = some c) (hk : wpc P G n c Q env h) :
    runT P n rs (fun env h => Q .normal (env.keep (some live)) h) t env h := treeC_sound' t [] c env h hc hk

theorem compR_sound {id : Nat} {ops : Array Oper} {draw : Bool} {c : CCode} {Q : CExit → Env → Heap → Prop} {env : Env} {h : Heap} (hc : compR P G id ops draw = some c) (hk : wpc P G n c Q env h) : AWp P n G.sz (.region id ops draw) Q env h := by
  intro ro M w a _ hm hs hn hE
  cases draw with
  | false =>
    obtain ⟨rs, hr, rfl⟩ := map_some' hc
    refine wpIn_region ?_
    have := ops_sound (ro := ro) (P := P) (n := n) (sz := G.sz) (own := G.own) (ops := ops) (Q := QQ n G.sz M h w Q) (K := fun env' h' => Q .normal (env'.keep (some (lvOf G.lv id))) h') ops.toList rs 0 hr
      (fun j o hj => by simpa using hj) M h w a env hm hs hn hE (runOps2_sound P n rs env h _ hk) (fun a' w' hx => QQ.of_nxt hx)
    simpa [List.range_eq_range'] using this
  | true =>
    have hK : ∀ (e e' : Env) (h : Heap), (∀ k, e.get k = e'.get k) → Q .normal (e.keep (some (lvOf G.lv id))) h → Q .normal (e'.keep (some (lvOf G.lv id))) h := fun e e' h he hk => by
      have : e'.keep (some (lvOf G.lv id)) = e.keep (some (lvOf G.lv id)) := by rw [Env.keep_some, Env.keep_some]; exact List.map_congr_left fun k _ => by rw [he k]
      rw [this]; exact hk
    simp only [compR] at hc
    split at hc
    · cases hc
    · rename_i rs hrs
      split at hc
      · rename_i hdep
        split at hc
        · rename_i t ht
          have hk := treeC_sound hc hk
          exact draw_sound (K := fun env' h' => Q .normal (env'.keep (some (lvOf G.lv id))) h') hdep hrs ht hK hm hs hn hE hk (fun a' w' hx => QQ.of_nxt hx)
        · cases hc
      · cases hc

theorem wrapF_sound {g : Code} {Q : CExit → Env → Heap → Prop} {c : CCode} (hk : ∀ env h, wpc P G n c Q env h → AWp P n G.sz g Q env h) : ∀ (xs : List (Nat × Option Nat)) (env : Env) (h : Heap), wpc P G n (wrapF xs c) Q env h → AWp P n G.sz g Q env h
  | [], env, h, hw => hk env h hw
  | x :: xs, env, h, hw => by
    intro ro M w a hro hm hs hn hE
    simp only [wrapF, wpc] at hw
    split at hw
    · rename_i id g' ds e
      obtain ⟨b, hb, hd⟩ := frzB_spec e
      obtain ⟨M2, r, z, hs2, hnw⟩ := freeze_sim hs hb hd
      have hp := freeze_post (.refl hs hn) z hs2 hnw
      exact wpIn_mono (wrapF_sound hk xs _ _ hw ro M2 w a hro (z.cc.trans hm) hs2 hp.len (z.env hE)) (fun e a' w' hq => QQ.trans hp hq)
    · exact wrapF_sound hk xs env h hw ro M w a hro hm hs hn hE

theorem Post.cc {n : Nat} {M M' : Mem} {h h' : Heap} {w w' : World} (p : Post n M h w M' h' w') (hm : M.cc = ccP P) : M'.cc = ccP P := p.dc.2.trans hm

/-- The statement 'for .. := range g'. -/
theorem rangeF_sound {f : Operand} {ps : Array Tmp} {ga gb : Code} {ca cb : CCode} {Q : CExit → Env → Heap → Prop} {env : Env} {h : Heap} (hra : hasRange ga = false) (hrb : hasRange gb = false)
    (ha : compC P G ga = some ca) (hb : compC P G gb = some cb) (hk : wpc P G n (.rangeF f ps.toList ca cb) Q env h) : AWp P n G.sz (.rangeFunc f ps ga gb) Q env h := by
  intro ro M w a hro hm hs hn hE
  obtain rfl := hro rfl
  refine wpIn_rangeFunc (fun fn _ => ?_)
  have hp1 := addDf_post (n := n) hs hn
  obtain ⟨rec, hrec⟩ : ∃ rec : Loop, rec = { state := .ready, pending := none, fn, tmps := a.tmps, params := ps, assign := ga, body := gb, defers := w.heap.size } := ⟨_, rfl⟩
  have hml : (M.addDf w.heap.size).mu h.length = none := hp1.sim.mu_len
  have hp2 : Post n (M.addDf w.heap.size) h (w.alloc (.deferred (some []))) ((M.addDf w.heap.size).setMu h.length ⟨some (w.alloc (.deferred (some []))).heap.size, 0, 0⟩)
      (h ++ [some (.loop ⟨G, ca, cb, ps.toList, env, .ready, none⟩)]) ((w.alloc (.deferred (some []))).alloc (.loop rec)) := by
    refine new_block (blk := .loop ⟨G, ca, cb, ps.toList, env, .ready, none⟩) (o := .loop rec) hp1.sim (by simp; omega) hml (by simp) (fun j x hj hx => ?_) (by simp) rfl rfl rfl rfl ?_
    · rcases Nat.lt_or_ge j h.length with hl | hl
      · rwa [List.getElem?_append_left hl] at hx
      · rw [List.getElem?_append_right hl] at hx
        cases hd : j - h.length with
        | zero => omega
        | succ m => rw [hd] at hx; simp at hx
    · refine ⟨rfl, _, rec, rfl, World.alloc_heap_new _ _, ?_⟩
      subst hrec
      refine ⟨rfl, rfl, by simp, ?_, ?_, hE.1, fun k => ?_⟩
      · show M.cc G ga ca
        rw [hm]; exact ⟨ha, hra⟩
      · show M.cc G gb cb
        rw [hm]; exact ⟨hb, hrb⟩
      · exact RepV.setMu (M := M.addDf w.heap.size) (fun r0 h => by rw [hml] at h; cases h) (hp1.rep (hE.2.2 k))
  have hp := hp1.trans hp2
  generalize hM1 : (M.addDf w.heap.size).setMu h.length ⟨some (w.alloc (.deferred (some []))).heap.size, 0, 0⟩ = M1 at hp hp2
  have hmu1 : M1.mu h.length = some ⟨some (w.heap.size + 1), 0, 0⟩ := by rw [← hM1, Mem.setMu_same, World.size_alloc]
  have hdf1 : M1.df w.heap.size := by rw [← hM1]; exact .inr rfl
  generalize hh1 : h ++ [some (Blk.loop ⟨G, ca, cb, ps.toList, env, .ready, none⟩)] = h1 at hp hp2
  generalize hw1 : ((w.alloc (.deferred (some []))).alloc (.loop rec)) = w1 at hp hp2
  have hE1 := hE.post hp
  have hyl : RepV M1 (.yl h.length) (.func (.yield (w.heap.size + 1)) #[] #[]) := .yl _ _ _ hmu1 (fun _ => rfl)
  have henter : (Instr.enterLoop fn a.tmps ps ga gb (fw none).round).run P w = .ok (w.heap.size + 1, [{ target := .collected w.heap.size, args := #[] }]) w1 := by
    rw [← hw1, hrec]; exact run_enterLoop_outer fn a.tmps ps ga gb
  have key : ∀ (gf : FuncId) (vs : List V) (first caps : List Value), ACalls P gf vs h1 (fun _ h' => doneR h.length env h' Q) → RepL M1 vs (first ++ [.func (.yield (w.heap.size + 1)) #[] #[]] ++ caps) →
      a.eval f = .func (.func gf) first.toArray caps.toArray →
      ∃ (l : Nat) (mark : List Deferred) (w₁ : World) (d : Deferred) (w₁' : World) (f' : FuncId) (args : Array Value) (w₂ : World),
      (Instr.enterLoop fn a.tmps ps ga gb (fw none).round).run P w = .ok (l, mark) w₁ ∧
      (resolve a.eval (rangeCall f l) 0).run P w₁ = .ok d w₁' ∧
      (∀ f', Target.leads P w₁' d.target d.args = some f' → (fw none).fn f') ∧
      (invoke d.target d.args).run P w₁' = .ok (.enter f' args) w₂ ∧
      ((fw none).depth.isSome = true → 1 ≤ 0) ∧
      CallsIn (fw none) (0 - 1) P f' args w₂ (rangePost (fw none) 0 P l (QQ n G.sz M h w Q) { a with defers := mark ++ a.defers }) := by
    intro gf vs first caps hc hr hev
    obtain ⟨fn', hf1, hf2, hf3⟩ := hc.1
    have h2' : fn'.name ≠ "runtime.NumGoroutine" := by simpa using hf2
    have h3' : fn'.body ≠ none := by intro e; rw [e] at hf3; cases hf3
    refine ⟨_, _, w1, { target := .fn (.func gf) caps.toArray, args := (first ++ [Value.func (.yield (w.heap.size + 1)) #[] #[]]).toArray }, w1, gf, (first ++ [Value.func (.yield (w.heap.size + 1)) #[] #[]] ++ caps).toArray, w1, henter, ?_, fun _ _ => trivial, ?_, fun h => (by cases h), ?_⟩
    · simp only [resolve]
      rw [hev]
      simp [Deferred.ofValue, Act.eval]
    · simp [invoke, callFunc, hf1, h2', h3']
    · refine callsIn_wide.2 ((hc.2 M1 w1 _ (hp.cc hm) hp.sim hr).mono ?_)
      rintro e w' ⟨cv, v, h', M', rfl, hp3, hv, hd⟩
      have hp4 := hp.trans (hp3.mono (n' := n) (by have := hp.len; rw [← hh1] at this ⊢; simp; omega))
      unfold doneR at hd
      split at hd
      · rename_i L hL
        obtain ⟨rec', r', hr', hb', hw', hat, h0⟩ := hp3.sim.loopAt hL (hp3.rep hyl)
        have hend := run_endLoop (P := P) hw' (by rw [hat.1]; exact hd.1)
        have hp5 := hp4.trans (drop_block (o := .loop { rec' with state := .exhausted }) hp4.sim hp4.len hL hr' hb')
        generalize w'.putObj (w.heap.size + 1) (.loop { rec' with state := .exhausted }) = w4 at hend hp5
        rw [hat.2.1] at hend
        refine ⟨_, w4, hend, ?_⟩
        have hE5 : RepE G.sz M' env { a with defers := [{ target := .collected w.heap.size, args := #[] }] ++ a.defers } := by
          have h5 := hE.post hp4
          refine ⟨h5.1, ?_, h5.2.2⟩
          obtain ⟨Ds, e1, e2, e3⟩ := hE.2.1
          refine ⟨w.heap.size :: Ds, by rw [e1]; rfl, List.nodup_cons.2 ⟨fun hin => ?_, e2⟩, fun D hD => ?_⟩
          · have := (Array.getElem?_eq_some_iff.1 (hs.df _ (e3 _ hin)).1).1
            omega
          · rcases List.mem_cons.1 hD with rfl | hD
            · exact hp3.dc.1.1 _ hdf1
            · exact hp4.dc.1.1 _ (e3 D hD)
        cases hpe : L.pend with
        | none =>
          rw [hpe] at hd
          exact ⟨M', env, _, hp5, hE5, hd.2⟩
        | some x =>
          rw [hpe] at hd
          cases x with
          | normal => exact wpIn_skip ⟨M', env, _, hp5, hE5, hd.2⟩
          | exit id => exact wpIn_exit ⟨M', env, _, hp5, hE5, hd.2⟩
          | ret => exact wpIn_ret ⟨M', env, _, hp5, hE5, hd.2⟩
      · exact hd.elim
  rw [wpc, hh1] at hk
  have hf := hE1.opnd f
  have hone : RepL M1 [V.yl h.length] [.func (.yield (w.heap.size + 1)) #[] #[]] := ⟨rfl, fun k v c hv hc => by cases k with | zero => cases hv; cases hc; exact hyl | succ k => simp at hv⟩
  unfold callF at hk
  split at hk
  · rename_i g e
    rw [e] at hf
    have h4 : a.eval f = .func (.func g) #[] #[] := by generalize a.eval f = u at hf; cases hf with | d _ _ h => cases h; rfl
    exact key g _ [] [] hk (by simpa using hone) h4
  · rename_i g first caps e
    rw [e] at hf
    generalize hu : a.eval f = u at hf
    cases hf with
    | fn _ _ _ a1 a2 l1 l2 r1 r2 => exact key g _ a1 a2 hk (RepL.append (RepL.append ⟨l1, r1⟩ hone) ⟨l2, r2⟩) hu
  · exact hk.elim

theorem stepR_scope {b : Frame} {a : Act} {k : List Item} {cs : List Frame} {w : World} {c : Code} : Go.step P (lone (b.atR a (.code (.scope c) :: k)) cs w) = .next (lone (b.atR a (.code c :: .inScope c :: k)) cs w) :=
  step_lone_go (by simp [stepG, stepG.exec, Frame.atR])
theorem stepR_inScope {b : Frame} {a : Act} {k : List Item} {cs : List Frame} {w : World} {c : Code} : Go.step P (lone (b.atR a (.inScope c :: k)) cs w) = .next (lone (b.atR a k) cs w) :=
  step_lone_go (by simp [stepG, stepG.exec, Frame.atR])
theorem wpIn_scope {F : Fence} {m : Nat} {c : Code} {Q : Exit → Act → World → Prop} {a : Act} {w : World} (h : c.wpIn F m P Q a w) (hng : ∀ l a w, ¬ Q (.goto l) a w) : (Code.scope c).wpIn F m P Q a w := by
  intro b k cs hro hb hr
  have h0 : (lone (b.atR a (.code (.scope c) :: k)) cs w).fenced P F := fenced_calm hb hr rfl
  obtain ⟨e, a₁, w₁, hq, harr⟩ := h b (.inScope c :: k) cs hro hb hr
  cases e with
  | normal => exact ⟨.normal, a₁, w₁, hq, .head h0 stepR_scope (StepsIn.trans harr (.one (fenced_calm hb hr rfl) stepR_inScope))⟩
  | exit id =>
    have hx : exitTo id (.inScope c :: k) = exitTo id k := by simp [exitTo]
    exact ⟨.exit id, a₁, w₁, hq, fun k' hk => .head h0 stepR_scope (harr.1 k' (by rw [hx]; exact hk)),
      fun hr' hk => let ⟨k₁, h1, h2⟩ := harr.2 hr' (by rw [hx]; exact hk); ⟨k₁, h1, .head h0 stepR_scope h2⟩⟩
  | goto l => exact (hng _ _ _ hq).elim
  | ret => exact ⟨_, a₁, w₁, hq, .of_steps (.one h0 stepR_scope) harr⟩
  | panic ch => exact ⟨_, a₁, w₁, hq, .of_steps (.one h0 stepR_scope) harr⟩
  | outgrown => exact ⟨_, a₁, w₁, hq, .of_steps (.one h0 stepR_scope) harr⟩

theorem wpc_sound : ∀ (g : Code) (c : CCode) (Q : CExit → Env → Heap → Prop) (env : Env) (h : Heap), compC P G g = some c → wpc P G n c Q env h → AWp P n G.sz g Q env h := by
  intro g
  induction g with
  | skip =>
    intro c Q env h hc hk ro M w a hro hm hs hn hE
    cases hc
    exact wpIn_skip ⟨M, env, h, .refl hs hn, hE, hk⟩
  | region id ops draw =>
    intro c Q env h hc hk
    obtain ⟨c', hc', rfl⟩ := map_some' hc
    exact wrapF_sound (fun env h hk => compR_sound hc' hk) _ env h hk
  | seq x y ihx ihy =>
    intro c Q env h hc hk ro M w a hro hm hs hn hE
    simp only [compC] at hc
    split at hc
    · rename_i cx cy hx hy
      cases hc
      refine wpIn_seq (wpIn_mono (ihx cx _ env h hx hk ro M w a (fun hh => hro (by simp [hasRange, hh])) hm hs hn hE) (fun e a' w' hq => ?_))
      obtain ⟨M', env', h', hp, hE', hK⟩ := hq
      cases e with
      | normal => exact wpIn_mono (ihy cy Q env' h' hy hK ro M' w' a' (fun hh => hro (by simp [hasRange, hh])) (hp.cc hm) hp.sim hp.len hE') (fun e2 a2 w2 hq2 => QQ.trans hp hq2)
      | exit id => exact ⟨M', env', h', hp, hE', hK⟩
      | ret => exact ⟨M', env', h', hp, hE', hK⟩
      | goto l => exact hK.elim
      | panic c => exact hK.elim
      | outgrown => exact hK.elim
    · cases hc
  | cond c x y ihx ihy =>
    intro cc Q env h hc hk ro M w a hro hm hs hn hE
    simp only [compC] at hc
    split at hc
    · rename_i cx cy hx hy
      cases hc
      simp only [wpc, brV] at hk
      split at hk
      · rename_i t e
        have hv := hE.opnd c
        rw [e] at hv
        exact wpIn_cond_split hv.boolI (fun ht => ihx cx Q env h hx (hk.1 ht) ro M w a (fun hh => hro (by simp [hasRange, hh])) hm hs hn hE) (fun hf => ihy cy Q env h hy (hk.2 hf) ro M w a (fun hh => hro (by simp [hasRange, hh])) hm hs hn hE)
      · exact hk.elim
    · cases hc
  | block id x ih =>
    intro c Q env h hc hk ro M w a hro hm hs hn hE
    obtain ⟨cx, hx, rfl⟩ := map_some' hc
    refine wpIn_block (wpIn_mono (ih cx _ env h hx hk ro M w a hro hm hs hn hE) (fun e a' w' hq => ?_))
    obtain ⟨M', env', h', hp, hE', hK⟩ := hq
    cases e with
    | normal => exact ⟨M', env', h', hp, hE', hK⟩
    | exit i =>
      simp only [Exit.inBlock]
      by_cases hi : i = id
      · simp only [hi, if_true] at hK ⊢
        exact ⟨M', env', h', hp, hE', hK⟩
      · simp only [hi, if_false] at hK ⊢
        exact ⟨M', env', h', hp, hE', hK⟩
    | ret => exact ⟨M', env', h', hp, hE', hK⟩
    | goto l => exact hK.elim
    | panic c => exact hK.elim
    | outgrown => exact hK.elim
  | loop x ih =>
    intro c Q env h hc hk
    obtain ⟨cx, hx, rfl⟩ := map_some' hc
    exact hk x hx
  | exit id =>
    intro c Q env h hc hk ro M w a hro hm hs hn hE
    cases hc
    exact wpIn_exit ⟨M, env, h, .refl hs hn, hE, hk⟩
  | ret =>
    intro c Q env h hc hk ro M w a hro hm hs hn hE
    cases hc
    exact wpIn_ret ⟨M, env, h, .refl hs hn, hE, hk⟩
  | rangeFunc f ps x y ihx ihy =>
    intro c Q env h hc hk
    simp only [compC] at hc
    split at hc
    · cases hc
    · rename_i hr
      simp only [Bool.or_eq_true, not_or, Bool.not_eq_true] at hr
      split at hc
      · rename_i cx cy hx hy
        cases hc
        exact rangeF_sound hr.1 hr.2 hx hy hk
      · cases hc
  | scope x ih =>
    intro c Q env h hc hk ro M w a hro hm hs hn hE
    exact wpIn_scope (ih c Q env h hc hk ro M w a hro hm hs hn hE) (fun l a w ⟨_, _, _, _, _, hq⟩ => hq)
  | label l =>
    intro c Q env h hc hk ro M w a hro hm hs hn hE
    cases hc
    exact wpIn_label ⟨M, env, h, .refl hs hn, hE, hk⟩
  | _ => intro c Q env h hc; cases hc

/-- A LOOP: an invariant with a measure. -/
theorem loop_rule {c : CCode} {Q : CExit → Env → Heap → Prop} (I : Nat → Env → Heap → Prop) {m0 : Nat} {env : Env} {h : Heap} (h0 : I m0 env h)
    (hstep : ∀ m env h, I m env h → wpc P G n c (fun e env' h' => match e with
      | .normal => ∃ m', m' < m ∧ I m' env' h'
      | .exit id => Q (.exit id) env' h'
      | .ret => Q .ret env' h') env h) : LoopP P G n c Q env h := by
  intro g hg ro M w a hro hm hs hn hE
  intro b k cs hro' hb hroom
  have main : ∀ m, ∀ env1 h1 M1 w1 a1, I m env1 h1 → Post n M h w M1 h1 w1 → RepE G.sz M1 env1 a1 →
      ∃ e a' w', QQ n G.sz M h w Q e a' w' ∧ ArrivesIn (Machine.fenced P (fw ro)) P (lone (b.atR a1 (.code g :: .inLoop g :: k)) cs w1) b k cs e a' w' := by
    intro m
    induction m using Nat.strongRecOn with
    | _ m ih =>
      intro env1 h1 M1 w1 a1 hI hp hE1
      obtain ⟨e, a2, w2, hq, harr⟩ := wpc_sound g c _ env1 h1 hg (hstep m env1 h1 hI) ro M1 w1 a1 hro (hp.cc hm) hp.sim hp.len hE1 b (.inLoop g :: k) cs hro' hb hroom
      obtain ⟨M2, env2, h2, hp2, hE2, hK⟩ := hq
      cases e with
      | normal =>
        obtain ⟨m', hlt, hI'⟩ := hK
        obtain ⟨e3, a3, w3, hq3, harr3⟩ := ih m' hlt env2 h2 M2 w2 a2 hI' (hp.trans hp2) hE2
        exact ⟨e3, a3, w3, hq3, .of_steps (StepsIn.trans harr (.one (fenced_calm hb hroom rfl) stepR_inLoop)) harr3⟩
      | exit id => exact ⟨_, a2, w2, ⟨M2, env2, h2, hp.trans hp2, hE2, hK⟩, .pass (x := .inLoop g) rfl (fun _ _ => .inl (by simp)) harr⟩
      | ret => exact ⟨_, a2, w2, ⟨M2, env2, h2, hp.trans hp2, hE2, hK⟩, .pass (x := .inLoop g) rfl (fun _ _ => .inl (by simp)) harr⟩
      | goto l => exact hK.elim
      | panic c => exact hK.elim
      | outgrown => exact hK.elim
  obtain ⟨e, a', w', hq, harr⟩ := main m0 env h M w a h0 (.refl hs hn) hE
  exact ⟨e, a', w', hq, .of_steps (.one (fenced_calm hb hroom rfl) stepR_loop) harr⟩

/-- The results of a function. -/
inductive CRes where
  | tmp (t : Nat)
  | cell (a : Nat) (agg : Option Nat)
def compRes (P : Program) : List ResultVar → Option (List CRes)
  | [] => some []
  | .tmp t :: r => (compRes P r).map (.tmp t :: ·)
  | .cell a T :: r => match aggOf P T, compRes P r with
    | some g, some r => some (.cell a g :: r)
    | _, _ => none
def resV (env : Env) (h : Heap) : List CRes → (List V → Prop) → Prop
  | [], K => K []
  | .tmp t :: r, K => resV env h r fun vs => K (env.get t :: vs)
  | .cell a g :: r, K => step (.load g (.tmp a)) (opnd env) h fun v h' => h' = h ∧ resV env h r fun vs => K (v :: vs)
@[congr] theorem resV_congr {env env' : Env} {h h' : Heap} {l : List CRes} {K : List V → Prop} (h1 : env = env') (h2 : h = h') : resV env h l K = resV env' h' l K := by rw [h1, h2]
def oneV : List V → V
  | [v] => v
  | vs => .tup vs

def retQ (rs : List CRes) (R : V → Heap → Prop) : CExit → Env → Heap → Prop := fun e env h => match e with
  | .exit _ => False
  | _ => resV env h rs fun vs => R (oneV vs) h

def envOf (vs : List V) : Env := vs.zipIdx.map fun p => (p.2, p.1)

theorem get_envOf' (vs : List V) (i k : Nat) : Env.get ((vs.zipIdx i).map fun p => (p.2, p.1)) k = if i ≤ k then (vs[k - i]?).getD .any else .any := by
  induction vs generalizing i with
  | nil => simp [Env.get]
  | cons v vs ih =>
    simp only [List.zipIdx_cons, List.map_cons, Env.get]
    by_cases hk : k = i
    · subst hk; simp
    · rw [if_neg hk, ih]
      by_cases h1 : i ≤ k
      · have e : k - i = (k - (i + 1)) + 1 := by omega
        rw [if_pos h1, if_pos (by omega), e, List.getElem?_cons_succ]
      · rw [if_neg h1, if_neg (by omega)]

theorem get_envOf (vs : List V) (k : Nat) : (envOf vs).get k = (vs[k]?).getD .any := by
  have := get_envOf' vs 0 k
  simpa [envOf] using this

def resOne (a : Act) : ResultVar → Sem Value
  | .tmp t => pure (a.tmps.getD t undef)
  | .cell x T => do loadVar T (← asAddr (a.tmps.getD x undef))

theorem res_sound {env : Env} {h : Heap} {M : Mem} {w : World} {a : Act} (hs : Sim M h w) (hE : RepE G.sz M env a) :
    ∀ (rs : List ResultVar) (cr : List CRes) (K : List V → Prop), compRes P rs = some cr → resV env h cr K →
      ∃ vs us, (rs.mapM (resOne a)).run P w = .ok us w ∧ RepL M vs us ∧ K vs
  | [], cr, K, hc, hk => by cases hc; exact ⟨[], [], rfl, ⟨rfl, fun k v c hv => by simp at hv⟩, hk⟩
  | .tmp t :: r, cr, K, hc, hk => by
    obtain ⟨cr', hr, rfl⟩ := map_some' hc
    obtain ⟨vs, us, h1, h2, h3⟩ := res_sound hs hE r cr' _ hr hk
    refine ⟨_, a.tmps.getD t undef :: us, ?_, RepL.append (RepL.single (hE.2.2 t)) h2, h3⟩
    rw [List.mapM_cons]
    simp only [resOne, Sem.run_bind, Sem.run_pure, Result.andThen_ok, h1]
  | .cell x T :: r, cr, K, hc, hk => by
    simp only [compRes] at hc
    split at hc
    · rename_i g r' hg hr
      cases hc
      let o : Oper := { (default : Oper) with op := .load T (.tmp x) }
      obtain ⟨cv, v, hrun, hv, _, hk⟩ := load0 (P := P) (o := o) (ρ := a.eval) T (.tmp x) g rfl hg (hE.opnd (.tmp x)) hs hk
      obtain ⟨vs, us, h1, h2, h3⟩ := res_sound hs hE r r' _ hr hk
      refine ⟨_, cv :: us, ?_, RepL.append (RepL.single hv) h2, h3⟩
      have h4 : (do loadVar T (← asAddr (a.tmps.getD x undef)) : Sem Value).run P w = .ok cv w := by
        have h5 : (Instr.loadAt T (a.tmps.getD x undef)).run P w = .ok cv w := by
          have h6 : (Functor.map (fun v => Next.value v) (Instr.loadAt T (a.tmps.getD x undef))).run P w = .ok (.value cv) w := by
            have : (execOp a.eval o) = Functor.map (fun v => Next.value v) (Instr.loadAt T (a.tmps.getD x undef)) := by
              simp only [execOp, o, Act.eval]
              rfl
            rw [← this]; exact hrun
          rw [Sem.run_map] at h6
          cases hr5 : (Instr.loadAt T (a.tmps.getD x undef)).run P w with
          | ok c w5 => rw [hr5] at h6; simp only [Result.andThen_ok, Result.ok.injEq, Next.value.injEq] at h6; rw [h6.1, h6.2]
          | halt e w5 => rw [hr5] at h6; simp at h6
        unfold Instr.loadAt Instr.sureAddr at h5
        generalize a.tmps.getD x undef = u at h5
        cases u with
        | pointer ad =>
          cases ad with
          | none => simp at h5
          | some ad => simpa [asAddr] using h5
        | _ => simp at h5
      rw [List.mapM_cons]
      simp only [Sem.run_bind, Result.andThen_ok, h1, Sem.run_pure]
      have h7 : (resOne a (.cell x T)).run P w = .ok cv w := h4
      rw [h7]
      simp only [Result.andThen_ok, h1]
    · cases hc

/-- A function's end: its marks are taken. -/
theorem leaves_marks {M0 M' : Mem} {h h' : Heap} {w : World} {fn : Func} {tmps : Array Value} {cr : List CRes} {R : V → Heap → Prop} {env' : Env}
    (hs0 : Sim M0 h w) (hr : compRes P fn.results.toList = some cr) (hres : resV env' h' cr (fun vs => R (oneV vs) h')) (hm : M'.cc = M0.cc) : ∀ (Ds : List Nat) (M1 : Mem) (w' : World) (ds : List Deferred),
    Post h.length { M0 with df := fun _ => False } h w M1 h' w' → RepE G.sz M1 env' { tmps, defers := [] } → Ds.Nodup → (∀ D ∈ Ds, M1.df D) →
    LeavesInM (fw none) 0 P fn tmps (CallQ M0 h w R) (Ds.map (fun D => { target := .collected D, args := #[] })) .returning w'
  | [], M1, w', ds, hp, hE', _, _ => by
    obtain ⟨vs', us, h1, h2, h3⟩ := res_sound hp.sim hE' _ _ _ hr hres
    have hmap : (fn.results.mapM (resOne { tmps, defers := [] })).run P w' = .ok us.toArray w' := by
      rw [Array.mapM_eq_mapM_toList, Sem.run_map, h1]; rfl
    have hrun : (results fn tmps).run P w' = .ok (if h : us.toArray.size = 1 then us.toArray[0] else .tuple us.toArray) w' := by
      have : results fn tmps = (do let vs ← fn.results.mapM (resOne { tmps, defers := [] }); pure (if h : vs.size = 1 then vs[0] else .tuple vs)) := rfl
      rw [this, Sem.run_bind, hmap, Result.andThen_ok, Sem.run_pure]
    have hmono : ∀ x v, RepV M1 x v → RepV { M1 with df := M0.df } x v := fun x v hx => RepV.mono (M := M1) (M' := { M1 with df := M0.df }) (fun _ _ _ h => h) (fun i r h => ⟨r, h, Nat.le_refl _, fun _ => rfl⟩) hx
    have hpost : Post h.length M0 h w { M1 with df := M0.df } h' w' := by
      refine ⟨hp.ro, ⟨⟨fun _ h => h, fun _ _ h => h, hp.dc.1.2.2⟩, hp.dc.2⟩, hp.le, hp.len, ⟨fun i blk hi => ?_, hp.sim.inj, hp.sim.ro, hp.sim.dom, fun b hb => ?_⟩, hp.os, hp.tape, hp.output, hp.size, hp.keep, hp.live⟩
      · obtain ⟨r, hr, hat⟩ := hp.sim.blks i blk hi
        exact ⟨r, hr, BlkAt.of_same (M := M1) (w := w') rfl (fun _ _ _ h => h) hmono (fun _ _ => rfl) hat⟩
      · obtain ⟨hc, hnl⟩ := hs0.df b hb
        have hlt := (Array.getElem?_eq_some_iff.1 hc).1
        exact ⟨(hp.keep b hlt hnl).trans hc, fun hl => hnl (hp.live b hlt hl)⟩
    show LeavesIn _ _ _ _ _ _ _ _ _
    refine ⟨_, hrun, _, oneV vs', h', _, rfl, hpost, hmono _ _ ?_, h3⟩
    have hl2 := h2.1
    cases vs' with
    | nil =>
      obtain rfl : us = [] := List.eq_nil_of_length_eq_zero hl2.symm
      exact .tup [] [] rfl (fun k v c hv => by simp at hv)
    | cons v1 vs' =>
      cases us with
      | nil => simp at hl2
      | cons u1 us =>
        cases vs' with
        | nil =>
          obtain rfl : us = [] := List.eq_nil_of_length_eq_zero (by simpa using hl2.symm)
          exact h2.2 0 v1 u1 rfl rfl
        | cons v2 vs' =>
          have hne : ¬ (u1 :: us).toArray.size = 1 := by simp only [List.length_cons, List.size_toArray] at hl2 ⊢; omega
          rw [dif_neg hne]
          exact .tup _ _ hl2 h2.2
  | D :: Ds, M1, w', ds, hp, hE', hnd, hdf => by
    obtain ⟨hnd1, hnd2⟩ := List.nodup_cons.1 hnd
    have hD := hdf D (by simp)
    obtain ⟨hc, hnl⟩ := hp.sim.df D hD
    have hge : w.heap.size ≤ D := by
      rcases Nat.lt_or_ge D w.heap.size with hl | hl
      · exact (hp.dc.1.2.1 D hl hD).elim
      · exact hl
    have hs2 := take_sim hp.sim hD
    have hoth : ∀ k, k ≠ D → (w'.putObj D (.deferred none)).heap[k]? = w'.heap[k]? := fun k hk => World.putObj_heap_other hk
    have hp2 : Post h.length { M0 with df := fun _ => False } h w (M1.remDf D) h' (w'.putObj D (.deferred none)) :=
      ⟨hp.ro, ⟨⟨fun _ h => h.elim, fun b hb h => hp.dc.1.2.1 b hb h.1, hp.dc.1.2.2⟩, hp.dc.2⟩, hp.le, hp.len, hs2, hp.os, hp.tape, hp.output, by simpa using hp.size,
        fun b hb hnl => (hoth b (by omega)).trans (hp.keep b hb hnl), hp.live⟩
    refine ⟨by simp, .inl ⟨D, _, rfl, run_takeDeferred hc, ?_⟩⟩
    refine leaves_marks hs0 hr hres hm Ds (M1.remDf D) _ ds hp2 ⟨hE'.1, DefOk.nil _, fun k => ?_⟩ hnd2 (fun E hE => ⟨hdf E (by simp [hE]), fun e => hnd1 (e ▸ hE)⟩)
    exact RepV.mono (M := M1) (M' := M1.remDf D) (fun _ _ _ h => h) (fun i r h => ⟨r, h, Nat.le_refl _, fun _ => rfl⟩) (hE'.2.2 k)

/-- A FUNCTION: its contract, from its compiled body. -/
theorem acalls_of_body {f : FuncId} {fn : Func} {g : Code} {c : CCode} {cr : List CRes} {vs : List V} {h : Heap} {R : V → Heap → Prop} (hf : P.funcs[f]? = some fn) (hname : (fn.name == "runtime.NumGoroutine") = false)
    (hb : fn.body = some g) (hc : compC P G g = some c) (hsz : fn.ntmps = G.sz) (hr : compRes P fn.results.toList = some cr) (hl : vs.length ≤ G.sz)
    (hk : wpc P G h.length c (retQ cr R) (envOf vs) h) : ACalls P f vs h R := by
  refine ⟨⟨fn, hf, hname, by rw [hb]; rfl⟩, fun M0 w args hm hs0 ha => ?_⟩
  refine (callsIn_wide (n := 0)).1 (callsIn_of_wp_marks (F := fw none) hf hb trivial ?_ rfl)
  have hmono : ∀ x v, RepV M0 x v → RepV { M0 with df := fun _ => False } x v := fun x v hx => RepV.mono (M := M0) (M' := { M0 with df := fun _ => False }) (fun _ _ _ h => h) (fun i r h => ⟨r, h, Nat.le_refl _, fun _ => rfl⟩) hx
  have hs : Sim { M0 with df := fun _ => False } h w := ⟨fun i blk hi => by
    obtain ⟨r, hr, hat⟩ := hs0.blks i blk hi
    exact ⟨r, hr, BlkAt.of_same (M := M0) (w := w) rfl (fun _ _ _ h => h) hmono (fun _ _ => rfl) hat⟩, hs0.inj, hs0.ro, hs0.dom, fun _ h => h.elim⟩
  have hE : RepE G.sz { M0 with df := fun _ => False } (envOf vs) { tmps := args.toArray ++ Array.replicate (fn.ntmps - args.toArray.size) undef, defers := [] } := by
    refine ⟨by have := ha.1; simp; omega, DefOk.nil _, fun k => ?_⟩
    rw [get_envOf]
    by_cases hk : k < vs.length
    · have hk' : k < args.length := by rw [← ha.1]; exact hk
      have := hmono _ _ (ha.2 k vs[k] args[k] (by simp [hk]) (by simp [hk']))
      simp [Array.getD_eq_getD_getElem?, Array.getElem?_append, hk, hk', this]
    · rw [List.getElem?_eq_none (by omega)]; exact .any _
  refine wpIn_mono (wpc_sound g c _ _ _ hc hk none { M0 with df := fun _ => False } w _ (fun _ => rfl) hm hs (Nat.le_refl _) hE) (fun e a' w' hq => ?_)
  obtain ⟨M', env', h', hp, hE', hK⟩ := hq
  have fin : resV env' h' cr (fun vs => R (oneV vs) h') → LeavesInM (fw none) 0 P fn a'.tmps (CallQ M0 h w R) a'.defers .returning w' := by
    intro hres
    obtain ⟨Ds, e1, e2, e3⟩ := hE'.2.1
    rw [e1]
    exact leaves_marks (G := G) hs0 hr hres hp.dc.2 Ds M' w' [] hp ⟨hE'.1, DefOk.nil _, hE'.2.2⟩ e2 e3
  cases e with
  | normal => exact fin hK
  | ret => exact fin hK
  | exit id => exact hK.elim
  | goto l => exact hK.elim
  | panic c => exact hK.elim
  | outgrown => exact hK.elim

theorem acalls_of {f : FuncId} {fn : Func} {c : CCode} {cr : List CRes} {vs : List V} {h : Heap} {R : V → Heap → Prop} (hf : P.funcs[f]? = some fn) (hc : fn.body.bind (compC P G) = some c)
    (hr : compRes P fn.results.toList = some cr) (hname : (fn.name == "runtime.NumGoroutine") = false) (hsz : fn.ntmps = G.sz) (hl : vs.length ≤ G.sz)
    (hk : wpc P G h.length c (retQ cr R) (envOf vs) h) : ACalls P f vs h R := by
  obtain ⟨g, hb, hc⟩ := bind_some' hc
  exact acalls_of_body hf hname hb hc hsz hr hl hk

end

/-! What the simplifier may not enter: what comes behind a call, or a loop. -/
@[congr] theorem ACalls_congr {P : Program} {f : FuncId} {vs vs' : List V} {h h' : Heap} {R : V → Heap → Prop} (h1 : vs = vs') (h2 : h = h') : ACalls P f vs h R = ACalls P f vs' h' R := by
  rw [h1, h2]
@[congr] theorem LoopP_congr {P : Program} {G : Cfg} {n : Nat} {c : CCode} {Q : CExit → Env → Heap → Prop} {env env' : Env} {h h' : Heap} (h1 : env = env') (h2 : h = h') : LoopP P G n c Q env h = LoopP P G n c Q env' h' := by
  rw [h1, h2]
end Go.Proofs.Ytdnefcjbcieecaa
