/- A round of a loop over a function: yield's contract, from the loop's compiled body. -/
import Derived.Test.YtdnefcjbcieecaaCoreM
set_option linter.unusedVariables false
set_option linter.unusedSimpArgs false
namespace Go.Proofs.Ytdnefcjbcieecaa
open Go

def envY (ps : List Nat) (args : List V) (env : Env) : Env := (ps.zip args).foldl (fun e p => e.put (some p.1) p.2) env

/-- What is owed at a round's end. -/
def endR (id : Nat) (R : V → Heap → Prop) : CExit → Env → Heap → Prop := fun e _ h =>
  match h[id]? with
  | some (some (.loop L)) => match e with
    | .normal => R (.d (.bool true)) (h.set id (some (.loop { L with st := .ready, pend := none })))
    | e => R (.d (.bool false)) (h.set id (some (.loop { L with st := .done, pend := some e })))
  | _ => False
/-- What is owed when the loop's variables have been assigned. -/
def begR (P : Program) (G : Cfg) (n : Nat) (cb : CCode) (id : Nat) (R : V → Heap → Prop) : CExit → Env → Heap → Prop := fun e env h =>
  match e with
  | .normal => match h[id]? with
    | some (some (.loop L)) => L.st = .ready ∧ wpc P G n cb (endR id R) env (h.set id (some (.loop { L with st := .busy })))
    | _ => False
  | _ => False

section
variable {P : Program} {n : Nat}

theorem LoopAt.set {M : Mem} {L : LoopB} {rec : Loop} (h : LoopAt M L rec) (st : LoopState) (pe : Option CExit) : LoopAt M { L with st := st, pend := pe } { rec with state := st, pending := pe.map codeX } :=
  ⟨rfl, rfl, h.2.2⟩

theorem AYield.of_body {id : Nat} {args : List V} {h : Heap} {L : LoopB} {R : V → Heap → Prop} (hid : h[id]? = some (some (.loop L))) (hl : args.length = L.ps.length) (hps : L.ps.all (fun p => decide (p < L.G.sz)) = true)
    (hk : wpc P L.G h.length L.ca (begR P L.G h.length L.cb id R) (envY L.ps args L.env) h) : AYield P id args h R := by
  intro M w us l hm hs ha hv
  obtain ⟨rec, r, hr, hb, hw, hat, h0⟩ := hs.loopAt hid hv
  obtain ⟨hat1, hat2, hat3, hat4, hat5, hat6, hat7⟩ := hat
  rw [hm] at hat4 hat5
  have hsz : us.toArray.size = rec.params.size := by rw [hat3]; simp [← ha.1, hl]
  refine ⟨_, _, _, _, run_yield hw hsz, ?_⟩
  refine roundIn_of_wpIn (F := Fence.wide) trivial ?_
  -- the round's frame
  have hE : RepE L.G.sz M (envY L.ps args L.env) { tmps := (rec.params.zip us.toArray).foldl (fun tmps (t, a) => tmps.setIfInBounds t a) rec.tmps, defers := [] } := by
    have key : ∀ (ps : List Nat) (args : List V) (us : List Value) (env : Env) (tmps : Array Value), RepL M args us → ps.all (fun p => decide (p < L.G.sz)) = true → RepE L.G.sz M env { tmps, defers := [] } →
        RepE L.G.sz M (envY ps args env) { tmps := (ps.zip us).foldl (fun tmps (t, a) => tmps.setIfInBounds t a) tmps, defers := [] } := by
      intro ps
      induction ps with
      | nil => intro args us env tmps _ _ hE; exact hE
      | cons p ps ih =>
        intro args us env tmps ha hp hE
        cases args with
        | nil =>
          obtain rfl : us = [] := List.eq_nil_of_length_eq_zero ha.1.symm
          exact hE
        | cons v args =>
          cases us with
          | nil => have := ha.1; simp at this
          | cons u us =>
            simp only [List.all_cons, Bool.and_eq_true, decide_eq_true_eq] at hp
            refine ih args us _ _ ⟨by simpa using ha.1, fun k v c hv hc => ha.2 (k + 1) v c (by simpa using hv) (by simpa using hc)⟩ hp.2 ?_
            exact RepE.put (a := { tmps, defers := [] }) (d := some p) (fun x hx => by cases hx; exact hp.1) hE (ha.2 0 v u rfl rfl)
    have := key L.ps args us L.env rec.tmps ha hps ⟨hat6, DefOk.nil _, hat7⟩
    have hz : rec.params.zip us.toArray = (L.ps.zip us).toArray := by rw [hat3]; simp
    rw [hz]
    simpa using this
  have h1 := wpc_sound rec.assign L.ca _ _ h hat4.1 hk (some l) M w _ (fun hh => by rw [hat4.2] at hh; cases hh) hm hs (Nat.le_refl _) hE
  refine wpIn_mono h1 (fun e a' w' hq => ?_)
  obtain ⟨M1, env1, h1', hp1, hE1, hK⟩ := hq
  cases e with
  | normal =>
    simp only [begR] at hK
    split at hK
    · rename_i L1 hL1
      obtain ⟨rec1, r1, hr1, hb1, hw1, hat1', h01⟩ := hp1.sim.loopAt hL1 (hp1.rep hv)
      refine ⟨_, run_beginRound hw1 (by rw [hat1'.1]; exact hK.1), ?_⟩
      have hp2 := hp1.trans (put_loop hp1.sim hp1.len (rec' := { rec1 with state := .busy }) hL1 hr1 hb1 h01 hw1 (L' := { L1 with st := .busy }) ⟨rfl, hat1'.2⟩)
      have h2 := wpc_sound rec.body L.cb _ _ _ hat5.1 hK.2 (some l) M1 _ a' (fun hh => by rw [hat5.2] at hh; cases hh) (hp2.cc hm) hp2.sim hp2.len hE1
      refine wpIn_mono h2 (fun e2 a2 w2 hq2 => ?_)
      obtain ⟨M2, env2, h2', hp3, hE2, hK2⟩ := hq2
      have hp4 := hp2.trans hp3
      have fin : ∀ e : CExit, endR id R e env2 h2' → ∃ v w'', (Instr.endRound l (match e with | .normal => none | e => some (codeX e))).run P w2 = .ok v w'' ∧ CallQ M h w R (.returned v) w'' := by
        intro e hK2
        unfold endR at hK2
        split at hK2
        · rename_i L2 hL2
          obtain ⟨rec2, r2, hr2, hb2, hw2, hat2', h02⟩ := hp4.sim.loopAt hL2 (hp4.rep hv)
          refine ⟨_, _, run_endRound _ hw2, ?_⟩
          cases e with
          | normal =>
            have hp5 := hp4.trans (put_loop hp4.sim hp4.len (rec' := { rec2 with state := .ready, pending := none }) hL2 hr2 hb2 h02 hw2 (L' := { L2 with st := .ready, pend := none }) (hat2'.set .ready none))
            exact ⟨_, _, _, M2, rfl, hp5, .d _ _ (.bool true), hK2⟩
          | exit id =>
            have hp5 := hp4.trans (put_loop hp4.sim hp4.len (rec' := { rec2 with state := .done, pending := some (.exit id) }) hL2 hr2 hb2 h02 hw2 (L' := { L2 with st := .done, pend := some (.exit id) }) (hat2'.set .done (some (.exit id))))
            exact ⟨_, _, _, M2, rfl, hp5, .d _ _ (.bool false), hK2⟩
          | ret =>
            have hp5 := hp4.trans (put_loop hp4.sim hp4.len (rec' := { rec2 with state := .done, pending := some .ret }) hL2 hr2 hb2 h02 hw2 (L' := { L2 with st := .done, pend := some .ret }) (hat2'.set .done (some .ret)))
            exact ⟨_, _, _, M2, rfl, hp5, .d _ _ (.bool false), hK2⟩
        · exact hK2.elim
      cases e2 with
      | normal => exact fin .normal hK2
      | exit i => exact fin (.exit i) hK2
      | ret => exact fin .ret hK2
      | goto t => exact hK2.elim
      | panic c => exact hK2.elim
      | outgrown => exact hK2.elim
    · exact hK.elim
  | exit i => exact hK.elim
  | ret => exact hK.elim
  | goto t => exact hK.elim
  | panic c => exact hK.elim
  | outgrown => exact hK.elim
end
end Go.Proofs.Ytdnefcjbcieecaa
