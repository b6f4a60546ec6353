/- From the abstract weakest precondition to the model's. -/
import Derived.Test.YtdnefcjbcieecaaCoreK
set_option linter.unusedVariables false
set_option linter.unusedSimpArgs false
namespace Go.Proofs.Ytdnefcjbcieecaa
open Go

section
variable {P : Program} {n sz : Nat}

theorem RepL.map {M : Mem} {ρV : Operand → V} {ρ : Operand → Value} (hρ : ∀ x, RepV M (ρV x) (ρ x)) (xs : List Operand) : RepL M (xs.map ρV) (xs.map ρ) := by
  refine ⟨by simp, fun k v c hv hc => ?_⟩
  rw [List.getElem?_map] at hv hc
  cases hx : xs[k]? with
  | none => rw [hx] at hv; cases hv
  | some x => rw [hx] at hv hc; cases hv; cases hc; exact hρ x

theorem RepL.mapNorm {M : Mem} {vs : List V} {us : List Value} (h : RepL M vs us) : RepL M (vs.map normV) us := by
  refine ⟨by simpa using h.1, fun k v c hv hc => ?_⟩
  rw [List.getElem?_map] at hv
  cases hx : vs[k]? with
  | none => rw [hx] at hv; cases hv
  | some x => rw [hx] at hv; cases hv; exact normV_rep (h.2 k x c hx hc)
/-- A contract for normal arguments serves for all. -/
theorem ACalls.norm {P : Program} {f : FuncId} {vs : List V} {h : Heap} {R : V → Heap → Prop} (hc : ACalls P f (vs.map normV) h R) : ACalls P f vs h R :=
  ⟨hc.1, fun M w args hm hs ha => hc.2 M w args hm hs ha.mapNorm⟩

theorem RepL.append {M : Mem} {a b : List V} {x y : List Value} (h1 : RepL M a x) (h2 : RepL M b y) : RepL M (a ++ b) (x ++ y) := by
  refine ⟨by simp [h1.1, h2.1], fun k u c hu hc => ?_⟩
  rcases Nat.lt_or_ge k a.length with hl | hl
  · rw [List.getElem?_append_left hl] at hu
    rw [List.getElem?_append_left (by rw [← h1.1]; exact hl)] at hc
    exact h1.2 k u c hu hc
  · rw [List.getElem?_append_right hl] at hu
    rw [List.getElem?_append_right (by rw [← h1.1]; exact hl), ← h1.1] at hc
    exact h2.2 _ u c hu hc

/-- What is owed behind an operation. -/
def Nxt (n sz : Nat) (M : Mem) (h : Heap) (w : World) (K : Env → Heap → Prop) : Act → World → Prop := fun a' w' =>
  ∃ M' env' h', Post n M h w M' h' w' ∧ RepE sz M' env' a' ∧ K env' h'

theorem semAt_run {ro : Option Nat} {o : Oper} {a : Act} (hnd : ∀ c, o.op ≠ .defer c) : o.semAt (fw ro).round a.eval = execOp a.eval o := Oper.semAt_eq _ _ _ hnd

theorem call_sound {ro : Option Nat} {o : Oper} {a : Act} {w : World} {env : Env} {M : Mem} {h : Heap} {K : Env → Heap → Prop} {Q : Exit → Act → World → Prop} (f : Operand) (args : Array Operand) (ts : Array TypeId)
    (hop : o.op = .call { callee := .value f, args, argTypes := ts }) (hd : ∀ d, o.dst = some d → d < sz) (hm : M.cc = ccP P) (hs : Sim M h w) (hn : n ≤ h.length) (hE : RepE sz M env a)
    (hk : callV P (opnd env f) (args.toList.map (opnd env)) h fun v h' => K (env.put o.dst v) h') : o.wpIn (fw ro) 0 P a w (Nxt n sz M h w K) Q := by
  have hargs : RepL M (args.toList.map (opnd env)) (args.toList.map a.eval) := RepL.map hE.opnd args.toList
  have hf := hE.opnd f
  have hnd : ∀ c, o.op ≠ .defer c := fun c e => by rw [hop] at e; cases e
  have post : ∀ {e w'}, CallQ M h w (fun v h' => K (env.put o.dst v) h') e w' → ∃ cv, e = .returned cv ∧ Nxt n sz M h w K (a.put o.dst cv) w' := by
    rintro e w' ⟨cv, v, h', M', rfl, hp, hv, hK⟩
    exact ⟨cv, rfl, M', _, h', hp.mono hn, RepE.put hd (hE.post hp) hv, hK⟩
  have fin : ∀ g (vs : List V) (us : List Value), ACalls P g vs h (fun v h' => K (env.put o.dst v) h') → RepL M vs us → (execOp a.eval o).run P w = .ok (.enter g us.toArray) w → o.wpIn (fw ro) 0 P a w (Nxt n sz M h w K) Q := by
    intro g vs us hc hr he
    refine ⟨fun _ _ => trivial, ?_⟩
    rw [semAt_run hnd, he, Oper.uponIn_enter]
    refine ⟨fun h => (by cases h), ?_⟩
    refine callsIn_wide.2 ((hc.2 M w us hm hs hr).mono ?_)
    intro e w' hq
    obtain ⟨cv, rfl, hx⟩ := post hq
    exact hx
  have hexec : ∀ g fn (first caps : List Value), P.funcs[g]? = some fn → (fn.name == "runtime.NumGoroutine") = false → fn.body.isNone = false → a.eval f = .func (.func g) first.toArray caps.toArray →
      (execOp a.eval o).run P w = .ok (.enter g (first ++ args.toList.map a.eval ++ caps).toArray) w := by
    intro g fn first caps h1 h2 h3 h4
    obtain ⟨args⟩ := args
    have h2' : fn.name ≠ "runtime.NumGoroutine" := by simpa using h2
    have h3' : fn.body ≠ none := by intro e; rw [e] at h3; cases h3
    simp [execOp, hop, resolve, h4, Deferred.ofValue, invoke, callFunc, h1, h2', h3']
  unfold callV at hk
  split at hk
  · rename_i g e
    rw [e] at hf
    obtain ⟨fn, h1, h2, h3⟩ := hk.1
    have h4 : a.eval f = .func (.func g) #[] #[] := by generalize a.eval f = u at hf; cases hf with | d _ _ h => cases h; rfl
    exact fin g _ _ hk hargs (by simpa using hexec g fn [] [] h1 h2 h3 h4)
  · rename_i g first caps e
    rw [e] at hf
    obtain ⟨fn, h1, h2, h3⟩ := hk.1
    generalize hu : a.eval f = u at hf
    cases hf with
    | fn _ _ _ a1 a2 l1 l2 r1 r2 =>
      exact fin g _ _ hk ((RepL.append (RepL.append ⟨l1, r1⟩ hargs)) ⟨l2, r2⟩) (hexec g fn a1 a2 h1 h2 h3 hu)
  · rename_i id e
    rw [e] at hf
    have hf0 := hf
    generalize hu : a.eval f = u at hf hf0
    cases hf with
    | yl _ r l h1 hv =>
      obtain ⟨fn, tmps, assign, body, hy, hR⟩ := hk M w (args.toList.map a.eval) l hm hs hargs hf0
      have he : (execOp a.eval o).run P w = .ok (.round l fn tmps assign body) w := by
        obtain ⟨args⟩ := args
        simp only [execOp, hop, resolve, hu, Deferred.ofValue]
        simpa [invoke] using hy
      refine ⟨fun _ _ => trivial, ?_⟩
      rw [semAt_run hnd, he, Oper.uponIn_round]
      refine ⟨fun h => (by cases h), ?_⟩
      refine RoundIn.mono hR ?_
      intro e w' hq
      obtain ⟨cv, rfl, hx⟩ := post hq
      exact hx
  · exact hk.elim

theorem op_sound {ro : Option Nat} {o : Oper} {a : Act} {w : World} {env : Env} {M : Mem} {h : Heap} {K : Env → Heap → Prop} {Q : Exit → Act → World → Prop} {own : Bool} {c : RKind} {g : Option (Nat × Bool)}
    (hc : compAny P own o.op = some c) (hd : ∀ d, o.dst = some d → d < sz) (hm : M.cc = ccP P) (hs : Sim M h w) (hn : n ≤ h.length) (hE : RepE sz M env a)
    (hk : runOp P n ⟨o.dst, g, c⟩ env h K) : o.wpIn (fw ro) 0 P a w (Nxt n sz M h w K) Q := by
  unfold compAny at hc
  split at hc
  case h_2 => cases hc; exact hk.elim
  rename_i k0 hc0
  cases hc
  have hc := hc0
  have hnd : ∀ c, o.op ≠ .defer c := fun c e => by rw [e] at hc; simp [compAny0, compOp] at hc
  have out : Out n M h w (fun v h' => K (env.put o.dst v) h') ((execOp a.eval o).run P w) → o.wpIn (fw ro) 0 P a w (Nxt n sz M h w K) Q := by
    rintro ⟨cv, w', M', v, h', hr, hp, henv, hv, hK⟩
    refine ⟨fun _ _ => trivial, ?_⟩
    rw [semAt_run hnd]
    rcases hr with hr | ⟨hr, rfl⟩
    · rw [hr, Oper.uponIn_value]
      exact ⟨M', _, h', hp, RepE.put hd (hE.post hp) hv, hK⟩
    · rw [hr, Oper.uponIn_skip]
      exact ⟨M', _, h', hp, RepE.put hd (hE.post hp) hv, hK⟩
  have simple : ∀ {own c}, compOp P own o.op = some c → step c (opnd env) h (fun v h' => K (env.put o.dst v) h') → o.wpIn (fw ro) 0 P a w (Nxt n sz M h w K) Q :=
    fun hc hst => out (step_sound hc (fun _ => rfl) hE.opnd hs hn hst)
  unfold compAny0 at hc
  split at hc
  · rename_i f args ts hop
    cases hc
    exact call_sound f args ts hop hd hm hs hn hE hk
  · rename_i args ts hop
    split at hc
    · split at hc
      · rename_i e s2 bytes x y ha
        cases hc
        obtain ⟨t, i, rfl, rfl, hu, hi, h1, h2, rfl, rfl⟩ := appOf_spec ha
        simp only [runOp, onSl] at hk
        split at hk
        · refine simple (own := true) (c := .append true e i.size i.bytes x y) ?_ hk
          rw [hop]
          simp only [compOp, ha]
        · rename_i id g len ex
          obtain ⟨⟨e', s2', ds⟩, hrow, ⟨he1, he2, hdl⟩, ⟨m, xs⟩, hcn, ⟨hxl, hb1, hb2⟩, hK⟩ := hk
          simp only at he1 he2 hdl hxl hb1 hb2 hK
          subst he1 he2
          exact out (snd_append_own (n := n) (ρV := opnd env) (ρ := a.eval) (K := fun v h' => K (env.put o.dst v) h') t _ i x y hop hu hi h2 h1 (hE.opnd _) (hE.opnd _) hs hn ex (rowOf_some hrow) hdl hcn hxl hb1 hb2 hK)
        · refine simple (own := true) (c := .append true e i.size i.bytes x y) ?_ hk
          rw [hop]
          simp only [compOp, ha]
        · exact hk.elim
      · cases hc
    · obtain ⟨c', hc', he⟩ := map_some' hc
      cases he
      rw [← hop] at hc'
      exact simple hc' hk
  · obtain ⟨c', hc', he⟩ := map_some' hc
    cases he
    exact simple hc' hk

theorem compROp_spec {own : List Nat} {ops : Array Oper} {o : Oper} {r : ROp} (h : compROp P own sz ops o = some r) : ∃ ow c g, compAny P ow o.op = some c ∧ r = ⟨o.dst, g, c⟩ ∧ (∀ d, o.dst = some d → d < sz) ∧
    match o.guard with | none => g = none | some (j, want) => ∃ t, (ops[j]?).bind (·.dst) = some t ∧ g = some (t, want) ∧ t < sz := by
  unfold compROp at h
  split at h
  · rename_i hd
    have hd' : ∀ d, o.dst = some d → d < sz := by intro d e; rw [e] at hd; exact of_decide_eq_true hd
    cases hg : o.guard with
    | none =>
      rw [hg] at h
      obtain ⟨c, hc, rfl⟩ := map_some' h
      exact ⟨_, c, none, hc, rfl, hd', rfl⟩
    | some p =>
      obtain ⟨j, want⟩ := p
      rw [hg] at h
      simp only at h
      split at h
      · rename_i t ht
        split at h
        · rename_i hlt
          obtain ⟨c, hc, rfl⟩ := map_some' h
          exact ⟨_, c, some (t, want), hc, rfl, hd', t, ht, rfl, hlt⟩
        · cases h
      · cases h
  · cases h

theorem Nxt.trans {M M1 : Mem} {h h1 : Heap} {w w1 : World} {K : Env → Heap → Prop} {a : Act} {w' : World} (hp : Post n M h w M1 h1 w1) (hx : Nxt n sz M1 h1 w1 K a w') : Nxt n sz M h w K a w' :=
  let ⟨M2, env2, h2', hp2, hE2, hK2⟩ := hx; ⟨M2, env2, h2', hp.trans hp2, hE2, hK2⟩

theorem ops_sound {ro : Option Nat} {own : List Nat} {ops : Array Oper} {Q : Exit → Act → World → Prop} {K : Env → Heap → Prop} :
    ∀ (os : List Oper) (rs : List ROp) (k : Nat), compOps P own sz ops os = some rs → (∀ (j : Nat) o, os[j]? = some o → ops[k + j]? = some o) →
      ∀ (M : Mem) (h : Heap) (w : World) (a : Act) (env : Env), M.cc = ccP P → Sim M h w → n ≤ h.length → RepE sz M env a → runOps P n rs env h K →
      (∀ a' w', Nxt n sz M h w K a' w' → Q .normal a' w') → wpOpsIn (fw ro) 0 P ops Q (List.range' k os.length) a w
  | [], rs, k, hc, hops, M, h, w, a, env, hm, hs, hn, hE, hr, hQ => by
    cases hc
    exact hQ _ _ ⟨M, env, h, .refl hs hn, hE, hr⟩
  | o :: os, rs, k, hc, hops, M, h, w, a, env, hm, hs, hn, hE, hr, hQ => by
    unfold compOps at hc
    split at hc
    · rename_i r rs' h1 h2
      cases hc
      obtain ⟨ow, c, g, hcomp, rfl, hd, hg⟩ := compROp_spec h1
      have ho : ops[k]? = some o := by simpa using hops 0 o rfl
      have ih := ops_sound (ro := ro) (K := K) (Q := Q) os rs' (k + 1) h2 (fun j o' hj => by have := hops (j + 1) o' (by simpa using hj); rwa [show k + (j + 1) = k + 1 + j by omega] at this)
      rw [List.length_cons, List.range'_succ, wpOpsIn_cons]
      unfold wpOpIn
      simp only [ho]
      rcases guard_sound hE hg hr with ⟨hw, hy⟩ | ⟨hw, hy⟩
      · rw [if_pos hw]
        refine Oper.wpIn_mono (fun a' w' hx => ?_) (op_sound (n := n) hcomp hd hm hs hn hE hy)
        obtain ⟨M', env', h', hp, hE', hr'⟩ := hx
        exact ih M' h' w' a' env' (hp.dc.2.trans hm) hp.sim hp.len hE' hr' (fun a2 w2 hx => hQ _ _ (Nxt.trans hp hx))
      · rw [if_neg (by simp [hw])]
        exact ⟨fun _ _ => trivial, ih M h w _ _ hm hs hn (RepE.put hd hE (.tup [] [] rfl (fun k v c hv => by simp at hv))) hy hQ⟩
    · cases hc

end
end Go.Proofs.Ytdnefcjbcieecaa
