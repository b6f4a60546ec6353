/- Draw regions: the model's. -/
import Derived.Test.YtdnefcjbcieecaaCoreR
set_option linter.unusedVariables false
set_option linter.unusedSimpArgs false
namespace Go.Proofs.Ytdnefcjbcieecaa
open Go

section
variable {md : Region.Mode} {P : Program} {n sz : Nat}

theorem runK2_sound {d : Option Nat} {g : Option (Nat × Bool)} {op : RKind} {env : Env} {h : Heap} {K : Env → Heap → Prop} (hy : runK2 P n op (opnd env) h fun v h' => K (env.put d v) h') : runOp P n ⟨d, g, op⟩ env h K := by
  have h1 : runOps2 P n [⟨d, none, op⟩] env h K := by
    rw [runOps2_cons]
    unfold runG
    exact hy
  have h2 := runOps2_sound P n _ _ _ _ h1
  unfold runOps guardV at h2
  unfold runOp at h2 ⊢
  exact h2

theorem runK2_draw {op : RKind} {ρ : Operand → V} {h : Heap} {K : V → Heap → Prop} (hy : runK2 P n (drawK op) ρ h K) : runK2 P n op ρ h K := by
  cases op with
  | call f a => exact callV_mono hy (fun v h' hK => hK.2)
  | _ => exact hy

theorem compOps_get {own : List Nat} {ops : Array Oper} : ∀ {os : List Oper} {rs : List ROp}, compOps P own sz ops os = some rs → rs.length = os.length ∧ ∀ (i : Nat) o, os[i]? = some o → ∃ r, rs[i]? = some r ∧ compROp P own sz ops o = some r
  | [], rs, h => by cases h; exact ⟨rfl, fun i o h => by simp at h⟩
  | o :: os, rs, h => by
    unfold compOps at h
    split at h
    · rename_i r rs' h1 h2
      cases h
      obtain ⟨hl, hg⟩ := compOps_get h2
      refine ⟨by simp [hl], fun i o' ho => ?_⟩
      cases i with
      | zero => simp at ho; subst ho; exact ⟨r, rfl, h1⟩
      | succ i => simpa using hg i o' (by simpa using ho)
    · cases h

theorem drawOps_get {ops : Array Oper} : ∀ (rs : List ROp) (k i : Nat) (r : ROp), rs[i]? = some r → ∃ q, (drawOps md ops rs k)[i]? = some q ∧ (q = r ∨ q = drawOp r)
  | [], _, _, _, h => by simp at h
  | x :: rs, k, 0, r, h => by
    simp only [List.getElem?_cons_zero, Option.some.injEq] at h
    subst h
    refine ⟨_, rfl, ?_⟩
    split
    · exact .inl rfl
    · exact .inr rfl
  | x :: rs, k, i + 1, r, h => drawOps_get rs (k + 1) i r (by simpa using h)

theorem SAll_sound {ro : Option Nat} {own : List Nat} {ops : Array Oper} {rs : List ROp} {K : Env → Heap → Prop} {Q : Exit → Act → World → Prop} (hc : compOps P own sz ops ops.toList = some rs) :
    ∀ (f : Nat) (listed : Array Bool) (M : Mem) (h : Heap) (w : World) (a : Act) (env : Env), M.cc = ccP P → Sim M h w → n ≤ h.length → RepE sz M env a → SAll md P n ops (drawOps md ops rs 0) K f listed env h →
      (∀ a' w', Nxt n sz M h w K a' w' → Q .normal a' w') → wpAnyIn (fw ro) 0 P md ops Q f listed a w
  | 0, listed, M, h, w, a, env, hm, hs, hn, hE, hr, hQ => ⟨hr.1, hQ _ _ ⟨M, env, h, .refl hs hn, hE, hr.2⟩⟩
  | f + 1, listed, M, h, w, a, env, hm, hs, hn, hE, hr, hQ => by
    refine ⟨fun h0 => hQ _ _ ⟨M, env, h, .refl hs hn, hE, hr.1 h0⟩, fun i hi => ?_⟩
    have hr := hr.2 i hi
    obtain ⟨_, o, ho, _⟩ := mem_ready.1 hi
    obtain ⟨r, hri, hcr⟩ := (compOps_get hc).2 i o (by simpa using ho)
    obtain ⟨ow, c, g, hcomp, rfl, hd, hg⟩ := compROp_spec hcr
    obtain ⟨q, hrd, hq⟩ := drawOps_get (md := md) (ops := ops) rs 0 i _ hri
    unfold runI at hr
    rw [hrd] at hr
    unfold wpOpIn
    simp only [ho]
    have hr : guardV env g (runK2 P n c (opnd env) h fun v h' => SAll md P n ops (drawOps md ops rs 0) K f (listed.setIfInBounds i true) (env.put o.dst v) h') (SAll md P n ops (drawOps md ops rs 0) K f (listed.setIfInBounds i true) (env.put o.dst (.tup [])) h) := by
      rcases hq with rfl | rfl
      · exact hr
      · unfold runG drawOp at hr
        exact guardV_imp hr runK2_draw id
    rcases guard_sound hE hg hr with ⟨hw, hy⟩ | ⟨hw, hy⟩
    · rw [if_pos hw]
      refine Oper.wpIn_mono (fun a' w' hx => ?_) (op_sound (n := n) (g := g) hcomp hd hm hs hn hE (runK2_sound (g := g) hy))
      obtain ⟨M', env', h', hp, hE', hr'⟩ := hx
      exact SAll_sound hc f _ M' h' w' a' env' (hp.dc.2.trans hm) hp.sim hp.len hE' hr' (fun a2 w2 hx => hQ _ _ (Nxt.trans hp hx))
    · rw [if_neg (by simp [hw])]
      exact ⟨fun _ _ => trivial, SAll_sound hc f _ M h w _ _ hm hs hn (RepE.put hd hE (.tup [] [] rfl (fun k v c hv => by simp at hv))) hy hQ⟩

/-- A region of any order. -/
theorem draw_sound {ro : Option Nat} {id : Nat} {own : List Nat} {ops : Array Oper} {rs : List ROp} {t : OT} {K : Env → Heap → Prop} {Q : Exit → Act → World → Prop} {M : Mem} {h : Heap} {w : World} {a : Act} {env : Env}
    (hdep : P.follows .mixedOrders = true) (hrs : compOps P own sz ops ops.toList = some rs) (hc : compTree .any (drawOps .any ops rs 0) ops = some t) (hK : ∀ e e' h, (∀ k, e.get k = e'.get k) → K e h → K e' h)
    (hm : M.cc = ccP P) (hs : Sim M h w) (hn : n ≤ h.length) (hE : RepE sz M env a) (hr : runT P n (drawOps .any ops rs 0) K t env h)
    (hQ : ∀ a' w', Nxt n sz M h w K a' w' → Q .normal a' w') : (Code.region id ops true).wpIn (fw ro) 0 P Q a w := by
  refine wpIn_region_any hdep ?_
  have hp := Post.of_heap (w' := { w with drawn := w.drawn + 1 }) hs hn rfl rfl rfl rfl
  have hdc : DC .any ops (Array.replicate ops.size false) := fun j hj => by
    exfalso
    rcases Nat.lt_or_ge j ops.size with h' | h' <;> simp [h', Array.getElem?_replicate] at hj
  have hrl : Rl ops (Array.replicate ops.size false) 0 := ⟨by simp, fun j => by
    rcases Nat.lt_or_ge j ops.size with h' | h' <;> simp [h', Array.getElem?_replicate]⟩
  exact SAll_sound hrs ops.size _ M h _ a env hm hp.sim hn hE (treeF_sound hK ops.size 0 _ t env h hc hrl hdc hr)
    (fun a' w' hx => hQ _ _ (Nxt.trans hp hx))

end
end Go.Proofs.Ytdnefcjbcieecaa
