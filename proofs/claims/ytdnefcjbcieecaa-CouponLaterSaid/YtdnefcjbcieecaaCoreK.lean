/- Frames, regions, code, calls: the abstract weakest precondition and its soundness. -/
import Derived.Test.YtdnefcjbcieecaaCoreKa
import Derived.OrdersIn
import Derived.RangeFuncIn
import Derived.RangeFuncLeaves
import Derived.RangeFuncSeq
set_option linter.unusedVariables false
set_option linter.unusedSimpArgs false
namespace Go.Proofs.Ytdnefcjbcieecaa
open Go

/-- For nil a slice of no elements. -/
def normV : V → V
  | .d .nils => .d (.sl true 0 [])
  | .agg cs => .agg (cs.map fun | .d .nils => .d (.sl true 0 []) | v => v)
  | v => v

/-- The wide fence, in a round or in none. -/
def fw (ro : Option Nat) : Fence := { Fence.wide with round := ro }

/-- What is owed behind a call. -/
def CallQ (M : Mem) (h : Heap) (w : World) (R : V → Heap → Prop) : Ending → World → Prop := fun e w' =>
  ∃ cv v h' M', e = .returned cv ∧ Post h.length M h w M' h' w' ∧ RepV M' v cv ∧ R v h'
theorem CallQ.mono {M : Mem} {h : Heap} {w : World} {R R' : V → Heap → Prop} (hr : ∀ v h', R v h' → R' v h') (e : Ending) (w' : World) (hq : CallQ M h w R e w') : CallQ M h w R' e w' :=
  let ⟨cv, v, h', M', h1, h2, h3, h4⟩ := hq; ⟨cv, v, h', M', h1, h2, h3, hr _ _ h4⟩

def ACalls (P : Program) (f : FuncId) (vs : List V) (h : Heap) (R : V → Heap → Prop) : Prop :=
  (∃ fn, P.funcs[f]? = some fn ∧ (fn.name == "runtime.NumGoroutine") = false ∧ fn.body.isNone = false) ∧
  ∀ M w args, M.cc = ccP P → Sim M h w → RepL M vs args → Calls P f args.toArray w (CallQ M h w R)

/-- A call of a loop's yield. -/
def AYield (P : Program) (id : Nat) (vs : List V) (h : Heap) (R : V → Heap → Prop) : Prop :=
  ∀ M w args l, M.cc = ccP P → Sim M h w → RepL M vs args → RepV M (.yl id) (.func (.yield l) #[] #[]) → YieldAt Fence.wide 0 P l args.toArray w (CallQ M h w R)

theorem ACalls.mono {P : Program} {f : FuncId} {vs : List V} {h : Heap} {R R' : V → Heap → Prop} (hc : ACalls P f vs h R) (hr : ∀ v h', R v h' → R' v h') : ACalls P f vs h R' :=
  ⟨hc.1, fun M w args hm hs ha => (hc.2 M w args hm hs ha).mono fun _ _ => CallQ.mono hr _ _⟩
theorem AYield.mono {P : Program} {id : Nat} {vs : List V} {h : Heap} {R R' : V → Heap → Prop} (hc : AYield P id vs h R) (hr : ∀ v h', R v h' → R' v h') : AYield P id vs h R' :=
  fun M w args l hm hs ha hv => let ⟨fn, tmps, assign, body, h1, h2⟩ := hc M w args l hm hs ha hv; ⟨fn, tmps, assign, body, h1, h2.mono fun _ _ => CallQ.mono hr _ _⟩

def callV (P : Program) (f : V) (args : List V) (h : Heap) (K : V → Heap → Prop) : Prop :=
  match f with
  | .d (.fn (.func g)) => ACalls P g args h K
  | .fn (.func g) first caps => ACalls P g (first ++ args ++ caps) h K
  | .yl id => AYield P id args h K
  | _ => False

/-- Boxes and rows lie as they lay. -/
def Blk.plain : Blk → Bool
  | .box _ => true
  | .row .. => true
  | _ => false
def HLe (h h' : Heap) : Prop := ∀ (i : Nat) b, h[i]? = some (some b) → b.plain = true → h'[i]? = some (some b)
theorem HLe.refl (h : Heap) : HLe h h := fun _ _ h _ => h
theorem HLe.trans {a b c : Heap} (h1 : HLe a b) (h2 : HLe b c) : HLe a c := fun i x hx hp => h2 i x (h1 i x hx hp) hp
theorem HLe.append (h t : Heap) : HLe h (h ++ t) := fun i b hb _ => by
  rw [List.getElem?_append_left]
  · exact hb
  · exact (List.getElem?_eq_some_iff.1 hb).1

def rowOf (h : Heap) (id g : Nat) : Option (Nat × Nat × List D) :=
  match h[id]? with
  | some (some (.row e sz g' ds)) => if g = g' then some (e, sz, ds) else none
  | _ => none
theorem rowOf_some {h : Heap} {id g e sz : Nat} {ds : List D} (hr : rowOf h id g = some (e, sz, ds)) : h[id]? = some (some (.row e sz g ds)) := by
  unfold rowOf at hr
  split at hr
  · rename_i e' sz' g' ds' hh
    split at hr
    · rename_i hg; cases hr; rw [hg]; exact hh
    · cases hr
  · cases hr

def runOp (P : Program) (n : Nat) (r : ROp) (env : Env) (h : Heap) (K : Env → Heap → Prop) : Prop :=
  match r.op with
  | .call f args => callV P (opnd env f) (args.map (opnd env)) h fun v h' => K (env.put r.dst v) h'
  | .callx f args => callV P (opnd env f) (args.map (opnd env)) h fun v h' => HLe h h' ∧ K (env.put r.dst v) h'
  | .app e sz bytes x y => onSl (opnd env x) (fun _ _ _ => step (.append true e sz bytes x y) (opnd env) h fun v h' => K (env.put r.dst v) h')
      (fun id g len => optV (rowOf h id g) fun q => (q.1 = e ∧ q.2.1 = sz ∧ q.2.2.length = len * sz) ∧ optV (conts h (opnd env y)) fun p => (p.2.length = p.1 * sz ∧
        len + p.1 ≤ 140737488355328 ∧ (len + p.1) * bytes ≤ 140737488355328) ∧ K (env.put r.dst (.own id (g + 1) (len + p.1))) (h.set id (some (.row e sz (g + 1) (q.2.2 ++ p.2)))))
      (step (.append true e sz bytes x y) (opnd env) h fun v h' => K (env.put r.dst v) h')
  | .simple op => step op (opnd env) h fun v h' => K (env.put r.dst v) h'

/-- A guard: what was skipped reads as an empty tuple. -/
def guardB (v : V) (want : Bool) (yes no : Prop) : Prop :=
  match v with
  | .tup [] => no
  | v => if want then brV v yes no else brV v no yes
@[congr] theorem guardB_congr {v v' : V} {w : Bool} {yes no : Prop} (h : v = v') : guardB v w yes no = guardB v' w yes no := by rw [h]
theorem guardB_tup (w : Bool) (yes no : Prop) : guardB (.tup []) w yes no = no := rfl
theorem guardB_true (b : D) (yes no : Prop) : guardB (.d b) true yes no = brV (.d b) yes no := rfl
theorem guardB_false (b : D) (yes no : Prop) : guardB (.d b) false yes no = brV (.d b) no yes := rfl

def guardV (env : Env) (g : Option (Nat × Bool)) (yes no : Prop) : Prop :=
  match g with
  | none => yes
  | some (t, want) => guardB (env.get t) want yes no
@[congr] theorem guardV_congr {env env' : Env} {g : Option (Nat × Bool)} {yes no : Prop} (h : env = env') : guardV env g yes no = guardV env' g yes no := by rw [h]
theorem guardV_none (env : Env) (yes no : Prop) : guardV env none yes no = yes := rfl
theorem guardV_some (env : Env) (t : Nat) (w : Bool) (yes no : Prop) : guardV env (some (t, w)) yes no = guardB (env.get t) w yes no := rfl

def runOps (P : Program) (n : Nat) : List ROp → Env → Heap → (Env → Heap → Prop) → Prop
  | [], env, h, K => K env h
  | r :: rs, env, h, K => guardV env r.guard (runOp P n r env h fun env' h' => runOps P n rs env' h' K) (runOps P n rs (env.put r.dst (.tup [])) h K)

@[congr] theorem runOp_congr {P : Program} {n : Nat} {r : ROp} {env env' : Env} {h h' : Heap} {K : Env → Heap → Prop} (h1 : env = env') (h2 : h = h') : runOp P n r env h K = runOp P n r env' h' K := by rw [h1, h2]
@[congr] theorem runOps_congr {P : Program} {n : Nat} {rs : List ROp} {env env' : Env} {h h' : Heap} {K : Env → Heap → Prop} (h1 : env = env') (h2 : h = h') : runOps P n rs env h K = runOps P n rs env' h' K := by rw [h1, h2]

/-- A frame's deferred calls are marks of loops. -/
def DefOk (M : Mem) (ds : List Deferred) : Prop := ∃ Ds : List Nat, ds = Ds.map (fun D => { target := .collected D, args := #[] }) ∧ Ds.Nodup ∧ ∀ D ∈ Ds, M.df D
theorem DefOk.nil (M : Mem) : DefOk M [] := ⟨[], rfl, List.nodup_nil, fun _ h => by simp at h⟩
theorem DefOk.mono {M M' : Mem} {ds : List Deferred} (h : DefOk M ds) (hm : ∀ b, M.df b → M'.df b) : DefOk M' ds :=
  let ⟨Ds, h1, h2, h3⟩ := h; ⟨Ds, h1, h2, fun D hD => hm D (h3 D hD)⟩
/-- What holds of a frame. -/
def RepE (sz : Nat) (M : Mem) (env : Env) (a : Act) : Prop := a.tmps.size = sz ∧ DefOk M a.defers ∧ ∀ k, RepV M (env.get k) (a.tmps.getD k undef)

theorem Env.get_put_same (env : Env) (d : Nat) (v : V) : (env.put (some d) v).get d = v := by simp [Env.put, Env.get]
theorem Env.get_put_other (env : Env) {d k : Nat} (v : V) (h : k ≠ d) : (env.put (some d) v).get k = env.get k := by simp [Env.put, Env.get, h]

theorem RepE.put {sz : Nat} {M : Mem} {env : Env} {a : Act} {d : Option Nat} {v : V} {cv : Value} (hd : ∀ x, d = some x → x < sz) (h : RepE sz M env a) (hv : RepV M v cv) : RepE sz M (env.put d v) (a.put d cv) := by
  obtain ⟨h1, h2, h3⟩ := h
  cases d with
  | none => exact ⟨h1, h2, h3⟩
  | some d =>
    have hlt := hd d rfl
    refine ⟨by simp [Act.put, h1], h2, fun k => ?_⟩
    by_cases hk : k = d
    · subst hk
      rw [Env.get_put_same]
      simp only [Act.put]
      rw [← h1] at hlt
      simpa [Array.getD_eq_getD_getElem?, hlt] using hv
    · rw [Env.get_put_other _ _ hk]
      have := h3 k
      simp only [Act.put, Array.getD_eq_getD_getElem?, Array.getElem?_setIfInBounds_ne (Ne.symm hk)] at this ⊢
      exact this

theorem RepE.opnd {sz : Nat} {M : Mem} {env : Env} {a : Act} (h : RepE sz M env a) (x : Operand) : RepV M (Go.Proofs.Ytdnefcjbcieecaa.opnd env x) (a.eval x) := by
  cases x with
  | tmp t => exact h.2.2 t
  | const v => exact constV_rep M v
  | global g => exact .any _
  | func f => exact .d _ _ (.fn _)

theorem RepE.keep {sz : Nat} {M : Mem} {env : Env} {a : Act} (h : RepE sz M env a) (l : Option (List Nat)) : RepE sz M (env.keep l) a := by
  cases l with
  | none => exact h
  | some l =>
    refine ⟨h.1, h.2.1, fun k => ?_⟩
    have : (env.keep (some l)).get k = .any ∨ (env.keep (some l)).get k = env.get k := by
      rw [Env.keep_some]
      induction l with
      | nil => exact .inl rfl
      | cons j l ih =>
        simp only [List.map_cons, Env.get]
        split
        · rename_i e; subst e; exact .inr rfl
        · exact ih
    rcases this with h' | h'
    · rw [h']; exact .any _
    · rw [h']; exact h.2.2 k

theorem normV_rep {M : Mem} {v : V} {cv : Value} (h : RepV M v cv) : RepV M (normV v) cv := by
  have hnil : ∀ {cv}, RepV M (.d .nils) cv → RepV M (.d (.sl true 0 [])) cv := by
    intro cv h
    cases h with | d _ _ h => cases h; exact .d _ _ (rep_nil _)
  unfold normV
  split
  · exact hnil h
  · rename_i cs
    cases h with
    | agg _ arr hl h h1 =>
      refine .agg _ arr (by simpa using hl) (fun k v c hv hc => ?_) h1
      rw [List.getElem?_map] at hv
      cases hk : cs[k]? with
      | none => rw [hk] at hv; cases hv
      | some y =>
        rw [hk] at hv
        simp only [Option.map_some, Option.some.injEq] at hv
        have := h k y c hk hc
        split at hv
        · subst hv; exact hnil this
        · subst hv; exact this
  · exact h

/-- The post condition of a piece of code, in the world. -/
def QQ (n sz : Nat) (M : Mem) (h : Heap) (w : World) (Q : CExit → Env → Heap → Prop) : Exit → Act → World → Prop := fun e a' w' =>
  ∃ M' env' h', Post n M h w M' h' w' ∧ RepE sz M' env' a' ∧ match e with
    | .normal => Q .normal env' h'
    | .exit id => Q (.exit id) env' h'
    | .ret => Q .ret env' h'
    | _ => False

def AWp (P : Program) (n sz : Nat) (c : Code) (Q : CExit → Env → Heap → Prop) (env : Env) (h : Heap) : Prop :=
  ∀ ro M w a, (hasRange c = true → ro = none) → M.cc = ccP P → Sim M h w → n ≤ h.length → RepE sz M env a → c.wpIn (fw ro) 0 P (QQ n sz M h w Q) a w

theorem RepE.post {n sz : Nat} {M M' : Mem} {h h' : Heap} {w w' : World} {env : Env} {a : Act} (p : Post n M h w M' h' w') (hE : RepE sz M env a) : RepE sz M' env a :=
  ⟨hE.1, hE.2.1.mono p.dc.1.1, fun k => p.rep (hE.2.2 k)⟩

section
variable {P : Program} {n sz : Nat}

theorem guard_sound {env : Env} {M : Mem} {a : Act} {ops : Array Oper} {o : Oper} {g : Option (Nat × Bool)} (hE : RepE sz M env a) {yes no : Prop}
    (hg : match o.guard with | none => g = none | some (j, want) => ∃ t, (ops[j]?).bind (·.dst) = some t ∧ g = some (t, want) ∧ t < sz) (hG : guardV env g yes no) :
    (Region.wanted o (yielded ops a.tmps) = true ∧ yes) ∨ (Region.wanted o (yielded ops a.tmps) = false ∧ no) := by
  cases ho : o.guard with
  | none =>
    rw [ho] at hg
    simp only at hg
    subst hg
    exact .inl ⟨by simp [Region.wanted, ho], hG⟩
  | some p =>
    obtain ⟨j, want⟩ := p
    rw [ho] at hg
    obtain ⟨t, h1, rfl, hlt⟩ := hg
    have hrep := hE.2.2 t
    have hget : a.tmps[t]? = some (a.tmps.getD t undef) := by
      have : t < a.tmps.size := by rw [hE.1]; exact hlt
      simp [Array.getD_eq_getD_getElem?, this]
    simp only [guardV, guardB] at hG
    split at hG
    · rename_i e
      rw [e] at hrep
      obtain ⟨arr, hp, hr⟩ := hrep.tupI
      have hy : yielded ops a.tmps j = none := by
        unfold yielded
        rw [h1]
        simp only [Option.bind_some, hget, hp]
      exact .inr ⟨by simp [Region.wanted, ho, hy], hG⟩
    · rename_i v hne
      have key : ∀ (b : Bool), env.get t = .d (.bool b) → yielded ops a.tmps j = some b := by
        intro b e
        rw [e] at hrep
        unfold yielded
        rw [h1]
        simp only [Option.bind_some, hget, hrep.boolI]
      cases want with
      | true =>
        simp only [if_true, brV] at hG
        split at hG
        · rename_i b e
          have hy := key b e
          cases b with
          | true => exact .inl ⟨by simp [Region.wanted, ho, hy], hG.1 rfl⟩
          | false => exact .inr ⟨by simp [Region.wanted, ho, hy], hG.2 rfl⟩
        · exact hG.elim
      | false =>
        simp only [Bool.false_eq_true, if_false, brV] at hG
        split at hG
        · rename_i b e
          have hy := key b e
          cases b with
          | true => exact .inr ⟨by simp [Region.wanted, ho, hy], hG.1 rfl⟩
          | false => exact .inl ⟨by simp [Region.wanted, ho, hy], hG.2 rfl⟩
        · exact hG.elim

end
end Go.Proofs.Ytdnefcjbcieecaa
