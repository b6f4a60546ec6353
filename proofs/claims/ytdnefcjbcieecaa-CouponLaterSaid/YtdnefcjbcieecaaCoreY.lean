/- What has been reckoned once need not be reckoned again: calls without references. -/
import Derived.Test.YtdnefcjbcieecaaCoreZ
set_option linter.unusedVariables false
set_option linter.unusedSimpArgs false
namespace Go.Proofs.Ytdnefcjbcieecaa
noncomputable section
open Go

theorem plain0_rep {M M' : Mem} (hr : ∀ b o v, M.ro b o = some v → M'.ro b o = some v) {v : V} (hp : plain0 v = true) {c : Value} (h : RepV M v c) : RepV M' v c := by
  cases h with
  | any v => exact .any _
  | d x v h => exact .d _ _ (h.mono hr)
  | rptr cs off b o vals h1 h2 => exact .rptr _ _ b o vals (fun k hk => hr _ _ _ (h1 k hk)) (fun k c hk => (h2 k c hk).mono hr)
  | _ => cases hp
theorem plain1_rep {M M' : Mem} (hr : ∀ b o v, M.ro b o = some v → M'.ro b o = some v) {v : V} (hp : plain1 v = true) {c : Value} (h : RepV M v c) : RepV M' v c := by
  cases h with
  | any v => exact .any _
  | d x v h => exact .d _ _ (h.mono hr)
  | rptr cs off b o vals h1 h2 => exact .rptr _ _ b o vals (fun k hk => hr _ _ _ (h1 k hk)) (fun k c hk => (h2 k c hk).mono hr)
  | agg cs arr hl h h1 =>
    have hp : allZ plain0 cs = true := hp
    rw [allZ_eq] at hp
    exact .agg cs arr hl (fun k v c hv hc => plain0_rep hr (all_get hp hv) (h k v c hv hc)) h1
  | _ => cases hp
theorem plain2_rep {M M' : Mem} (hr : ∀ b o v, M.ro b o = some v → M'.ro b o = some v) {v : V} (hp : plain2 v = true) {c : Value} (h : RepV M v c) : RepV M' v c := by
  cases h with
  | any v => exact .any _
  | d x v h => exact .d _ _ (h.mono hr)
  | rptr cs off b o vals h1 h2 => exact .rptr _ _ b o vals (fun k hk => hr _ _ _ (h1 k hk)) (fun k c hk => (h2 k c hk).mono hr)
  | agg cs arr hl h h1 => exact plain1_rep hr (v := .agg cs) hp (.agg cs arr hl h h1)
  | tup cs arr hl h =>
    have hp : allZ plain1 cs = true := hp
    rw [allZ_eq] at hp
    exact .tup cs arr hl (fun k v c hv hc => plain1_rep hr (all_get hp hv) (h k v c hv hc))
  | _ => cases hp

/-- A call without references does the same at any heap. -/
theorem ACalls.frame {P : Program} {g : Nat} {args : List V} {v : V} (ha : allZ plain1 args = true) (hv : plain2 v = true) (hc : ACalls P g args [] fun v1 h1 => v1 = v ∧ h1 = []) (h : Heap) :
    ACalls P g args h fun v1 h1 => v1 = v ∧ h1 = h := by
  refine ⟨hc.1, fun M w us hm hs hu => ?_⟩
  rw [allZ_eq] at ha
  let M0 : Mem := { M with mu := fun _ => none }
  have hs0 : Sim M0 [] w := ⟨fun i blk hi => by simp at hi, fun i j bi bj ri rj b hi => by simp at hi, fun b o u hu => ⟨(hs.ro b o u hu).1, fun ⟨i, blk, r, hi, _⟩ => by simp at hi⟩, fun _ _ => rfl,
    fun b hb => ⟨(hs.df b hb).1, fun ⟨i, blk, r, hi, _⟩ => by simp at hi⟩⟩
  have hu0 : RepL M0 args us := ⟨hu.1, fun k x c hx hc => plain1_rep (M := M) (M' := M0) (fun _ _ _ h => h) (all_get ha hx) (hu.2 k x c hx hc)⟩
  refine (hc.2 M0 w us hm hs0 hu0).mono ?_
  rintro e w' ⟨cv, v1, h1, M1, rfl, p, hrv, rfl, rfl⟩
  have hnl : ∀ b, ¬ liveBlk M0 [] b := fun b ⟨i, blk, r, hi, _⟩ => by simp at hi
  let M' : Mem := { M1 with mu := M.mu }
  have hro : ∀ b o u, M.ro b o = some u → M'.ro b o = some u := fun b o u hu => p.ro b o u hu
  have hle : MuLe M M' := fun i r hr => ⟨r, hr, Nat.le_refl _, fun _ => rfl⟩
  have hlive : ∀ b, liveBlk M' h b → liveBlk M h b := fun b hl => hl
  refine ⟨cv, v1, h, M', rfl, ⟨hro, ⟨⟨p.dc.1.1, p.dc.1.2.1, fun b o u hb hu => ?_⟩, p.dc.2⟩, hle, Nat.le_refl _, ⟨fun i blk hi => ?_, hs.inj, fun b o u hu => ⟨(p.sim.ro b o u hu).1, fun hl => ?_⟩, hs.dom, fun b hb => ⟨(p.sim.df b hb).1, fun hl => ?_⟩⟩,
    p.os, p.tape, p.output, p.size, fun b hb _ => p.keep b hb (hnl b), fun b _ hl => hl⟩, plain2_rep (M := M1) (M' := M') (fun _ _ _ h => h) hv hrv, rfl, rfl⟩
  · exact (p.dc.1.2.2 b o u hb hu).elim .inl fun hl => (hnl b hl).elim
  · obtain ⟨r, hr, hat⟩ := hs.blks i blk hi
    exact ⟨r, hr, BlkAt.of_same (M := M) (M' := M') (w := w) p.dc.2 hro (fun x v hx => hx.mono hro hle) (fun b hb => p.keep b (hs.live_lt ⟨i, blk, r, hi, hr, hb⟩) (hnl b)) hat⟩
  · have hlt := hs.live_lt hl
    rcases p.dc.1.2.2 b o u hlt hu with h0 | h0
    · exact (hs.ro b o u h0).2 hl
    · exact hnl b h0
  · have hlt := hs.live_lt hl
    exact (hs.df b (p.dc.1.2.1 b hlt hb)).2 hl

abbrev MemoX := Nat → List V → Option V
def MemoOk (P : Program) (memo : MemoX) : Prop := ∀ g args v, memo g args = some v → ∀ h, ACalls P g args h fun v1 h1 => v1 = v ∧ h1 = h
def memo0 : MemoX := fun _ _ => none
def memoC (g : Nat) (args : List V) (v : V) (rest : MemoX) : MemoX := fun g' a => @Bool.rec (fun _ => Option V) (rest g' a) (@Bool.rec (fun _ => Option V) (rest g' a) (some v) (eqVLF args a)) (Nat.beq g' g)
theorem memo0_ok {P : Program} : MemoOk P memo0 := fun _ _ _ h => by cases h
theorem memoC_ok {P : Program} {g : Nat} {args : List V} {v : V} {rest : MemoX} (hc : ∀ h, ACalls P g args h fun v1 h1 => v1 = v ∧ h1 = h) (hr : MemoOk P rest) : MemoOk P (memoC g args v rest) := by
  intro g' a v' he
  unfold memoC at he
  cases hg : Nat.beq g' g with
  | false => rw [hg] at he; exact hr g' a v' he
  | true =>
    rw [hg] at he
    cases ha : eqVLF args a with
    | false => rw [ha] at he; exact hr g' a v' he
    | true =>
      rw [ha] at he
      cases he
      rw [Nat.eq_of_beq_eq_true hg, ← eqVLF_sound _ _ ha]
      exact hc

def tabM (tab : TabX) (memo : MemoX) (ih : XCall) (k : Nat) (g : Nat) (args : List V) (d : Wd) (h : Heap) : RQ :=
  @Option.rec V (fun _ => RQ) (tabQ tab ih k g args d h) (fun v => some (v, d, h)) (memo g args)
def dispM (f : V) (tab : TabX) (memo : MemoX) (ih : XCall) (k : Nat) (args : List V) (d : Wd) (h : Heap) : RQ := @V.rec (fun _ => TabX → MemoX → XCall → Nat → List V → Wd → Heap → RQ) (fun _ => Unit) (fun _ _ _ _ _ _ _ => none) (@D.rec (fun _ => TabX → MemoX → XCall → Nat → List V → Wd → Heap → RQ) (fun _ => Unit) (fun _ _ _ _ _ _ _ => none) (fun _ _ => (fun _ _ _ _ _ _ _ => none)) (fun _ => (fun _ _ _ _ _ _ _ => none)) (fun _ => (fun _ _ _ _ _ _ _ => none)) (fun _ _ _ _ _ _ _ => none) (fun _ _ _ _ _ _ _ => none) (fun _ _ _ _ _ _ _ => none) (fun _ _ _ _ _ _ _ => none) (@Fn.rec (fun _ => TabX → MemoX → XCall → Nat → List V → Wd → Heap → RQ) (fun g tab memo ih k args d h => tabM tab memo ih k g args d h) (fun _ => (fun _ _ _ _ _ _ _ => none)) (fun _ _ => (fun _ _ _ _ _ _ _ => none)) (fun _ _ _ _ => (fun _ _ _ _ _ _ _ => none)) (fun _ => (fun _ _ _ _ _ _ _ => none))) (fun _ _ _ _ => (fun _ _ _ _ _ _ _ => none)) () (fun _ _ _ _ => ())) (fun _ _ => (fun _ _ _ _ _ _ _ => none)) (fun _ _ => (fun _ _ _ _ _ _ _ => none)) (fun _ _ _ => (fun _ _ _ _ _ _ _ => none)) (fun _ _ _ => (fun _ _ _ _ _ _ _ => none)) (fun _ _ => (fun _ _ _ _ _ _ _ => none)) (fun f first caps _ _ => @Fn.rec (fun _ => List V → List V → TabX → MemoX → XCall → Nat → List V → Wd → Heap → RQ) (fun g first caps tab memo ih k args d h => tabM tab memo ih k g (appZ first (appZ args caps)) d h) (fun _ _ _ => (fun _ _ _ _ _ _ _ => none)) (fun _ _ _ _ => (fun _ _ _ _ _ _ _ => none)) (fun _ _ _ _ _ _ => (fun _ _ _ _ _ _ _ => none)) (fun _ _ _ => (fun _ _ _ _ _ _ _ => none)) f first caps) (fun _ => (fun _ _ _ _ _ _ _ => none)) (fun id tab memo ih k args d h => yieldZ ih k id args d h) () (fun _ _ _ _ => ()) f tab memo ih k args d h
def callM (tab : TabX) (memo : MemoX) (k : Nat) : XCall := Nat.rec (motive := fun _ => XCall) (fun _ _ _ _ => none) (fun k ih f args d h => dispM f tab memo ih k args d h) k
theorem tabM_sound {P : Program} {tab : TabX} {memo : MemoX} (ht : TabOk P tab) (hm : MemoOk P memo) {ih : XCall} (hi : CallOk P ih) {k g : Nat} {args : List V} {d d' : Wd} {h h' : Heap} {v : V}
    (he : tabM tab memo ih k g args d h = some (v, d', h')) : ACalls P g args h (fun v1 h1 => v1 = v ∧ h1 = h') ∧ Low d d' h h' := by
  unfold tabM at he
  cases hq : memo g args with
  | some v0 => rw [hq] at he; cases he; exact ⟨hm g args _ hq h, Low.refl _ _⟩
  | none =>
    rw [hq] at he
    have he : tabQ tab ih k g args d h = some (v, d', h') := he
    rw [tabQ_eq] at he
    split at he
    · rename_i F hF; exact funZ_sound hi (ht g F hF) he
    · cases he
theorem callM_sound {P : Program} {tab : TabX} {memo : MemoX} (ht : TabOk P tab) (hm : MemoOk P memo) : ∀ k, CallOk P (callM tab memo k)
  | 0, _, _, _, _, _, _, _, he => by cases he
  | k + 1, f, args, d, h, v, d', h', he => by
    have he2 : dispM f tab memo (callM tab memo k) k args d h = some (v, d', h') := he
    clear he
    cases f with
    | d y => cases y with
      | fn f => cases f with
        | func g => exact tabM_sound ht hm (callM_sound ht hm k) he2
        | _ => cases he2
      | _ => cases he2
    | fn f first caps => cases f with
      | func g =>
        have he3 : tabM tab memo (callM tab memo k) k g (appZ first (appZ args caps)) d h = some (v, d', h') := he2
        rw [appZ_eq, appZ_eq, ← List.append_assoc] at he3
        exact tabM_sound ht hm (callM_sound ht hm k) he3
      | _ => cases he2
    | yl id =>
      have he3 : yieldZ (callM tab memo k) k id args d h = some (v, d', h') := he2
      rw [yieldZ_eq] at he3
      exact yieldX_sound (callM_sound ht hm k) he3
    | _ => cases he2

/-- What a call without references yields. -/
def chkM (tab : TabX) (memo : MemoX) (k g : Nat) (args : List V) (v : V) : Bool :=
  andQ (allZ plain1 args) (andQ (plain2 v) (@Option.rec (V × Wd × Heap) (fun _ => Bool) false (fun q => andQ (eqVF q.1 v) (@List.rec (Option Blk) (fun _ => Bool) true (fun _ _ _ => false) q.2.2)) (callM tab memo k (.d (.fn (.func g))) args .all [])))
theorem chkM_sound {P : Program} {tab : TabX} {memo : MemoX} (ht : TabOk P tab) (hm : MemoOk P memo) {k g : Nat} {args : List V} {v : V} (he : chkM tab memo k g args v = true) :
    ∀ h, ACalls P g args h fun v1 h1 => v1 = v ∧ h1 = h := by
  unfold chkM at he
  simp only [andQ_eq, Bool.and_eq_true] at he
  obtain ⟨h1, h2, h3⟩ := he
  cases hc : callM tab memo k (.d (.fn (.func g))) args .all [] with
  | none => rw [hc] at h3; cases h3
  | some q =>
    obtain ⟨v', d', h'⟩ := q
    rw [hc] at h3
    have h3 : (eqVF v' v && @List.rec (Option Blk) (fun _ => Bool) true (fun _ _ _ => false) h') = true := h3
    simp only [Bool.and_eq_true] at h3
    obtain ⟨e1, e2⟩ := h3
    have e1 := eqVF_sound _ _ e1
    subst e1
    cases h' with
    | cons b r => cases e2
    | nil => exact ACalls.frame h1 h2 (callM_sound ht hm k _ _ _ _ _ _ _ hc).1

/-! A function's code, part by part. -/
def isNorm (e : CExit) : Bool := @CExit.rec (fun _ => Bool) true (fun _ => false) false e
def chkS (call : XCall) (fuel : Nat) (G : Cfg) (c : CCode) (env : Env) (h : Heap) (env' : Env) (h' : Heap) : Bool :=
  @Option.rec (List Way) (fun _ => Bool) false (fun l => @List.rec Way (fun _ => Bool) false (fun r rs _ => @List.rec Way (fun _ => Bool) (andQ (isNorm r.e) (andQ (eqEnv r.env env') (eqHs r.h h'))) (fun _ _ _ => false) rs) l) (xL call fuel G c env .all h)
theorem chkS_sound {P : Program} {call : XCall} (hc : CallOk P call) {fuel : Nat} {G : Cfg} {c : CCode} {env env' : Env} {h h' : Heap} (he : chkS call fuel G c env h env' h' = true) {n : Nat} {Q : CExit → Env → Heap → Prop}
    (hq : Q .normal env' h') : wpc P G n c Q env h := by
  unfold chkS at he
  rw [xL_eq] at he
  cases hx : xC call fuel G c env .all h with
  | none => rw [hx] at he; cases he
  | some l =>
    rw [hx] at he
    cases l with
    | nil => cases he
    | cons r rs => cases rs with
      | cons s rs => cases he
      | nil =>
        have he : andQ (isNorm r.e) (andQ (eqEnv r.env env') (eqHs r.h h')) = true := he
        simp only [andQ_eq, Bool.and_eq_true] at he
        obtain ⟨h1, h2, h3⟩ := he
        refine (xC_sound (P := P) (n := n) hc c _ _ _ _ hx).1 Q fun x hx => ?_
        rcases List.mem_singleton.1 hx with rfl
        have hn : x.e = .normal := by
          cases hxe : x.e with
          | normal => rfl
          | exit i => rw [hxe] at h1; cases h1
          | ret => rw [hxe] at h1; cases h1
        rw [hn, eqEnv_sound _ _ h2, eqHs_sound _ _ h3]
        exact hq
def hdC (c : CCode) : CCode := @CCode.rec (fun _ => CCode) .skip (fun _ _ => .skip) (fun _ _ _ _ => .skip) (fun _ => .skip) (fun _ _ _ _ _ _ => .skip) (fun a _ _ _ => a) (fun _ _ _ _ _ => .skip) (fun _ _ _ => .skip) (fun _ _ => .skip) (fun _ => .skip) .skip c
def tlC (c : CCode) : CCode := @CCode.rec (fun _ => CCode) .skip (fun _ _ => .skip) (fun _ _ _ _ => .skip) (fun _ => .skip) (fun _ _ _ _ _ _ => .skip) (fun _ b _ _ => b) (fun _ _ _ _ _ => .skip) (fun _ _ _ => .skip) (fun _ _ => .skip) (fun _ => .skip) .skip c
def isSeq (c : CCode) : Bool := @CCode.rec (fun _ => Bool) false (fun _ _ => false) (fun _ _ _ _ => false) (fun _ => false) (fun _ _ _ _ _ _ => false) (fun _ _ _ _ => true) (fun _ _ _ _ _ => false) (fun _ _ _ => false) (fun _ _ => false) (fun _ => false) false c
theorem wpc_step {P : Program} {call : XCall} (hc : CallOk P call) {fuel : Nat} {G : Cfg} {c : CCode} (hs : isSeq c = true) {env env' : Env} {h h' : Heap} (he : chkS call fuel G (hdC c) env h env' h' = true) {n : Nat}
    {Q : CExit → Env → Heap → Prop} (hq : wpc P G n (tlC c) Q env' h') : wpc P G n c Q env h := by
  cases c with
  | seq a b => exact chkS_sound (P := P) hc (c := a) he (Q := fun e env h => match e with
      | .normal => wpc P G n b Q env h
      | .exit id => Q (.exit id) env h
      | .ret => Q .ret env h) hq
  | _ => cases hs
def chkE (call : XCall) (fuel : Nat) (G : Cfg) (c : CCode) (env : Env) (h : Heap) (cr : List CRes) (v : V) : Bool :=
  @Option.rec (List Way) (fun _ => Bool) false (fun l => @List.rec Way (fun _ => Bool) false (fun r rs _ => @List.rec Way (fun _ => Bool)
    (andQ (@CExit.rec (fun _ => Bool) true (fun _ => false) true r.e) (@Option.rec (List V) (fun _ => Bool) false (fun vs => eqVF (oneQ vs) v) (resZ r.env r.h cr))) (fun _ _ _ => false) rs) l) (xL call fuel G c env .all h)
theorem wpc_end {P : Program} {call : XCall} (hc : CallOk P call) {fuel : Nat} {G : Cfg} {c : CCode} {env : Env} {h : Heap} {cr : List CRes} {v : V} (he : chkE call fuel G c env h cr v = true) {n : Nat} :
    wpc P G n c (retQ cr fun v1 _ => v1 = v) env h := by
  unfold chkE at he
  rw [xL_eq] at he
  cases hx : xC call fuel G c env .all h with
  | none => rw [hx] at he; cases he
  | some l =>
    rw [hx] at he
    cases l with
    | nil => cases he
    | cons r rs => cases rs with
      | cons s rs => cases he
      | nil =>
        have he : andQ (@CExit.rec (fun _ => Bool) true (fun _ => false) true r.e) (@Option.rec (List V) (fun _ => Bool) false (fun vs => eqVF (oneQ vs) v) (resZ r.env r.h cr)) = true := he
        rw [andQ_eq, resZ_eq] at he
        simp only [Bool.and_eq_true] at he
        obtain ⟨h1, h2⟩ := he
        refine (xC_sound (P := P) (n := n) hc c _ _ _ _ hx).1 _ fun x hm => ?_
        rcases List.mem_singleton.1 hm with rfl
        cases hres : resX x.env x.h cr with
        | none => rw [hres] at h2; cases h2
        | some vs =>
          rw [hres] at h2
          have h2 : eqVF (oneQ vs) v = true := h2
          rw [oneQ_eq] at h2
          cases hxe : x.e with
          | exit i => rw [hxe] at h1; cases h1
          | normal => exact resX_sound _ _ _ hres (eqVF_sound _ _ h2)
          | ret => exact resX_sound _ _ _ hres (eqVF_sound _ _ h2)
/-- A function without parameters that yields a truth. -/
theorem calls_truth {P : Program} {g : Nat} {b : Bool} (h1 : ACalls P g [] [] fun v1 _ => v1 = .d (.bool b)) (w : World) :
    Calls P g #[] w fun e w' => e = .returned (.bool b) ∧ w'.os = w.os ∧ w'.tape = w.tape ∧ w'.output = w.output ∧ w.heap.size ≤ w'.heap.size ∧ ∀ b, b < w.heap.size → w'.heap[b]? = w.heap[b]? := by
  let M : Mem := { ro := fun _ _ => none, mu := fun _ => none, df := fun _ => False, cc := ccP P }
  have hs : Sim M [] w := ⟨fun i blk h => (by simp at h), fun i j bi bj ri rj b h => (by simp at h), fun b o v h => (by cases h), fun _ _ => rfl, fun _ h => h.elim⟩
  refine (h1.2 M w [] rfl hs ⟨rfl, fun k v c h => by simp at h⟩).mono ?_
  rintro e w' ⟨cv, v, h2, M', rfl, hp, hv, rfl⟩
  exact ⟨by rw [hv.boolI], hp.os, hp.tape, hp.output, hp.size, fun b hb => hp.keep b hb (fun ⟨i, blk, r, hi, _⟩ => by simp at hi)⟩
end
end Go.Proofs.Ytdnefcjbcieecaa
