/- A part of the proof. -/
import Derived.Test.YtdnefcjbcieecaaPart5
set_option linter.unusedVariables false
set_option linter.unusedSimpArgs false
namespace Go.Proofs.Ytdnefcjbcieecaa
open Go
section
variable {P : Program} {G : Cfg} {n : Nat} {Q : CExit → Env → Heap → Prop} {R : V → Heap → Prop}
theorem tagAt_cons (p : Nat × Option Bool) (tg : Tags) (t : Nat) : tagAt (p :: tg) t = if t = p.1 then p.2 else tagAt tg t := by
 have : tagAt (p :: tg) t = Bool.rec (motive := fun _ => Option Bool) (tagAt tg t) p.2 (Nat.beq t p.1) := rfl
 rw [this, beq_eq]
 by_cases h : t = p.1
 ·simp [h]
 ·simp [h]
theorem TagOk.cons {env : Env} {tg : Tags} (h : TagOk env tg) {t : Nat} {b : Option Bool} (hb : ∀ x, b = some x → env.get t = .d (.bool x)) : TagOk env ((t, b) :: tg) := by
 intro k x hk
 rw [tagAt_cons] at hk
 split at hk
 ·rename_i e; rw [e]; exact hb x hk
 ·exact h k x hk
theorem TagOk.put {env : Env} {tg : Tags} (h : TagOk env tg) {d : Option Nat} {b : Option Bool} {v : V} (hb : ∀ x, b = some x → v = .d (.bool x)) : TagOk (putZ env d v) (tagPut tg d b) := by
 rw [putZ_eq]
 cases d with
 | none => exact h
 | some d =>
  intro k x hk
  have hk : tagAt ((d, b) :: tg) k = some x := hk
  rw [tagAt_cons] at hk
  split at hk
  ·rename_i e; rw [e, Env.get_put_same]; exact hb x hk
  ·rename_i e; rw [Env.get_put_other _ _ e]; exact h k x hk
theorem TagOk.put0 {env : Env} {tg : Tags} (h : TagOk env tg) {d : Option Nat} {v : V} : TagOk (putZ env d v) (tagPut tg d none) := h.put fun x hx => by cases hx
theorem TagOk.nil (env : Env) : TagOk env [] := fun t b h => by cases h
theorem TagOk.keep {env : Env} {tg : Tags} (h : TagOk env tg) (live : Option (List Nat)) : TagOk (keepZ env live) (tagKeep tg live) := by
 rw [keepZ_eq]
 cases live with
 | none => exact h
 | some l =>
  show TagOk (l.map fun k => (k, env.get k)) (mapZ (fun t => (t, tagAt tg t)) l)
  rw [mapZ_eq]
  induction l with
  | nil => exact .nil _
  | cons a l ih =>
   intro k x hk
   simp only [List.map_cons] at hk ⊢
   rw [tagAt_cons] at hk
   split at hk
   ·rename_i e
    have e : k = a := e
    subst e
    simp only [Env.get, if_true]
    exact h k x hk
   ·rename_i e
    have e : ¬ k = a := e
    simp only [Env.get, e, if_false]
    exact ih k x hk
theorem tagO_ok {env : Env} {tg : Tags} (h : TagOk env tg) {o : Operand} {b : Bool} (hb : tagO tg o = some b) : opnd env o = .d (.bool b) := by
 cases o with
 | tmp t => exact h t b hb
 | const v =>
  cases v <;> first | (cases hb; done) | skip
  cases hb; rfl
 | _ => cases hb
theorem pCase_sound {env : Env} {tg : Tags} (h : TagOk env tg) {o : Operand} {yes no : Tags → Tr} {A B : Prop} (hh : holds P G n Q R (pCase tg o (opnd env o) yes no))
  (hy : ∀ tg, TagOk env tg → holds P G n Q R (yes tg) → A) (hn : ∀ tg, TagOk env tg → holds P G n Q R (no tg) → B) : brV (opnd env o) A B := by
 unfold pCase at hh
 split at hh
 ·rename_i e
  rw [tagO_ok h e]
  exact ⟨fun _ => hy _ h hh, fun e => by cases e⟩
 ·rename_i e
  rw [tagO_ok h e]
  exact ⟨fun e => by (cases e), fun _ => hn _ h hh⟩
 ·split at hh
  ·rename_i b hv
   split at hh
   ·rename_i t e
    rw [hv]
    have hv : env.get t = .d (.bool b) := hv
    exact ⟨fun e => hy _ (h.cons fun x hx => by cases hx; rw [hv, e]) (hh.1 e), fun e => hn _ (h.cons fun x hx => by cases hx; rw [hv, e]) (hh.2 e)⟩
   ·rw [hv]
    exact ⟨fun e => hy _ h (hh.1 e), fun e => hn _ h (hh.2 e)⟩
  ·exact hh.elim
def opE (c : COp) (env : Env) (h : Heap) (K : V → Heap → Prop) : Prop := ∃ p v h', evOp c (opnd env) h = some (p, v, h') ∧ p.P ∧ K v h'
theorem pV_sound {c : COp} {env : Env} {h : Heap} {k : V → Heap → Tr} (hh : holds P G n Q R (pV (evOp c (opnd env) h) k)) : opE c env h fun v h' => holds P G n Q R (k v h') := by
 unfold pV at hh
 split at hh
 ·rename_i p v h' e
  exact ⟨p, v, h', e, hh.1, hh.2⟩
 ·exact hh.elim
theorem kn_inj {a b : IntKind} (h : Nat.beq (kn a) (kn b) = true) : a = b := by
 rw [kn_eq] at h; exact of_decide_eq_true h
theorem pBin_sound {op : BinOp} {x y : Operand} {env : Env} {h : Heap} {k : V → Heap → Tr} (hh : holds P G n Q R (pBin op (opnd env x) (opnd env y) h k)) : opE (.bin op x y) env h fun v h' => holds P G n Q R (k v h') := by
 unfold pBin at hh
 split at hh
 ·rename_i ka a kb b hx hy
  have gen : holds P G n Q R (pV (inH h (evBin op (.d (.int ka a)) (.d (.int kb b)))) k) → opE (.bin op x y) env h fun v h' => holds P G n Q R (k v h') := fun hh => by
   rw [← hx, ← hy] at hh
   exact pV_sound (c := .bin op x y) hh
  cases hk : Nat.beq (kn ka) (kn kb) with
  | false => rw [hk] at hh; exact gen hh
  | true =>
   rw [hk] at hh
   have := kn_inj hk
   subst this
   simp only [cond_true] at hh
   have fin : ∀ (p : DP) (v : V), evBin op (.d (.int ka a)) (.d (.int ka b)) = some (p, v) → p.P → holds P G n Q R (k v h) → opE (.bin op x y) env h fun v h' => holds P G n Q R (k v h') := fun p v he hp hk => by
    refine ⟨p, v, h, ?_, hp, hk⟩
    show inH h (evBin op (opnd env x) (opnd env y)) = _
    rw [hx, hy, he]
    rfl
   cases op with
   | add => cases ka <;> first | exact fin _ _ rfl ⟨rfl, hh.1⟩ hh.2 | exact fin _ _ rfl rfl hh
   | sub => cases ka <;> first | exact fin _ _ rfl ⟨rfl, hh.1⟩ hh.2 | exact fin _ _ rfl rfl hh
   | mul => cases ka <;> first | exact fin _ _ rfl ⟨rfl, hh.1⟩ hh.2 | exact fin _ _ rfl rfl hh
   | quo => cases ka <;> first | exact fin _ _ rfl ⟨hh.1, rfl, hh.2.1⟩ hh.2.2 | exact fin _ _ rfl ⟨hh.1, rfl⟩ hh.2
   | rem => exact fin _ _ rfl ⟨rfl, hh.1⟩ hh.2
   | eql => exact fin _ _ rfl rfl hh
   | neq => exact fin _ _ rfl rfl hh
   | lss => exact fin _ _ rfl rfl hh
   | leq => exact fin _ _ rfl rfl hh
   | gtr => exact fin _ _ rfl rfl hh
   | geq => exact fin _ _ rfl rfl hh
   | _ => exact gen hh
 ·exact hh.elim
theorem ble_le {a b : Nat} (h : Nat.ble a b = true) : a ≤ b := by rw [ble_eq] at h; exact of_decide_eq_true h
theorem beq_e {a b : Nat} (h : Nat.beq a b = true) : a = b := Nat.eq_of_beq_eq_true h
theorem hbif {b : Bool} {t : Tr} (hh : holds P G n Q R (bif b then t else .fail)) : b = true ∧ holds P G n Q R t := by
 cases b with
 | true => exact ⟨rfl, hh⟩
 | false => exact hh.elim
theorem pLoad_sound {m : Nat} {g : Option Nat} {v : V} {h : Heap} {k : V → Tr} (hh : holds P G n Q R (pLoad m g v h k)) : ∃ p u, evLoad g v h = some (p, u) ∧ p.P ∧ holds P G n Q R (k u) := by
 unfold pLoad at hh
 split at hh
 ·rename_i id ge off
  rw [nthZ_eq] at hh
  split at hh
  ·rename_i cs hc
   obtain ⟨h0, hh⟩ := hbif hh
   have h0 := beq_e h0
   subst h0
   cases hm : Nat.beq m 1 with
   | true =>
    rw [hm] at hh
    refine ⟨dp True, _, ?_, trivial, hh.2⟩
    simp only [evLoad, Heap.cell, hc, if_true, hh.1, Option.map_some]
   | false =>
    rw [hm] at hh
    simp only [cond_false] at hh
    rw [nthZ_eq] at hh
    split at hh
    ·rename_i u hu
     rw [forceV_eq] at hh
     exact ⟨dp True, u, by simp only [evLoad, Heap.cell, hc, if_true, hu, Option.map_some], trivial, hh⟩
    ·exact hh.elim
  ·rename_i e sz g' ds hc
   obtain ⟨⟨rfl, h1⟩, h2⟩ := hh
   exact ⟨dp True, _, by simp only [evLoad, Heap.cell, hc, if_true, h1, Option.map_some], trivial, h2⟩
  ·exact hh.elim
 ·rename_i ds off
  rw [nthZ_eq] at hh
  split at hh
  ·rename_i d hd
   exact ⟨dp True, _, by simp only [evLoad, hd, Option.map_some], trivial, hh⟩
  ·exact hh.elim
 ·rename_i nn id ge off
  rw [nthZ_eq] at hh
  split at hh
  ·rename_i cs hc
   obtain ⟨h0, hh⟩ := hbif hh
   obtain ⟨h1, h2⟩ := hbif hh
   have h0 := beq_e h0
   subst h0
   have h1 := ble_le h1
   rw [lenZ_eq] at h1
   rw [takeZ_eq, dropZ_eq] at h2
   exact ⟨dp True, _, by simp only [evLoad, Heap.cells, hc]; rw [if_pos ⟨trivial, h1⟩]; rfl, trivial, h2⟩
  ·exact hh.elim
 ·rename_i nn ds off
  obtain ⟨h1, hh⟩ := hbif hh
  have h1 := ble_le h1
  rw [lenZ_eq] at h1
  rw [takeZ_eq, dropZ_eq, mapZ_eq] at hh
  exact ⟨_, _, rfl, h1, hh⟩
 ·exact hh.elim
theorem pStore_sound {sym : Bool} {m : Nat} {x v : Operand} {env : Env} {h : Heap} {k : V → Heap → Tr} (hh : holds P G n Q R (pStore sym m (opnd env x) (opnd env v) h k)) : opE (.store m x v) env h fun v h' => holds P G n Q R (k v h') := by
 unfold pStore at hh
 split at hh
 ·rename_i id ge off vs hx hv
  rw [nthZ_eq] at hh
  split at hh
  ·rename_i cs hc
   obtain ⟨h0, hg⟩ := hbif hh
   clear hh
   have h0 := beq_e h0
   subst h0
   simp only [setZ_eq, putAtZ_eq] at hg
   have hh : (off + vs.length ≤ cs.length ∧ vs.length = m) ∧ holds P G n Q R (k .any (h.set id (some (.box (putAt cs off vs))))) := by
    cases sym with
    | true => exact hg
    | false =>
     obtain ⟨h1, h2⟩ := hbif hg
     obtain ⟨h2, h3⟩ := hbif h2
     have h1 := ble_le h1
     have h2 := beq_e h2
     rw [lenZ_eq] at h1 h2
     rw [lenZ_eq] at h1
     exact ⟨⟨h1, h2⟩, h3⟩
   refine ⟨dp (vs.length = m), _, _, ?_, hh.1.2, hh.2⟩
   simp only [evOp, hx, hv, Heap.put, hc]
   rw [if_pos ⟨trivial, hh.1.1⟩]
   rfl
  ·rename_i e sz g' ds hc
   split at hh
   ·rename_i xs hxs
    obtain ⟨⟨rfl, h1, h2⟩, h3⟩ := hh
    rw [setZ_eq] at h3
    refine ⟨dp (vs.length = m), _, _, ?_, h2, h3⟩
    simp only [evOp, hx, hv, Heap.put, hc, hxs]
    rw [if_pos ⟨trivial, h1⟩]
    rfl
   ·exact hh.elim
  ·exact hh.elim
 ·exact hh.elim
theorem pIdx_sound {ks : List Nat} {sz : Nat} {x i : V} {h : Heap} {k : V → Tr} (hh : holds P G n Q R (pIdx ks sz x i h k)) : ∃ p u, evIdx sz x i h = some (p, u) ∧ p.P ∧ holds P G n Q R (k u) := by
 unfold pIdx at hh
 split at hh
 ·rename_i ki i ex len cs
  obtain ⟨⟨h1, h2, h3⟩, h4⟩ := hh
  unfold okEl at h3
  exact ⟨dp (0 ≤ i ∧ i < len), _, by simp only [evIdx, h3, Option.map_some], ⟨h1, h2⟩, h4⟩
 ·rename_i ki i id ge len
  rw [nthZ_eq] at hh
  split at hh
  ·rename_i e sz' g' ds hc
   obtain ⟨⟨h1, rfl, h3⟩, h4⟩ := hh
   refine ⟨_, _, rfl, ⟨h1, ?_⟩, h4⟩
   simp only [Heap.cells, hc]
   rw [if_pos ⟨trivial, h3⟩]
   rfl
  ·exact hh.elim
 ·exact hh.elim
theorem pIdxA_sound {len sz : Nat} {x i : V} {k : V → Tr} (hh : holds P G n Q R (pIdxA len sz x i k)) : ∃ p u, evIdxA len sz x i = some (p, u) ∧ p.P ∧ holds P G n Q R (k u) := by
 unfold pIdxA at hh
 split at hh
 ·exact ⟨_, _, rfl, hh.1, hh.2⟩
 ·exact ⟨_, _, rfl, hh.1, hh.2⟩
 ·exact hh.elim
theorem opE_inH {c : COp} {env : Env} {h : Heap} {o : Option (DP × V)} {K : V → Heap → Prop} (hc : evOp c (opnd env) h = inH h o) (hx : ∃ p u, o = some (p, u) ∧ p.P ∧ K u h) : opE c env h K := by
 obtain ⟨p, u, h1, h2, h3⟩ := hx
 exact ⟨p, u, h, by rw [hc, h1]; rfl, h2, h3⟩
theorem sOp_sound {X : Sx} {m : Nat} {c : COp} (hc : ∀ a b e, c ≠ .pick a b e) {env : Env} {h : Heap} {k : V → Heap → Tr} (hh : holds P G n Q R (sOp X m c env h k)) : opE c env h fun v h' => holds P G n Q R (k v h') := by
 unfold sOp at hh
 simp only [opndZ_eq] at hh
 split at hh
 · -- move
  rename_i x
  rw [forceV_eq] at hh
  exact ⟨dp True, _, _, rfl, trivial, hh⟩
 ·rw [lenZ_eq, appZ_eq] at hh
  exact ⟨dp True, _, _, rfl, trivial, hh⟩
 ·rename_i x
  split at hh
  ·rename_i cs hcs
   rw [lenZ_eq, appZ_eq] at hh
   exact ⟨dp True, _, _, by simp only [evOp, hcs, Option.map_some], trivial, hh⟩
  ·exact hh.elim
 ·rename_i x
  split at hh
  ·rename_i cs hcs
   split at hh
   ·rename_i ds hds
    exact ⟨dp True, _, _, by simp only [evOp, hcs, Option.bind_some, hds], trivial, hh⟩
   ·rename_i hds
    rw [lenZ_eq, appZ_eq] at hh
    exact ⟨dp True, _, _, by simp only [evOp, hcs, Option.bind_some, hds, Option.map_some], trivial, hh⟩
  ·exact hh.elim
 ·exact opE_inH rfl (pLoad_sound hh)
 ·exact pStore_sound hh
 ·rename_i z ps
  split at hh
  ·rename_i qs hq
   obtain ⟨h1, hh⟩ := hbif hh
   exact ⟨dp (fitL z.length qs = true), _, _, by simp only [evOp, hq, Option.map_some], h1, hh⟩
  ·exact hh.elim
 ·rename_i own e sz len z ps
  split at hh
  ·rename_i qs hq
   obtain ⟨h1, hh⟩ := hbif hh
   cases own with
   | true =>
    rw [lenZ_eq, appZ_eq] at hh
    exact ⟨dp (fitL z.length qs = true), _, _, by simp only [evOp, hq, Option.map_some], h1, hh⟩
   | false => exact ⟨dp (fitL z.length qs = true), _, _, by simp only [evOp, hq, Option.map_some], h1, hh⟩
  ·exact hh.elim
 ·exact pBin_sound hh
 ·rename_i x
  split at hh
  ·rename_i b hb
   exact opE_inH (o := some (dp True, .d (.bool (!b)))) (by simp only [evOp, hb, evUn]) ⟨_, _, rfl, trivial, hh⟩
  ·exact hh.elim
 ·rename_i kd x
  split at hh
  ·rename_i kk nn hb
   exact opE_inH (o := some (dp True, .d (.int kd (kd.wrap nn)))) (by simp only [evOp, hb, evConv]) ⟨_, _, rfl, trivial, hh⟩
  ·exact hh.elim
 ·rename_i off x
  split at hh
  ·rename_i id g o hb
   exact opE_inH (o := some (dp True, .ptr id g (o + off))) (by simp only [evOp, hb, evFA]) ⟨_, _, rfl, trivial, hh⟩
  ·rename_i ds o hb
   exact opE_inH (o := some (dp True, .rptr ds (o + off))) (by simp only [evOp, hb, evFA]) ⟨_, _, rfl, trivial, hh⟩
  ·exact hh.elim
 ·rename_i x
  split at hh
  ·rename_i id g o hb
   exact opE_inH (o := some (dp True, .ptr id g (o + 0))) (by simp only [evOp, hb, evFA]) ⟨_, _, rfl, trivial, hh⟩
  ·rename_i ds o hb
   exact opE_inH (o := some (dp True, .rptr ds (o + 0))) (by simp only [evOp, hb, evFA]) ⟨_, _, rfl, trivial, hh⟩
  ·exact hh.elim
 ·rename_i off x
  split at hh
  ·rename_i cs hb
   rw [nthZ_eq] at hh
   split at hh
   ·rename_i v hv
    rw [forceV_eq] at hh
    exact opE_inH (o := some (dp True, v)) (by simp only [evOp, hb, evField, hv, Option.map_some]) ⟨_, _, rfl, trivial, hh⟩
   ·exact hh.elim
  ·exact hh.elim
 ·rename_i nn off x
  split at hh
  ·rename_i cs hb
   obtain ⟨h1, hh⟩ := hbif hh
   have h1 := ble_le h1
   rw [lenZ_eq] at h1
   rw [takeZ_eq, dropZ_eq] at hh
   exact opE_inH (o := some (dp (off + nn ≤ cs.length), .agg ((cs.drop off).take nn))) (by simp only [evOp, hb, evField]) ⟨_, _, rfl, h1, hh⟩
  ·exact hh.elim
 ·cases hb : Nat.beq m 5 <;> (rw [hb] at hh; exact opE_inH rfl (pIdx_sound hh))
 ·exact opE_inH rfl (pIdxA_sound hh)
 ·rename_i x i
  split at hh
  ·rename_i vs hb
   rw [nthZ_eq] at hh
   split at hh
   ·rename_i v hv
    rw [forceV_eq] at hh
    exact opE_inH (o := some (dp True, v)) (by simp only [evOp, hb, evExt, hv, Option.map_some]) ⟨_, _, rfl, trivial, hh⟩
   ·exact hh.elim
  ·exact hh.elim
 ·rename_i f a c
  rw [mapZ_eq, mapZ_eq] at hh
  exact ⟨dp True, _, _, rfl, trivial, hh⟩
 ·rename_i x
  split at hh
  ·rename_i ex len cs hb
   exact opE_inH (o := some (dp True, .d (.int .i64 len))) (by simp only [evOp, hb, evLen]) ⟨_, _, rfl, trivial, hh⟩
  ·rename_i a b len hb
   exact opE_inH (o := some (dp True, .d (.int .i64 len))) (by simp only [evOp, hb, evLen]) ⟨_, _, rfl, trivial, hh⟩
  ·rename_i hb
   exact opE_inH (o := some (dp True, .d (.int .i64 0))) (by simp only [evOp, hb, evLen]) ⟨_, _, rfl, trivial, hh⟩
  ·exact hh.elim
 ·rename_i x y
  unfold pMax2 at hh
  split at hh
  ·rename_i a b ha hb
   exact ⟨dp True, _, _, by simp only [evOp, List.map_cons, List.map_nil, ha, hb, intsV, Option.map_some, Option.bind_some, minL, List.foldl_cons, List.foldl_nil]; rfl, trivial, hh⟩
  ·exact hh.elim
 ·rename_i x y
  unfold pMax2 at hh
  split at hh
  ·rename_i a b ha hb
   exact ⟨dp True, _, _, by simp only [evOp, List.map_cons, List.map_nil, ha, hb, intsV, Option.map_some, Option.bind_some, maxL, List.foldl_cons, List.foldl_nil]; rfl, trivial, hh⟩
  ·exact hh.elim
 ·rename_i len sz x lo hi
  unfold pSliceA at hh
  split at hh
  ·rename_i ds off k1 l k2 t hx hl ht
   refine ⟨dp True, _, _, ?_, trivial, hh.2⟩
   simp only [evOp, evSlA, hx, hl, ht]
   rw [if_pos hh.1]
   rfl
  ·exact hh.elim
 ·rename_i agg sh z ok x y
  cases hm : Nat.beq m 3 with
  | true =>
   rw [hm] at hh
   refine ⟨dp True, _, _, ?_, trivial, hh.2⟩
   have := hh.1
   show (evLk agg sh z ok (opnd env x) (opnd env y) h).map _ = _
   generalize evLk agg sh z ok (opnd env x) (opnd env y) h = o at this ⊢
   cases o with
   | none => cases this
   | some v => simp only [Option.some.injEq] at this; rw [Option.map_some, ← this]
  | false =>
   rw [hm] at hh
   exact pV_sound (c := .lookup agg sh z ok x y) hh
 ·rename_i agg sh x y v
  split at hh
  ·rename_i id hb
   rw [setZ_eq] at hh
   refine ⟨dp True, _, _, ?_, trivial, hh.2⟩
   have h1 := hh.1
   simp only [evOp, hb]
   generalize evUp agg sh (.mp id) (opnd env y) (opnd env v) h = o at h1 ⊢
   generalize mapIn o id = q at h1 ⊢
   subst h1
   rfl
  ·exact hh.elim
 ·exact pV_sound hh
theorem tagOp_ok {env : Env} {tg : Tags} (h : TagOk env tg) {c : COp} {hp h' : Heap} {p : DP} {v : V} (he : evOp c (opnd env) hp = some (p, v, h')) {b : Bool} (hb : tagOp tg c = some b) : v = .d (.bool b) := by
 unfold tagOp at hb
 split at hb
 ·rename_i x
  cases he
  exact tagO_ok h hb
 ·rename_i x
  split at hb
  ·rename_i b0 hb0
   cases hb
   have := tagO_ok h hb0
   simp only [evOp, this, evUn, inH] at he
   cases he
   rfl
  ·cases hb
 ·cases hb
def opB (P : Program) (r : ROp) (env : Env) (h : Heap) (K : Env → Heap → Prop) : Prop := match r.op with
 | .simple (.pick c a b) => brV (opnd env c) (K (env.put r.dst (opnd env a)) h) (K (env.put r.dst (opnd env b)) h)
 | .simple c => match evOp c (opnd env) h with
  | some (p, v, h') => p.P ∧ K (env.put r.dst v) h'
  | none => False
 | .call f args => callV P (opnd env f) (args.map (opnd env)) h fun v h' => K (env.put r.dst v) h'
 | .callx f args => callV P (opnd env f) (args.map (opnd env)) h fun v h' => HLe h h' ∧ K (env.put r.dst v) h'
 | .app e sz bytes x y => match opnd env x with
  | .own id g len => match rowOf h id g, conts h (opnd env y) with
   | some q, some p => (q.1 = e ∧ q.2.1 = sz ∧ q.2.2.length = len * sz ∧ p.2.length = p.1 * sz ∧ len + p.1 ≤ 140737488355328 ∧ (len + p.1) * bytes ≤ 140737488355328) ∧
     K (env.put r.dst (.own id (g + 1) (len + p.1))) (h.set id (some (.row e sz (g + 1) (q.2.2 ++ p.2))))
   | _, _ => False
  | .d x => match evApp true e sz bytes (.d x) (opnd env y) h with
   | some (p, v, h') => p.P ∧ K (env.put r.dst v) h'
   | none => False
  | _ => False
theorem runOps2_line (r : ROp) (rs : List ROp) (env : Env) (h : Heap) (K : Env → Heap → Prop) :
  runOps2 P n (r :: rs) env h K = guardV env r.guard (opB P r env h fun env h => runOps2 P n rs env h K) (runOps2 P n rs (env.put r.dst (.tup [])) h K) := by
 rw [runOps2]
 unfold opB
 cases r.op with
 | simple c => cases c <;> rfl
 | call f args => rfl
 | callx f args => rfl
 | app e sz bytes x y => rfl
theorem opB_simple {r : ROp} {c : COp} (hr : r.op = .simple c) (hc : ∀ a b e, c ≠ .pick a b e) {env : Env} {h : Heap} {K : Env → Heap → Prop} (hh : opE c env h fun v h' => K (env.put r.dst v) h') : opB P r env h K := by
 obtain ⟨p, v, h', h1, h2, h3⟩ := hh
 unfold opB
 rw [hr]
 cases c with
 | pick a b e => exact (hc a b e rfl).elim
 | _ => simp only [h1]; exact ⟨h2, h3⟩
theorem callV_holds {f : V} {args : List V} {h : Heap} {K K' : V → Heap → Prop} (hk : ∀ v h', K v h' → K' v h') (hc : callV P f args h K) : callV P f args h K' := callV_mono hc hk
theorem canonD_le (x : D) : VLe (.d x) (.d (canonD x)) := by cases x <;> first | exact .refl _ | exact VLe.nilsF | exact VLe.slx
theorem canon0_le (x : V) : VLe x (canon0 x) := by cases x <;> first | exact canonD_le _ | exact .refl _
theorem VLes.map {f : V → V} (hf : ∀ x, VLe x (f x)) : ∀ l : List V, VLes l (l.map f)
 | [] => .nil
 | x :: l => .cons (hf x) (VLes.map hf l)
theorem canon_le (x : V) : VLe x (canon x) := by
 cases x with
 | d x => exact canonD_le x
 | agg cs => show VLe (.agg cs) (.agg (mapZ canon0 cs)); rw [mapZ_eq]; exact .agg (VLes.map canon0_le cs)
 | _ => exact .refl _
theorem pTab_raw {x : Bool} {h : Heap} {g : FuncId} {args : List V} {X : Sx} (hX : SpOk P X.sp) {k : V → Heap → Tr} (hh : holds P G n Q R (pTab x h (X.sp g args h) k)) :
  ACalls P g args h fun v h' => (x = true → HLe h h') ∧ holds P G n Q R (k v h') := by
 unfold pTab at hh
 split at hh
 ·rename_i p v e
  refine (hX g args h p v none e hh.1).mono ?_
  rintro v1 h1 ⟨rfl, rfl⟩
  refine ⟨fun _ => HLe.refl _, ?_⟩
  have := hh.2
  rwa [forceV_eq] at this
 ·rename_i p v h' e
  refine (hX g args h p v h' e hh.1).mono ?_
  rintro v1 h1 ⟨rfl, rfl⟩
  cases x with
  | true => have := hh.2; simp only [cond_true] at this; exact ⟨fun _ => this.1, by have := this.2; rwa [forceV_eq] at this⟩
  | false => have := hh.2; simp only [cond_false] at this; exact ⟨fun e => (by cases e), by rwa [forceV_eq] at this⟩
 ·exact hh.elim
theorem pTab_sound {x : Bool} {h : Heap} {g : FuncId} {args : List V} {X : Sx} (hX : SpOk P X.sp) {k : V → Heap → Tr} (hh : holds P G n Q R (pTab x h (X.sp g (mapZ canon args) h) k)) :
  ACalls P g args h fun v h' => (x = true → HLe h h') ∧ holds P G n Q R (k v h') := by
 rw [mapZ_eq] at hh
 exact ACalls.args (VLes.map canon_le args) (pTab_raw hX hh)
theorem pCall_sound {X : Sx} (hX : SpOk P X.sp) {m : Nat} {x : Bool} {f : V} {args : List V} {h : Heap} {k : V → Heap → Tr} (hh : holds P G n Q R (pCall X m x f args h k)) :
  callV P f args h fun v h' => (x = true → HLe h h') ∧ holds P G n Q R (k v h') := by
 unfold pCall at hh
 split at hh
 ·refine callV_holds ?_ hh
  rintro v h' ⟨b, rfl, h1, h2⟩
  exact ⟨h1, h2⟩
 ·refine callV_holds ?_ hh
  rintro v h' ⟨b, rfl, h1, h2⟩
  exact ⟨h1, h2⟩
 ·split at hh
  ·split at hh
   ·rw [mapZ_eq] at hh
    refine ACalls.args (VLes.map canon_le args) (ACalls.mono hh ?_)
    rintro v h' (⟨rfl, rfl, h1, h2⟩ | ⟨rfl, rfl, h1, h2⟩)
    ·rw [forceV_eq] at h2; exact ⟨h1, h2⟩
    ·rw [forceV_eq] at h2; exact ⟨h1, h2⟩
   ·exact hh.elim
  ·exact hh.elim
 ·split at hh
  ·exact pTab_raw hX hh
  ·exact hh.elim
 ·split at hh
  ·exact pTab_sound hX hh
  ·rename_i g first caps
   rw [appZ_eq, appZ_eq, ← List.append_assoc] at hh
   exact pTab_sound hX hh
  ·exact hh.elim
theorem sR_sound {X : Sx} (hX : SpOk P X.sp) {r : ROp} {env : Env} {tg : Tags} {h : Heap} {K : Env → Tags → Heap → Tr} {K' : Env → Heap → Prop} (ht : TagOk env tg)
  (hK : ∀ env tg h, TagOk env tg → holds P G n Q R (K env tg h) → K' env h) (hh : holds P G n Q R (sR X r env tg h K)) : opB P r env h K' := by
 unfold sR at hh
 split at hh
 ·rename_i c a b hr
  unfold opB
  rw [hr]
  simp only [opndZ_eq] at hh
  have := pCase_sound (A := K' (env.put r.dst (opnd env a)) h) (B := K' (env.put r.dst (opnd env b)) h) ht hh (fun tg ht hh => ?_) (fun tg ht hh => ?_)
  ·exact this
  ·rw [forceV_eq] at hh
   have := hK _ _ _ (ht.put fun x hx => tagO_ok ht hx) hh
   rwa [putZ_eq] at this
  ·rw [forceV_eq] at hh
   have := hK _ _ _ (ht.put fun x hx => tagO_ok ht hx) hh
   rwa [putZ_eq] at this
 ·rename_i c hnp hr
  have hc : ∀ a b e, c ≠ .pick a b e := fun a b e he => hnp a b e he
  refine opB_simple hr hc ?_
  obtain ⟨p, v, h', h1, h2, h3⟩ := sOp_sound hc hh
  refine ⟨p, v, h', h1, h2, ?_⟩
  have := hK _ _ _ (ht.put fun x hx => tagOp_ok ht h1 hx) h3
  rwa [putZ_eq] at this
 ·rename_i f args hr
  unfold opB
  rw [hr]
  simp only [opndZ_eq] at hh
  have := pCall_sound hX hh
  rw [mapZ_eq] at this
  refine callV_holds ?_ this
  rintro v h' ⟨_, h2⟩
  have := hK _ _ _ ht.put0 h2
  rwa [putZ_eq] at this
 ·rename_i f args hr
  unfold opB
  rw [hr]
  simp only [opndZ_eq] at hh
  have := pCall_sound hX hh
  rw [mapZ_eq] at this
  refine callV_holds ?_ this
  rintro v h' ⟨h1, h2⟩
  have := hK _ _ _ ht.put0 h2
  rw [putZ_eq] at this
  exact ⟨h1 rfl, this⟩
 ·rename_i e sz bytes x y hr
  unfold opB
  rw [hr]
  simp only [opndZ_eq] at hh
  unfold pApp at hh
  simp only [opndZ_eq] at hh
  split at hh
  ·rename_i id ge len hx
   rw [nthZ_eq] at hh
   split at hh
   ·rename_i e' sz' g' ds p hrow hcon
    obtain ⟨⟨rfl, rfl, rfl, h1⟩, h2⟩ := hh
    simp only [hx, rowOf, hrow, if_true, hcon]
    refine ⟨⟨trivial, trivial, h1⟩, ?_⟩
    rw [setZ_eq] at h2
    have := hK _ _ _ ht.put0 h2
    rwa [putZ_eq] at this
   ·exact hh.elim
  ·rename_i d hx
   unfold pV at hh
   simp only [hx]
   split at hh
   ·rename_i p v h' he
    simp only [he]
    have := hK _ _ _ ht.put0 hh.2
    rw [putZ_eq] at this
    exact ⟨hh.1, this⟩
   ·exact hh.elim
  ·exact hh.elim
theorem guardV_of {env : Env} {t : Nat} {w : Bool} {yes no : Prop} (h : brV (env.get t) (if w then yes else no) (if w then no else yes)) : guardV env (some (t, w)) yes no := by
 rw [guardV_some]
 unfold guardB
 split
 ·rename_i e; rw [e] at h; exact h.elim
 ·cases w with
  | true => exact h
  | false =>
   unfold brV at h ⊢
   split at h
   ·exact h
   ·exact h.elim
theorem sOps_sound {X : Sx} (hX : SpOk P X.sp) {K : Env → Tags → Heap → Tr} {K' : Env → Heap → Prop} (hK : ∀ env tg h, TagOk env tg → holds P G n Q R (K env tg h) → K' env h) :
  ∀ (rs : List ROp) (env : Env) (tg : Tags) (h : Heap), TagOk env tg → holds P G n Q R (sOps X rs env tg h K) → runOps2 P n rs env h K'
 | [], env, tg, h, ht, hh => hK env tg h ht hh
 | r :: rs, env, tg, h, ht, hh => by
  rw [runOps2_line]
  have ih := sOps_sound hX hK rs
  have step : ∀ env tg h, TagOk env tg → holds P G n Q R (sR X r env tg h fun env tg h => sOps X rs env tg h K) → opB P r env h fun env h => runOps2 P n rs env h K' :=
   fun env tg h ht hh => sR_sound hX ht (fun env tg h ht hh => ih env tg h ht hh) hh
  have skip : ∀ tg, TagOk env tg → holds P G n Q R (sOps X rs (putZ env r.dst (.tup [])) (tagPut tg r.dst none) h K) → runOps2 P n rs (env.put r.dst (.tup [])) h K' := fun tg ht hh => by
   have := ih _ _ _ ht.put0 hh
   rwa [putZ_eq] at this
  have hh : holds P G n Q R (match r.guard with
   | none => sR X r env tg h fun env tg h => sOps X rs env tg h K
   | some (t, w) => match tagAt tg t, getZ env t with
    | none, .tup [] => sOps X rs (putZ env r.dst (.tup [])) (tagPut tg r.dst none) h K
    | _, v => pCase tg (.tmp t) v
     (fun tg => bif w then sR X r env tg h fun env tg h => sOps X rs env tg h K else sOps X rs (putZ env r.dst (.tup [])) (tagPut tg r.dst none) h K)
     (fun tg => bif w then sOps X rs (putZ env r.dst (.tup [])) (tagPut tg r.dst none) h K else sR X r env tg h fun env tg h => sOps X rs env tg h K)) := hh
  split at hh
  ·rename_i hg
   rw [hg, guardV_none]
   exact step env tg h ht hh
  ·rename_i t w hg
   rw [hg]
   rw [getZ_eq] at hh
   split at hh
   ·rename_i e1 e2
    rw [guardV_some, e2, guardB_tup]
    exact skip tg ht hh
   ·refine guardV_of ?_
    refine pCase_sound (o := .tmp t) ht hh (fun tg ht hh => ?_) (fun tg ht hh => ?_)
    ·cases w with
     | true => exact step env tg h ht hh
     | false => exact skip tg ht hh
    ·cases w with
     | true => exact skip tg ht hh
     | false => exact step env tg h ht hh
def ContOk (P : Program) (G : Cfg) (n : Nat) (Q : CExit → Env → Heap → Prop) (R : V → Heap → Prop) (s : List Fr) (k : CT) : Prop :=
 ∀ e env tg h, TagOk env tg → holds P G n Q R (k e env tg h) → retS P G n e s Q env h
theorem ContOk.blk {s : List Fr} {k : CT} (hk : ContOk P G n Q R s k) (id : Nat) : ContOk P G n Q R (.blk id :: s) (fun e env tg h => blkT e id fun e => k e env tg h) := by
 intro e env tg h ht hh
 cases e with
 | normal => exact hk _ _ _ _ ht hh
 | ret => exact hk _ _ _ _ ht hh
 | exit i =>
  have hh : holds P G n Q R (bif Nat.beq i id then k .normal env tg h else k (.exit i) env tg h) := hh
  rw [beq_eq] at hh
  show (if i = id then retS P G n .normal s Q env h else retS P G n (.exit i) s Q env h)
  by_cases he : i = id
  ·rw [if_pos he]
   rw [decide_eq_true he] at hh
   exact hk _ _ _ _ ht hh
  ·rw [if_neg he]
   rw [decide_eq_false he] at hh
   exact hk _ _ _ _ ht hh
theorem ContOk.seq {s : List Fr} {k : CT} (hk : ContOk P G n Q R s k) {c : CCode} {f : Env → Tags → Heap → Tr} (hf : ∀ env tg h, TagOk env tg → holds P G n Q R (f env tg h) → runC P G n c s Q env h) :
  ContOk P G n Q R (.seq c :: s) (fun e env tg h => seqT e (f env tg h) (k e env tg h)) := by
 intro e env tg h ht hh
 cases e with
 | normal => exact hf _ _ _ ht hh
 | ret => exact hk _ _ _ _ ht hh
 | exit i => exact hk _ _ _ _ ht hh
theorem leafK_ok0 {Q : CExit → Env → Heap → Prop} : ContOk P G n Q R [] leafK := fun _ _ _ _ _ hh => hh
theorem mrgB_sound {Q2 : CExit → Env → Heap → Prop} {env : Env} {h : Heap} {k : Tr} : ∀ (t : Tr), holds P G n Q R (mrgB t env h k) → (holds P G n Q R k → Q2 .normal env h) → holds P G n Q2 R t ∧ holds P G n Q R k
 | .leaf e env' h', hh, hk => by
  cases e with
  | normal =>
   obtain ⟨⟨rfl, rfl⟩, h2⟩ := hh
   exact ⟨hk h2, h2⟩
  | exit i => exact hh.elim
  | ret => exact hh.elim
 | .need p t, hh, hk => by
  obtain ⟨h1, h2⟩ := mrgB_sound t hh.2 hk
  exact ⟨⟨hh.1, h1⟩, h2⟩
 | .done .., hh, _ => hh.elim
 | .fail, hh, _ => hh.elim
 | .br .., hh, _ => hh.elim
 | .two .., hh, _ => hh.elim
 | .lp .., hh, _ => hh.elim
 | .clB .., hh, _ => hh.elim
 | .clI .., hh, _ => hh.elim
 | .alt .., hh, _ => hh.elim
theorem mrgA_sound {Q2 : CExit → Env → Heap → Prop} {u : Tr} {k : Env → Heap → Tr} (hk : ∀ env h, holds P G n Q R (k env h) → Q2 .normal env h) : ∀ (t : Tr), holds P G n Q R (mrgA t u k) → holds P G n Q2 R t ∧ holds P G n Q2 R u
 | .leaf e env h, hh => by
  cases e with
  | normal =>
   obtain ⟨h1, h2⟩ := mrgB_sound (Q2 := Q2) u hh (hk env h)
   exact ⟨hk env h h2, h1⟩
  | exit i => exact hh.elim
  | ret => exact hh.elim
 | .need p t, hh => by
  obtain ⟨h1, h2⟩ := mrgA_sound hk t hh.2
  exact ⟨⟨hh.1, h1⟩, h2⟩
 | .done .., hh => hh.elim
 | .fail, hh => hh.elim
 | .br .., hh => hh.elim
 | .two .., hh => hh.elim
 | .lp .., hh => hh.elim
 | .clB .., hh => hh.elim
 | .clI .., hh => hh.elim
 | .alt .., hh => hh.elim
theorem fs1_eq {id g : Nat} {ds : List D} {v : V} (h : ∀ x ∈ gs1 id v, x = g) : fs1 id ds v = fz1 id g ds v := by
 cases v with
 | own i g' len =>
  simp only [gs1, fs1, fz1] at h ⊢
  cases hb : Nat.beq i id with
  | true =>
   rw [hb] at h
   have := h g' (by simp)
   rw [if_pos ⟨beq_e hb, this⟩]; rfl
  | false => rw [if_neg fun e => by rw [e.1, Nat.beq_refl] at hb; cases hb]; rfl
 | ptr i g' off =>
  simp only [gs1, fs1, fz1] at h ⊢
  cases hb : Nat.beq i id with
  | true =>
   rw [hb] at h
   have := h g' (by simp)
   rw [if_pos ⟨beq_e hb, this⟩]; rfl
  | false => rw [if_neg fun e => by rw [e.1, Nat.beq_refl] at hb; cases hb]; rfl
 | _ => rfl
theorem catZ_mem {α : Type} {f : α → List Nat} {l : List α} {g : Nat} (h : ∀ x ∈ catZ f l, x = g) : ∀ a ∈ l, ∀ x ∈ f a, x = g := by
 induction l with
 | nil => intro a ha; simp at ha
 | cons b l ih =>
  have e : catZ f (b :: l) = f b ++ catZ f l := by show appZ (f b) (catZ f l) = _; rw [appZ_eq]
  rw [e] at h
  intro a ha x hx
  rcases List.mem_cons.1 ha with rfl | ha
  ·exact h x (List.mem_append.2 (.inl hx))
  ·exact ih (fun x hx => h x (List.mem_append.2 (.inr hx))) a ha x hx
theorem mapZ_congr {α β : Type} {f g : α → β} {l : List α} (h : ∀ a ∈ l, f a = g a) : mapZ f l = l.map g := by
 rw [mapZ_eq]; exact List.map_congr_left h
theorem fs2_eq {id g : Nat} {ds : List D} {v : V} (h : ∀ x ∈ gs2 id v, x = g) : fs2 id ds v = fz2 id g ds v := by
 cases v with
 | agg cs => exact congrArg V.agg (mapZ_congr fun a ha => fs1_eq (catZ_mem h a ha))
 | fn f a c =>
  simp only [gs2, appZ_eq] at h
  have h1 := catZ_mem (f := gs1 id) (l := a) (g := g) fun x hx => h x (List.mem_append.2 (.inl hx))
  have h2 := catZ_mem (f := gs1 id) (l := c) (g := g) fun x hx => h x (List.mem_append.2 (.inr hx))
  show V.fn f (mapZ (fs1 id ds) a) (mapZ (fs1 id ds) c) = V.fn f (a.map (fz1 id g ds)) (c.map (fz1 id g ds))
  rw [mapZ_congr fun x hx => fs1_eq (h1 x hx), mapZ_congr fun x hx => fs1_eq (h2 x hx)]
 | any => rfl
 | d x => exact fs1_eq (id := id) (ds := ds) (v := .d x) h
 | tup vs => exact fs1_eq (id := id) (ds := ds) (v := .tup vs) h
 | own a b c => exact fs1_eq (id := id) (ds := ds) (v := .own a b c) h
 | ptr a b c => exact fs1_eq (id := id) (ds := ds) (v := .ptr a b c) h
 | rptr a b => exact fs1_eq (id := id) (ds := ds) (v := .rptr a b) h
 | mp a => exact fs1_eq (id := id) (ds := ds) (v := .mp a) h
 | yl a => exact fs1_eq (id := id) (ds := ds) (v := .yl a) h
theorem fsV_eq {id g : Nat} {ds : List D} {v : V} (h : ∀ x ∈ gsV id v, x = g) : fsV id ds v = fzV id g ds v := by
 cases v with
 | tup cs => exact congrArg V.tup (mapZ_congr fun a ha => fs2_eq (catZ_mem h a ha))
 | any => rfl
 | d x => exact fs2_eq (id := id) (ds := ds) (v := .d x) h
 | agg vs => exact fs2_eq (id := id) (ds := ds) (v := .agg vs) h
 | fn f a c => exact fs2_eq (id := id) (ds := ds) (v := .fn f a c) h
 | own a b c => exact fs2_eq (id := id) (ds := ds) (v := .own a b c) h
 | ptr a b c => exact fs2_eq (id := id) (ds := ds) (v := .ptr a b c) h
 | rptr a b => exact fs2_eq (id := id) (ds := ds) (v := .rptr a b) h
 | mp a => exact fs2_eq (id := id) (ds := ds) (v := .mp a) h
 | yl a => exact fs2_eq (id := id) (ds := ds) (v := .yl a) h
theorem fsB_eq {id g : Nat} {ds : List D} {b : Option Blk} (h : ∀ x ∈ gsB id b, x = g) : fsB id g ds b = fzB id g ds b := by
 cases b with
 | none => rfl
 | some b => cases b with
  | box cs => exact congrArg (fun l => some (Blk.box l)) (mapZ_congr fun a ha => fs1_eq (catZ_mem h a ha))
  | _ => rfl
theorem needL_sound {g : Nat} {t : Tr} : ∀ {gs : List Nat}, holds P G n Q R (needL g gs t) → (∀ x ∈ gs, x = g) ∧ holds P G n Q R t
 | [], h => ⟨fun x hx => by simp at hx, h⟩
 | y :: gs, h => by
  obtain ⟨h1, h2⟩ := h
  obtain ⟨h3, h4⟩ := needL_sound (gs := gs) h2
  refine ⟨fun x hx => ?_, h4⟩
  rcases List.mem_cons.1 hx with rfl | hx
  ·exact h1
  ·exact h3 x hx
theorem sFrz_sound {env : Env} {h : Heap} {x : Nat × Option Nat} {k : Env → Heap → Tr} {k0 : Tr} (hh : holds P G n Q R (sFrz env h x k k0)) :
  holds P G n Q R (match frzB h (frzV env h x) with
   | some (id, g, ds) => k (fzE id g ds env) (fzH id g ds h)
   | none => k0) := by
 unfold sFrz at hh
 split at hh
 ·rename_i id g len hv
  rw [nthZ_eq] at hh
  split at hh
  ·rename_i e sz g' ds hc
   obtain ⟨h1, h2⟩ := hh
   obtain ⟨h3, h4⟩ := needL_sound h2
   rw [appZ_eq] at h3
   have hE := catZ_mem (f := fun p : Nat × V => gsV id p.2) (l := env) (g := g) fun x hx => h3 x (List.mem_append.2 (.inl hx))
   have hH := catZ_mem (f := gsB id) (l := h) (g := g) fun x hx => h3 x (List.mem_append.2 (.inr hx))
   have e1 : mapZ (fun p : Nat × V => (p.1, fsV id ds p.2)) env = fzE id g ds env := mapZ_congr fun p hp => by rw [fsV_eq (hE p hp)]
   have e2 : setZ (mapZ (fsB id g ds) h) id none = fzH id g ds h := by
    rw [setZ_eq, mapZ_congr fun b hb => fsB_eq (hH b hb)]; rfl
   rw [e1, e2] at h4
   have e3 : frzB h (V.own id g len) = some (id, g, ds) := by
    simp only [frzB, hc, Option.bind_some, blkDs]
    rw [if_pos h1]
   rw [hv, e3]
   exact h4
  ·exact hh.elim
 ·exact hh
theorem sx_sound {X : Sx} (hX : SpOk P X.sp) {Q : CExit → Env → Heap → Prop} : ∀ (c : CCode) (s : List Fr) (k : CT) (env : Env) (tg : Tags) (h : Heap), ContOk P G n Q R s k → TagOk env tg → holds P G n Q R (sx X c s k env tg h) → runC P G n c s Q env h
 | .skip, s, k, env, tg, h, hk, ht, hh => hk _ _ _ _ ht hh
 | .region ops live, s, k, env, tg, h, hk, ht, hh => by
  refine sOps_sound (K' := fun env' h' => stkQ P G n s Q .normal (env'.keep live) h') hX (fun env tg h ht hh => ?_) ops env tg h ht hh
  have := hk _ _ _ _ (ht.keep live) hh
  rwa [keepZ_eq] at this
 | .both a b, s, k, env, tg, h, hk, ht, hh => by
  have hh : holds P G n Q R (bif X.mrg && sameN (leafOf (sx X a [] leafK env tg h)) (leafOf (sx X b [] leafK env tg h)) then mrgA (sx X a [] leafK env tg h) (sx X b [] leafK env tg h) (fun env h => k .normal env [] h) else .two (sx X a s k env tg h) (sx X b s k env tg h)) := hh
  cases hm : X.mrg && sameN (leafOf (sx X a [] leafK env tg h)) (leafOf (sx X b [] leafK env tg h)) with
  | false => rw [hm] at hh; exact ⟨sx_sound hX a s k env tg h hk ht hh.1, sx_sound hX b s k env tg h hk ht hh.2⟩
  | true =>
   rw [hm] at hh
   obtain ⟨h1, h2⟩ := mrgA_sound (Q2 := stkQ P G n s Q) (fun env h hh => hk _ _ _ _ (.nil _) hh) _ hh
   exact ⟨sx_sound hX (Q := stkQ P G n s Q) a [] leafK env tg h leafK_ok0 ht h1, sx_sound hX (Q := stkQ P G n s Q) b [] leafK env tg h leafK_ok0 ht h2⟩
 | .frz x, s, k, env, tg, h, hk, ht, hh => by
  rw [runC_frz]
  have hh : holds P G n Q R (match frzB h (frzV env h x) with
   | some (id, g, ds) => k .normal (fzE id g ds env) [] (fzH id g ds h)
   | none => k .normal env tg h) := by
   have hh : holds P G n Q R (bif X.sfz then sFrz env h x (fun env h => k .normal env [] h) (k .normal env tg h) else match frzB h (frzV env h x) with
    | some (id, g, ds) => k .normal (fzE id g ds env) [] (fzH id g ds h)
    | none => k .normal env tg h) := hh
   cases hz : X.sfz with
   | true =>
    rw [hz] at hh
    have := sFrz_sound (k := fun env h => k .normal env [] h) (k0 := k .normal env tg h) hh
    exact this
   | false => rw [hz] at hh; exact hh
  generalize frzB h (frzV env h x) = o at hh ⊢
  cases o with
  | none => exact hk _ _ _ _ ht hh
  | some q => obtain ⟨id, g, ds⟩ := q; exact hk _ _ _ _ (.nil _) hh
 | .seq a b, s, k, env, tg, h, hk, ht, hh => by
  rw [runC_seq]
  exact sx_sound hX a _ _ env tg h (hk.seq fun env tg h ht hh => sx_sound hX b s k env tg h hk ht hh) ht hh
 | .cond c a b, s, k, env, tg, h, hk, ht, hh => by
  have hh : holds P G n Q R (pCase tg c (opndZ env c) (fun tg => sx X a s k env tg h) (fun tg => sx X b s k env tg h)) := hh
  rw [opndZ_eq] at hh
  exact pCase_sound ht hh (fun tg ht hh => sx_sound hX a s k env tg h hk ht hh) (fun tg ht hh => sx_sound hX b s k env tg h hk ht hh)
 | .block id c, s, k, env, tg, h, hk, ht, hh => by
  rw [runC_block]
  exact sx_sound hX c _ _ env tg h (hk.blk id) ht hh
 | .loop c, s, k, env, tg, h, hk, ht, hh => hh
 | .exit id, s, k, env, tg, h, hk, ht, hh => hk _ _ _ _ ht hh
 | .ret, s, k, env, tg, h, hk, ht, hh => hk _ _ _ _ ht hh
 | .rangeF .., s, k, env, tg, h, hk, ht, hh => hh.elim
theorem sS_ok {X : Sx} (hX : SpOk P X.sp) {k : CT} (hk : ContOk P G n Q R [] k) : ∀ s, ContOk P G n Q R s (sS X k s)
 | [] => hk
 | .seq c :: s => (sS_ok hX hk s).seq (f := fun env tg h => sx X c s (sS X k s) env tg h) fun env tg h ht hh => sx_sound hX c s _ env tg h (sS_ok hX hk s) ht hh
 | .blk id :: s => (sS_ok hX hk s).blk id
theorem leafK_ok : ContOk P G n Q R [] leafK := fun _ _ _ _ _ hh => hh
theorem resT_sound {m : Nat → Nat} (hm : ∀ t, m t = 0) : ∀ (cr : List CRes) {env : Env} {h : Heap} {K : List V → Tr} {K' : List V → Prop}, (∀ vs, holds P G n Q R (K vs) → K' vs) → holds P G n Q R (resT m env h cr K) → resV env h cr K'
 | [], env, h, K, K', hK, hh => hK _ hh
 | .tmp t :: r, env, h, K, K', hK, hh => by
  have hh : holds P G n Q R (forceV (getZ env t) fun v => resT m env h r fun vs => K (v :: vs)) := hh
  rw [forceV_eq, getZ_eq] at hh
  exact resT_sound hm r (fun vs hv => hK _ hv) hh
 | .cell a g :: r, env, h, K, K', hK, hh => by
  have hh : holds P G n Q R (pLoad 0 g (getZ env a) h fun v => resT m env h r fun vs => K (v :: vs)) := hh
  rw [getZ_eq] at hh
  obtain ⟨p, u, h1, h2, h3⟩ := pLoad_sound hh
  refine evOp_sound (c := .load g (.tmp a)) (p := p) (v := u) (h' := h) ?_ h2 ⟨rfl, resT_sound hm r (fun vs hv => hK _ hv) h3⟩
  show inH h (evLoad g (opnd env (.tmp a)) h) = _
  have : opnd env (.tmp a) = env.get a := rfl
  rw [this, h1]
  rfl
theorem oneT_eq (l : List V) : oneT l = oneV l := by
 cases l with
 | nil => rfl
 | cons a l => cases l <;> rfl
theorem doneK_ok {cr : List CRes} (hQ : Q = retQ cr R) : ContOk P G n Q R [] (doneK cr) := by
 subst hQ
 intro e env tg h ht hh
 cases e with
 | exit i => exact hh.elim
 | normal => exact resT_sound (fun _ => rfl) cr (fun vs hv => by rw [← oneT_eq]; exact hv) hh
 | ret => exact resT_sound (fun _ => rfl) cr (fun vs hv => by rw [← oneT_eq]; exact hv) hh
theorem doneP_ok {cr : List CRes} {R' : V → Prop} (hQ : Q = retQ cr fun v _ => R' v) : ContOk P G n Q (fun v _ => R' v) [] (doneP cr) := by
 subst hQ
 intro e env tg h ht hh
 cases e with
 | exit i => exact hh.elim
 | normal => exact resT_sound (fun _ => rfl) cr (fun vs hv => by rw [← oneT_eq]; exact hv) hh
 | ret => exact resT_sound (fun _ => rfl) cr (fun vs hv => by rw [← oneT_eq]; exact hv) hh
theorem doneF_ok {cr : List CRes} {m : Nat} (hQ : Q = retQ cr fun v h => R (finX m v h).1 (finX m v h).2) : ContOk P G n Q R [] (doneF m cr) := by
 subst hQ
 intro e env tg h ht hh
 have key : holds P G n (retQ cr fun v h => R (finX m v h).1 (finX m v h).2) R (resT (fun _ => 0) env h cr fun vs => match finX m (oneT vs) h with
  | (v, h') => .done v h') → resV env h cr fun vs => R (finX m (oneV vs) h).1 (finX m (oneV vs) h).2 := fun hh =>
  resT_sound (fun _ => rfl) cr (fun vs hv => by
   rw [oneT_eq] at hv
   generalize finX m (oneV vs) h = q at hv ⊢
   exact hv) hh
 cases e with
 | exit i => exact hh.elim
 | normal => exact key hh
 | ret => exact key hh
theorem acalls_tree {X : Sx} (hX : SpOk P X.sp) {f : FuncId} {fn : Func} {c : CCode} {cr : List CRes} {vs : List V} {h : Heap} (hf : P.funcs[f]? = some fn) (hc : fn.body.bind (compC P G) = some c)
  (hr : compRes P fn.results.toList = some cr) (hname : (fn.name == "runtime.NumGoroutine") = false) (hsz : fn.ntmps = G.sz) (hl : vs.length ≤ G.sz) {T : Tr}
  (ht : sx X c [] (doneK cr) (envOf vs) [] h = T) (hh : holds P G h.length (retQ cr R) R T) : ACalls P f vs h R := by
 refine acalls_of hf hc hr hname hsz hl ?_
 subst ht
 exact sx_sound hX c [] _ _ _ _ (doneK_ok rfl) (.nil _) hh
theorem acalls_treeP {X : Sx} (hX : SpOk P X.sp) {f : FuncId} {fn : Func} {c : CCode} {cr : List CRes} {vs : List V} {h : Heap} {R' : V → Prop} (hf : P.funcs[f]? = some fn) (hc : fn.body.bind (compC P G) = some c)
  (hr : compRes P fn.results.toList = some cr) (hname : (fn.name == "runtime.NumGoroutine") = false) (hsz : fn.ntmps = G.sz) (hl : vs.length ≤ G.sz) {T : Tr}
  (ht : sx X c [] (doneP cr) (envOf vs) [] h = T) (hh : holds P G h.length (retQ cr fun v _ => R' v) (fun v _ => R' v) T) : ACalls P f vs h fun v _ => R' v := by
 refine acalls_of hf hc hr hname hsz hl ?_
 subst ht
 exact sx_sound hX c [] _ _ _ _ (doneP_ok rfl) (.nil _) hh
theorem acalls_treeF {X : Sx} (hX : SpOk P X.sp) {f : FuncId} {fn : Func} {c : CCode} {cr : List CRes} {vs : List V} {h : Heap} (hf : P.funcs[f]? = some fn) (hc : fn.body.bind (compC P G) = some c)
  (hr : compRes P fn.results.toList = some cr) (hname : (fn.name == "runtime.NumGoroutine") = false) (hsz : fn.ntmps = G.sz) (hl : vs.length ≤ G.sz) {T : Tr}
  (ht : sx X c [] (doneF h.length cr) (envOf vs) [] h = T) (hh : holds P G h.length (retQ cr fun v h1 => R (finX h.length v h1).1 (finX h.length v h1).2) R T) : ACalls P f vs h R := by
 refine ACalls.fin (acalls_of hf hc hr hname hsz hl ?_)
 subst ht
 exact sx_sound hX c [] _ _ _ _ (doneF_ok rfl) (.nil _) hh
theorem ret_tree {X : Sx} (hX : SpOk P X.sp) {k : CT} (hk : ContOk P G n Q R [] k) {e : CExit} {s : List Fr} {env : Env} {h : Heap} {T : Tr} (ht : sS X k s e env [] h = T) (hh : holds P G n Q R T) : retS P G n e s Q env h := by
 subst ht
 exact sS_ok hX hk s e env [] h (.nil _) hh
end
end Go.Proofs.Ytdnefcjbcieecaa
