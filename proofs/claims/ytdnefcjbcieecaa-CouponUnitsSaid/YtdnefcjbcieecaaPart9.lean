/- A part of the proof. -/
import Derived.Test.YtdnefcjbcieecaaPart8
import Derived.Test.YtdnefcjbcieecaaProg
import Derived.KernelRfl
import Derived.ProofKit
import Derived.OpenShut
import Derived.ReadAgain
import Derived.ChangeBook
import Derived.ChangeOld
import Derived.ChangeArms
import Derived.Deep.Slices
set_option linter.unusedVariables false
set_option linter.unusedSimpArgs false
namespace Go.Proofs.Ytdnefcjbcieecaa
open Go Go.Proofs
noncomputable section
def asDv : V → Option Dvd
  | .agg [.d (.int .i64 a), .d (.int .i64 b), .d (.int .i64 c)] => some ⟨a, b, c⟩
  | _ => none
def okCTD (c : Cmp) (t : Tru) (d : Dvd) (km : List (Int × Int × Int)) : Prop := faultM c = 0 ∧ datedB c t = true ∧ okDv d = true ∧ kmOk c km
def ent64 : Ent := fun args h => match args, asW h with
  | [.ptr 1 0 0, x, y], some (c, km, []) => match asU x, asDv y with
    | some t, some d => some (h = Wk c km [] ∧ Uv t = x ∧ Dv d = y ∧ okCTD c t d km, .own 3 (paidM c t d).length (paidM c t d).length, some (Wk c (kmT c t d.record km c.trades.length) [none, some (.row 3 1 (paidM c t d).length (enc eI (paidM c t d)))]))
    | _, _ => none
  | _, _ => none
theorem ent64_ok : EntOk Try.prog 64 ent64 := by
  intro args h p v h' he hp
  unfold ent64 at he
  split at he
  · split at he
    · cases he
      obtain ⟨h1, rfl, rfl, h2, h3, h4, h5⟩ := hp
      rw [h1]
      exact a64 _ _ _ _ h2 h3 h4 h5
    · cases he
  · cases he
theorem fin_W (c : Cmp) (km : List (Int × Int × Int)) (n : Nat) (ds : List D) : finX 2 (.own 2 n n) (Wk c km [some (.row 3 1 n ds)]) = (.d (.sl false n ds), Wk c km []) := by
  have hW := Wk_bel c km 2 (by decide)
  simp [finX, rowsIn, rowsIn1, rowIn, frzRows, frzB, blkDs, fzV, fz2, fz1, Wk, bel2, bel1, bel0] at hW ⊢
  exact hW
theorem a66f (c : Cmp) (t : Tru) (d : Dvd) (km : List (Int × Int × Int)) (hf : faultM c = 0) (hd : datedB c t = true) (hv : okDv d = true) (hkm : kmOk c km) :
    ACalls Try.prog 66 [.ptr 1 0 0, Uv t, Dv d] (Wk c km []) fun v h' => v = vsl eI (claimsM c t d) ∧ ∃ J, h' = Wk c (kmC c t d km c.trades.length) J := by
  refine ACalls.fin ((a66 c t d km hf hd hv hkm).mono ?_)
  rintro v h' ⟨rfl, rfl⟩
  have e : (claimsM c t d).length = c.trades.length := claimsK_len c t d _
  have e2 : (Wk c km []).length = 2 := rfl
  rw [e2, fin_W]
  refine ⟨?_, [], rfl⟩
  unfold vsl dsl
  rw [e]
def ent66 : Ent := fun args h => match args, asW h with
  | [.ptr 1 0 0, x, y], some (c, km, rest) => match asU x, asDv y with
    | some t, some d => some (h = Wk c km rest ∧ Uv t = x ∧ Dv d = y ∧ okCTD c t d km, vsl eI (claimsM c t d), some (Wk c (kmC c t d km c.trades.length) rest))
    | _, _ => none
  | _, _ => none
theorem ent66_ok : EntOk Try.prog 66 ent66 := by
  intro args h p v h' he hp
  unfold ent66 at he
  split at he
  · split at he
    · cases he
      obtain ⟨h1, rfl, rfl, h2, h3, h4, h5⟩ := hp
      rw [h1]
      exact more_W rfl rfl (a66f _ _ _ _ h2 h3 h4 h5) _
    · cases he
  · cases he
def tab22 : Spec := (spAdd 66 ent66 (spAdd 64 ent64 tab18))
theorem tab22_ok : SpOk Try.prog tab22 := (spAdd_ok ent66_ok (spAdd_ok ent64_ok tab18_ok))
def X22 : Sx := mkX tab22
theorem X22_ok : SpOk Try.prog X22.sp := tab22_ok
theorem w67 (c : Cmp) (t : Tru) (d : Dvd) (km : List (Int × Int × Int)) : sx X22 c67 [] (doneK r67) (envOf [.ptr 1 0 0, Uv t, Dv d]) [] (Wk c km []) =
    let x1_ := [V.d (D.int .i64 (Dvd.ex d)), V.d (D.int .i64 (Dvd.record d)), V.d (D.int .i64 (Dvd.pence d))]
    let x2_ := (kmT (dCe c) (dUe t) (Dvd.record { ex := Dvd.ex d, record := Dvd.record d, pence := Dvd.pence d }) (dK (List.map entE km)) (List.length (Cmp.trades (dCe c))))
    let x3_ := (paidM (dCe c) (dUe t) { ex := Dvd.ex d, record := Dvd.record d, pence := Dvd.pence d })
    let x4_ := (dK (List.map entE x2_))
    let x5_ := (claimsM (dCe (dCe c)) (dUe t) { ex := Dvd.ex d, record := Dvd.record d, pence := Dvd.pence d })
    let x6_ := (Cmp.trades (dCe (dCe c)))
    let x7_ := (Cmp.held (dCe (dCe c)))
    let x8_ := (Cmp.divs (dCe (dCe c)))
    let x9_ := (Cmp.splits (dCe (dCe c)))
    let x10_ := (Cmp.closed (dCe (dCe c)))
    Tr.need (Wk c km [] = Wk (dCe c) (dK (List.map entE km)) [] ∧ Uv (dUe t) = Uv t ∧ Dv { ex := Dvd.ex d, record := Dvd.record d, pence := Dvd.pence d } = V.agg x1_ ∧ okCTD (dCe c) (dUe t) { ex := Dvd.ex d, record := Dvd.record d, pence := Dvd.pence d } (dK (List.map entE km))) (Tr.need (Wk (dCe c) x2_ [none, some (Blk.row (3 : Nat) (1 : Nat) (List.length x3_) (enc eI x3_))] = Wk (dCe (dCe c)) x4_ [none, some (Blk.row (3 : Nat) (1 : Nat) (List.length x3_) (enc eI x3_))] ∧ Uv (dUe t) = Uv t ∧ Dv { ex := Dvd.ex d, record := Dvd.record d, pence := Dvd.pence d } = V.agg x1_ ∧ okCTD (dCe (dCe c)) (dUe t) { ex := Dvd.ex d, record := Dvd.record d, pence := Dvd.pence d } x4_) (Tr.lp (CCode.at c67 [1, 1, 0, 1, 0, 0]) [Fr.blk (0), Fr.seq (CCode.at c67 [1, 1, 1])] [(0, V.ptr (1) (0) (0)), (7, V.own (3) (List.length x3_) (List.length x3_)), (17, V.d (D.sl false (List.length x5_) (enc eI x5_))), (18, V.d (D.int .i64 (Int.ofNat (List.length x5_)))), (19, V.d (D.int .i64 (0 : Int)))] [some (Blk.map (List.map entE (kmC (dCe (dCe c)) (dUe t) { ex := Dvd.ex d, record := Dvd.record d, pence := Dvd.pence d } x4_ (List.length x6_)))), some (Blk.box [V.d (D.int .i64 (Cmp.houses (dCe (dCe c)))), V.d (D.sl false (List.length x7_) (enc eI x7_)), V.d (D.sl false (List.length x6_) (enc eT x6_)), V.d (D.sl false (List.length x8_) (enc eV x8_)), V.d (D.sl false (List.length x9_) (enc eS x9_)), V.d (D.sl false (List.length x10_) (enc eR x10_)), V.mp (0)]), none, some (Blk.row (3) (1) (List.length x3_) (enc eI x3_))])) := by kernel_rfl
def rl (f : Nat → Int) (n : Nat) : List Int := (List.range n).map f
@[simp] theorem rl_len (f : Nat → Int) (n : Nat) : (rl f n).length = n := by simp [rl]
def E67 (cl : List Int) (n : Nat) (k : Nat) : Env := [(0, .ptr 1 0 0), (7, .own 3 n n), (17, vsl eI cl), (18, vi cl.length), (19, vi k)]
theorem b67 (c : Cmp) (cl l : List Int) (n k : Nat) (km : List (Int × Int × Int)) : sx X22 (CCode.at c67 [1,1,0,1,0,0]) [] leafK (E67 cl n k) [] (Wk c km [none, some (.row 3 1 n (enc eI l))]) =
    let x1_ := (decide (Int.ofNat k < Int.ofNat (List.length cl)))
    let x2_ := (List.length (Cmp.trades c))
    let x3_ := ((0 : Int) ≤ Int.ofNat k ∧ Int.ofNat k < Int.ofNat x2_ ∧ okEl [0, 0, 0, 0, 0, 0, 0] (enc eT (Cmp.trades c)) (7 : Nat) (Int.ofNat k))
    let x4_ := (cI (enc eT (Cmp.trades c)) (7 : Nat) (Int.ofNat k) (0 : Nat))
    let x5_ := (((0 : Int) ≤ cI (enc eT (Cmp.trades c)) (7 : Nat) (Int.ofNat k) (0 : Nat) ∧ cI (enc eT (Cmp.trades c)) (7 : Nat) (Int.ofNat k) (0 : Nat) < Int.ofNat n) ∧ n = n ∧ Int.toNat x4_ * (1 : Nat) + (1 : Nat) ≤ List.length (enc eI l))
    let x6_ := (Int.toNat x4_ * (1 : Nat))
    let x7_ := (dI (enc eI l) x6_ - cI (enc eI cl) (1 : Nat) (Int.ofNat k) (0 : Nat))
    let x8_ := [V.d (D.int .i64 x7_)]
    let x9_ := (cI (enc eT (Cmp.trades c)) (7 : Nat) (Int.ofNat k) (1))
    let x10_ := (putAt (enc eI l) x6_ [D.int .i64 x7_])
    let x11_ := (((0 : Int) ≤ cI (enc eT (Cmp.trades c)) (7 : Nat) (Int.ofNat k) (1) ∧ cI (enc eT (Cmp.trades c)) (7 : Nat) (Int.ofNat k) (1) < Int.ofNat n) ∧ n = n ∧ Int.toNat x9_ * (1 : Nat) + (1 : Nat) ≤ List.length x10_)
    let x12_ := (Int.toNat x9_ * (1 : Nat))
    let x13_ := (dI x10_ x12_ + cI (enc eI cl) (1 : Nat) (Int.ofNat k) (0 : Nat))
    let x14_ := [V.d (D.int .i64 x13_)]
    let x15_ := (Blk.map (List.map entE km))
    let x16_ := (Blk.box [V.d (D.int .i64 (Cmp.houses c)), V.d (D.sl false (List.length (Cmp.held c)) (enc eI (Cmp.held c))), V.d (D.sl false x2_ (enc eT (Cmp.trades c))), V.d (D.sl false (List.length (Cmp.divs c)) (enc eV (Cmp.divs c))), V.d (D.sl false (List.length (Cmp.splits c)) (enc eS (Cmp.splits c))), V.d (D.sl false (List.length (Cmp.closed c)) (enc eR (Cmp.closed c))), V.mp (0)])
    Tr.br x1_ (Tr.need ((0 : Int) ≤ Int.ofNat k ∧ Int.ofNat k < Int.ofNat (List.length cl) ∧ okEl [0] (enc eI cl) (1 : Nat) (Int.ofNat k)) (Tr.need x3_ (Tr.need x5_ (Tr.need (n = n ∧ (enc eI l)[Int.toNat x4_ * (1 : Nat)]? = some (D.int .i64 (dI (enc eI l) x6_))) (Tr.need ((-9223372036854775808 : Int) ≤ dI (enc eI l) x6_ - cI (enc eI cl) (1 : Nat) (Int.ofNat k) (0 : Nat) ∧ dI (enc eI l) x6_ - cI (enc eI cl) (1 : Nat) (Int.ofNat k) (0 : Nat) ≤ (9223372036854775807 : Int)) (Tr.need x5_ (Tr.need (n = n ∧ Int.toNat x4_ * (1 : Nat) + List.length x8_ ≤ List.length (enc eI l) ∧ List.length x8_ = (1 : Nat)) (Tr.need x3_ (Tr.need x11_ (Tr.need (n = n ∧ x10_[Int.toNat x9_ * (1 : Nat)]? = some (D.int .i64 (dI x10_ x12_))) (Tr.need ((-9223372036854775808 : Int) ≤ dI x10_ x12_ + cI (enc eI cl) (1 : Nat) (Int.ofNat k) (0 : Nat) ∧ dI x10_ x12_ + cI (enc eI cl) (1 : Nat) (Int.ofNat k) (0 : Nat) ≤ (9223372036854775807 : Int)) (Tr.need x11_ (Tr.need (n = n ∧ Int.toNat x9_ * (1 : Nat) + List.length x14_ ≤ List.length x10_ ∧ List.length x14_ = (1 : Nat)) (Tr.need ((-9223372036854775808 : Int) ≤ Int.ofNat k + (1 : Int) ∧ Int.ofNat k + (1 : Int) ≤ (9223372036854775807 : Int)) (Tr.leaf CExit.normal [(0, V.ptr (1) (0) (0)), (7, V.own (3) n n), (17, V.d (D.sl false (List.length cl) (enc eI cl))), (18, V.d (D.int .i64 (Int.ofNat (List.length cl)))), (19, V.d (D.int .i64 (Int.ofNat k + (1 : Int))))] [some x15_, some x16_, none, some (Blk.row (3) (1) n (putAt x10_ x12_ [D.int .i64 x13_]))]))))))))))))))) (Tr.leaf (CExit.exit (0)) [(0, V.ptr (1) (0) (0)), (7, V.own (3) n n), (17, V.d (D.sl false (List.length cl) (enc eI cl))), (18, V.d (D.int .i64 (Int.ofNat (List.length cl)))), (19, V.d (D.int .i64 (Int.ofNat k))), (20, V.d (D.bool x1_))] [some x15_, some x16_, none, some (Blk.row (3) (1) n (enc eI l))]) := by kernel_rfl
theorem x67 (u v w x y : V) (n : Nat) (h : Heap) : sS X22 (doneK r67) [Fr.blk 0, Fr.seq (CCode.at c67 [1,1,1])] (.exit 0) [(0, u), (7, .own 3 n n), (17, v), (18, w), (19, x), (20, y)] [] h =
    Tr.done (V.own (3) n n) h := by kernel_rfl
theorem enc_map (l : List Int) : enc eI l = l.map (D.int .i64) := by
  induction l with
  | nil => rfl
  | cons x l ih => show eI x ++ enc eI l = _; rw [ih]; rfl
theorem putAt_set {α : Type} (l : List α) (i : Nat) (x : α) (h : i < l.length) : putAt l i [x] = l.set i x := by
  rw [putAt, List.set_eq_take_append_cons_drop, if_pos h]; simp
theorem rl_get (f : Nat → Int) {n : Nat} {i : Int} (h0 : 0 ≤ i) (h : i < n) : (enc eI (rl f n))[i.toNat * 1]? = some (D.int .i64 (f i.toNat)) := by
  rw [enc_map, Nat.mul_one]
  have : i.toNat < n := by omega
  simp [rl, this]
theorem rl_dI (f : Nat → Int) {n : Nat} {i : Int} (h0 : 0 ≤ i) (h : i < n) : dI (enc eI (rl f n)) (i.toNat * 1) = f i.toNat := by
  unfold dI; rw [rl_get f h0 h]
theorem rl_put (f : Nat → Int) {n : Nat} {i : Int} (h0 : 0 ≤ i) (h : i < n) (x : Int) : putAt (enc eI (rl f n)) (i.toNat * 1) [D.int .i64 x] = enc eI (rl (setF f i.toNat x) n) := by
  have hi : i.toNat < n := by omega
  rw [Nat.mul_one, putAt_set _ _ _ (by simp; exact hi), enc_map, enc_map]
  apply List.ext_getElem
  · simp [rl]
  · intro j h1 h2
    simp only [rl, List.getElem_set, List.getElem_map, List.getElem_range, setF]
    by_cases e : i.toNat = j
    · rw [if_pos e, if_pos e.symm]
    · rw [if_neg e, if_neg (Ne.symm e)]
def rightT (c : Cmp) (t : Tru) (d : Dvd) : Nat → Nat → Int
  | 0 => fun h => d.pence * heldF c t d.record h
  | k + 1 => moveF (rightT c t d k) (lat c.trades (k : Nat)).seller.toNat (lat c.trades (k : Nat)).buyer.toNat (claimK c t d k)
def rightsM (c : Cmp) (t : Tru) (d : Dvd) : List Int := rl (rightT c t d c.trades.length) c.held.length
theorem heldF_in {c : Cmp} (hf : faultM c = 0) (t : Tru) (d : Int) (i : Nat) : -23328000 ≤ heldF c t d i ∧ heldF c t d i ≤ 23328000 := by
  have h1 := heldT_in hf t d c.trades.length (Nat.le_refl _) i
  have h2 := (fault_ok hf).1.2.2.2.1
  have e : heldF c t d i = heldT c t d c.trades.length i := rfl
  rw [e]; omega
theorem claimK_in {c : Cmp} (hf : faultM c = 0) (t : Tru) {d : Dvd} (hd : okDv d = true) {k : Nat} (hk : k < c.trades.length) : -50000000000 ≤ claimK c t d k ∧ claimK c t d k ≤ 50000000000 := by
  have hdv := div_in hd
  have hu := unitsT_in hf t d.record hk
  have hp := pence_in hdv.2.2.2.1 hdv.2.2.2.2 (n := unitsT c t d.record k) (by omega)
  have hp2 : (0 - d.pence) * unitsT c t d.record k = -(d.pence * unitsT c t d.record k) := by rw [Int.zero_sub, Int.neg_mul]
  unfold claimK
  split <;> split <;> omega
theorem rightT_in {c : Cmp} (hf : faultM c = 0) (t : Tru) {d : Dvd} (hd : okDv d = true) : ∀ k, k ≤ c.trades.length → ∀ i, -(50000000000 * (2 * (k : Int) + 1)) ≤ rightT c t d k i ∧ rightT c t d k i ≤ 50000000000 * (2 * (k : Int) + 1)
  | 0, _, i => by
    have hdv := div_in hd
    have hh := heldF_in hf t d.record i
    have hp := pence_in hdv.2.2.2.1 hdv.2.2.2.2 (n := heldF c t d.record i) (by omega)
    simp only [rightT]; omega
  | k + 1, hk, i => by
    have ih := rightT_in hf t hd k (by omega)
    have hu := claimK_in hf t hd (k := k) (by omega)
    simp only [rightT, moveF, setF]
    have h1 := ih i
    have h2 := ih (lat c.trades (k : Nat)).seller.toNat
    have h3 := ih (lat c.trades (k : Nat)).buyer.toNat
    split <;> split <;> omega
theorem paid_rl (c : Cmp) (t : Tru) (d : Dvd) : paidM c t d = rl (rightT c t d 0) c.held.length := by
  simp only [paidM, refH, refK, rl, List.map_map]; rfl
theorem claims_at {c : Cmp} {t : Tru} {d : Dvd} {k : Nat} (hk : k < c.trades.length) : lat (claimsM c t d) (k : Nat) = claimK c t d k := by
  simp [lat, claimsM, claimsK, hk]
theorem a67 (c : Cmp) (t : Tru) (d : Dvd) (km : List (Int × Int × Int)) (hf : faultM c = 0) (hd : datedB c t = true) (hv : okDv d = true) (hkm : kmOk c km) :
    ACalls Try.prog 67 [.ptr 1 0 0, Uv t, Dv d] (Wk c km []) fun v h' => v = .own 3 c.held.length c.held.length ∧ h' = Wk c (kmC c t d (kmT c t d.record km c.trades.length) c.trades.length) [none, some (.row 3 1 c.held.length (enc eI (rightsM c t d)))] := by
  obtain ⟨⟨g1, g2, g3, g4, g5, g6, g7⟩, g8, g9, g10, g11, g12⟩ := fault_ok hf
  have hk1 := kmT_ok hkm t d.record c.trades.length
  have hcl : (claimsM c t d).length = c.trades.length := claimsK_len c t d _
  have hpl : (paidM c t d).length = c.held.length := by rw [paid_rl, rl_len]
  refine q67.calls X22_ok (h := Wk c km []) rfl (w67 c t d km) ?_
  simp only [holds, dCe, dC_enc, dUe, dU_enc, dK_map, true_and, hpl]
  refine ⟨⟨rfl, hf, hd, hv, hkm⟩, ⟨rfl, hf, hd, hv, hk1⟩, ?_⟩
  refine lp_count X22_ok c.trades.length (fun _ => True) (fun k => E67 (claimsM c t d) c.held.length k) (fun k => Wk c (kmC c t d (kmT c t d.record km c.trades.length) c.trades.length) [none, some (.row 3 1 c.held.length (enc eI (rl (rightT c t d k) c.held.length)))]) rfl ?_ trivial (fun k _ => ⟨rfl, rfl, Wk_belr _ _ _ 4 (by decide) rfl⟩) ?_
  · rw [← paid_rl]; rfl
  intro k hk _ Q' hn he hr
  rw [b67]
  simp only [holds, Int.ofNat_eq_natCast, cI_I, cI_T0, cI_T1, true_and, hcl]
  refine ⟨fun e1 => ?_, fun e1 => ?_⟩
  · have hlt : k < c.trades.length := by have := of_decide_eq_true e1; omega
    have ht := trade_in hf hlt
    simp only [okTr, Bool.and_eq_true, decide_eq_true_eq] at ht
    have o1 : okEl [0, 0, 0, 0, 0, 0, 0] (enc eT c.trades) 7 (k : Nat) := ok_T (by simpa using hlt)
    have o2 : okEl [0] (enc eI (claimsM c t d)) 1 (k : Nat) := ok_I (by rw [hcl]; simpa using hlt)
    have hc := claimK_in hf t hv hlt
    have hb := fun i => rightT_in hf t hv k hk i
    have hs : 0 ≤ (lat c.trades (k : Nat)).seller ∧ (lat c.trades (k : Nat)).seller < (c.held.length : Int) := by omega
    have hbu : 0 ≤ (lat c.trades (k : Nat)).buyer ∧ (lat c.trades (k : Nat)).buyer < (c.held.length : Int) := by omega
    have hn1 := fun J => hn J hlt trivial
    simp only [E67, vsl, dsl, hcl] at hn1
    rw [claims_at hlt, rl_dI _ hs.1 hs.2, rl_put _ hs.1 hs.2, rl_dI _ hbu.1 hbu.2, rl_put _ hbu.1 hbu.2, rl_get _ hs.1 hs.2, rl_get _ hbu.1 hbu.2]
    have b1 := hb (lat c.trades (k : Nat)).seller.toNat
    have b2 : setF (rightT c t d k) (lat c.trades (k : Nat)).seller.toNat (rightT c t d k (lat c.trades (k : Nat)).seller.toNat - claimK c t d k) (lat c.trades (k : Nat)).buyer.toNat ≤ 50000000000 * (2 * (k : Int) + 2) ∧ -(50000000000 * (2 * (k : Int) + 2)) ≤ setF (rightT c t d k) (lat c.trades (k : Nat)).seller.toNat (rightT c t d k (lat c.trades (k : Nat)).seller.toNat - claimK c t d k) (lat c.trades (k : Nat)).buyer.toNat := by
      have b2 := hb (lat c.trades (k : Nat)).buyer.toNat
      simp only [setF]
      split <;> omega
    simp only [len_I, rl_len]
    refine ⟨⟨by omega, by omega, o2⟩, ⟨by omega, by omega, o1⟩, ⟨hs, by omega⟩, trivial, ⟨by omega, by omega⟩, ⟨hs, by omega⟩, ⟨by simp; omega, rfl⟩, ⟨by omega, by omega, o1⟩, ⟨hbu, by omega⟩, trivial, ⟨by omega, by omega⟩, ⟨hbu, by omega⟩, ⟨by simp; omega, rfl⟩, ⟨by omega, by omega⟩, ?_⟩
    exact hn1 []
  · have hge : k = c.trades.length := by have := of_decide_eq_false e1; omega
    subst hge
    refine he _ _ _ (ret_tree X22_ok (doneK_ok rfl) (x67 _ _ _ _ _ _ _) ?_)
    simp only [holds]
    exact ⟨trivial, rfl⟩
end
end Go.Proofs.Ytdnefcjbcieecaa
namespace Go.Proofs.Ytdnefcjbcieecaa
open Go Go.Proofs
noncomputable section
theorem q65 : FunIs Try.prog 65 G65 c65 r65 := ⟨Try.f65, Try.func65, k65, e65, by kernel_rfl, by kernel_rfl⟩
theorem q25 : FunIs Try.prog 25 G25 c25 r25 := ⟨Try.f25, Try.func25, k25, e25, by kernel_rfl, by kernel_rfl⟩
theorem q27 : FunIs Try.prog 27 G27 c27 r27 := ⟨Try.f27, Try.func27, k27, e27, by kernel_rfl, by kernel_rfl⟩
def ent67 : Ent := fun args h => match args, asW h with
  | [.ptr 1 0 0, x, y], some (c, km, []) => match asU x, asDv y with
    | some t, some d => some (h = Wk c km [] ∧ Uv t = x ∧ Dv d = y ∧ okCTD c t d km, .own 3 c.held.length c.held.length, some (Wk c (kmC c t d (kmT c t d.record km c.trades.length) c.trades.length) [none, some (.row 3 1 c.held.length (enc eI (rightsM c t d)))]))
    | _, _ => none
  | _, _ => none
theorem ent67_ok : EntOk Try.prog 67 ent67 := by
  intro args h p v h' he hp
  unfold ent67 at he
  split at he
  · split at he
    · cases he
      obtain ⟨h1, rfl, rfl, h2, h3, h4, h5⟩ := hp
      rw [h1]
      exact a67 _ _ _ _ h2 h3 h4 h5
    · cases he
  · cases he
def tab23 : Spec := (spAdd 67 ent67 tab22)
theorem tab23_ok : SpOk Try.prog tab23 := (spAdd_ok ent67_ok tab22_ok)
def X23 : Sx := { sp := tab23, md := fun k => bif Nat.beq k 15 then 4 else 0, sh := shI, alt := alt58 }
theorem X23_ok : SpOk Try.prog X23.sp := tab23_ok
theorem w65a (c : Cmp) (t : Tru) (n : Int) : sx X23 c65 [] (doneK r65) (envOf [.agg [.d (.fn (.func 64))], Cv c, Uv t, vi n]) [] [] =
    let x1_ := (D.int .i64 (askE (dCe c) (dUe t)))
    let x2_ := (D.int .i64 (0 : Int))
    let x3_ := (kmF (dCe c) (dUe t) [] (12 : Nat))
    let x4_ := [some (Blk.map (List.map entE x3_)), some (Blk.box [V.d (D.int .i64 (Cmp.houses (dCe c))), V.d (D.sl false (List.length (Cmp.held (dCe c))) (enc eI (Cmp.held (dCe c)))), V.d (D.sl false (List.length (Cmp.trades (dCe c))) (enc eT (Cmp.trades (dCe c)))), V.d (D.sl false (List.length (Cmp.divs (dCe c))) (enc eV (Cmp.divs (dCe c)))), V.d (D.sl false (List.length (Cmp.splits (dCe c))) (enc eS (Cmp.splits (dCe c)))), V.d (D.sl false (List.length (Cmp.closed (dCe c))) (enc eR (Cmp.closed (dCe c)))), V.mp (0)])]
    let x5_ := (List.length (Cmp.divs c))
    let x6_ := ((-9223372036854775808 : Int) ≤ Int.ofNat x5_ - (1 : Int) ∧ Int.ofNat x5_ - (1 : Int) ≤ (9223372036854775807 : Int))
    let x7_ := (!inR n (0 : Int) (Int.ofNat x5_ - (1 : Int)))
    let x8_ := (V.tup [V.d D.nils, V.d (D.int .i64 (2 : Int))])
    let x9_ := ((0 : Int) ≤ n ∧ n < Int.ofNat x5_ ∧ okEl [0, 0, 0] (enc eV (Cmp.divs c)) (3 : Nat) n)
    let x10_ := (dK (List.map entE x3_))
    let x11_ := (paidM (dCe (dCe c)) (dUe t) { ex := cI (enc eV (Cmp.divs c)) (3 : Nat) n (0 : Nat), record := cI (enc eV (Cmp.divs c)) (3 : Nat) n (1), pence := cI (enc eV (Cmp.divs c)) (3 : Nat) n (2) })
    let x12_ := (Cmp.trades (dCe (dCe c)))
    let x13_ := (Cmp.held (dCe (dCe c)))
    let x14_ := (Cmp.divs (dCe (dCe c)))
    let x15_ := (Cmp.splits (dCe (dCe c)))
    let x16_ := (Cmp.closed (dCe (dCe c)))
    Tr.alt false (58) [Cv c, Uv t] [] (V.tup [V.d D.nilp, V.d x1_]) [] (V.tup [V.ptr (1) (0) (0), V.d x2_]) x4_ (Tr.br (askE (dCe c) (dUe t) != (0 : Int)) (Tr.done (V.tup [V.d D.nils, V.d x1_]) []) (Tr.need x6_ (Tr.need True (Tr.br x7_ (Tr.done x8_ []) (Tr.need x9_ Tr.fail))))) (Tr.br ((0 : Int) != (0 : Int)) (Tr.done (V.tup [V.d D.nils, V.d x2_]) x4_) (Tr.need x6_ (Tr.need True (Tr.br x7_ (Tr.done x8_ x4_) (Tr.need x9_ (Tr.need (Wk (dCe c) x3_ [] = Wk (dCe (dCe c)) x10_ [] ∧ Uv (dUe t) = Uv t ∧ Dv { ex := cI (enc eV (Cmp.divs c)) (3 : Nat) n (0 : Nat), record := cI (enc eV (Cmp.divs c)) (3 : Nat) n (1), pence := cI (enc eV (Cmp.divs c)) (3 : Nat) n (2) } = V.agg [V.d (D.int .i64 (cI (enc eV (Cmp.divs c)) (3 : Nat) n (0 : Nat))), V.d (D.int .i64 (cI (enc eV (Cmp.divs c)) (3 : Nat) n (1))), V.d (D.int .i64 (cI (enc eV (Cmp.divs c)) (3 : Nat) n (2)))] ∧ okCTD (dCe (dCe c)) (dUe t) { ex := cI (enc eV (Cmp.divs c)) (3 : Nat) n (0 : Nat), record := cI (enc eV (Cmp.divs c)) (3 : Nat) n (1), pence := cI (enc eV (Cmp.divs c)) (3 : Nat) n (2) } x10_) (Tr.done (V.tup [V.own (3) (List.length x11_) (List.length x11_), V.d x2_]) [some (Blk.map (List.map entE (kmT (dCe (dCe c)) (dUe t) (Dvd.record { ex := cI (enc eV (Cmp.divs c)) (3 : Nat) n (0 : Nat), record := cI (enc eV (Cmp.divs c)) (3 : Nat) n (1), pence := cI (enc eV (Cmp.divs c)) (3 : Nat) n (2) }) x10_ (List.length x12_)))), some (Blk.box [V.d (D.int .i64 (Cmp.houses (dCe (dCe c)))), V.d (D.sl false (List.length x13_) (enc eI x13_)), V.d (D.sl false (List.length x12_) (enc eT x12_)), V.d (D.sl false (List.length x14_) (enc eV x14_)), V.d (D.sl false (List.length x15_) (enc eS x15_)), V.d (D.sl false (List.length x16_) (enc eR x16_)), V.mp (0)]), none, some (Blk.row (3) (1) (List.length x11_) (enc eI x11_))]))))))) := by kernel_rfl
theorem w65b (c : Cmp) (t : Tru) (n : Int) : sx X23 c65 [] (doneK r65) (envOf [.agg [.d (.fn (.func 66))], Cv c, Uv t, vi n]) [] [] =
    let x1_ := (D.int .i64 (askE (dCe c) (dUe t)))
    let x2_ := (D.int .i64 (0 : Int))
    let x3_ := (kmF (dCe c) (dUe t) [] (12 : Nat))
    let x4_ := [some (Blk.map (List.map entE x3_)), some (Blk.box [V.d (D.int .i64 (Cmp.houses (dCe c))), V.d (D.sl false (List.length (Cmp.held (dCe c))) (enc eI (Cmp.held (dCe c)))), V.d (D.sl false (List.length (Cmp.trades (dCe c))) (enc eT (Cmp.trades (dCe c)))), V.d (D.sl false (List.length (Cmp.divs (dCe c))) (enc eV (Cmp.divs (dCe c)))), V.d (D.sl false (List.length (Cmp.splits (dCe c))) (enc eS (Cmp.splits (dCe c)))), V.d (D.sl false (List.length (Cmp.closed (dCe c))) (enc eR (Cmp.closed (dCe c)))), V.mp (0)])]
    let x5_ := (List.length (Cmp.divs c))
    let x6_ := ((-9223372036854775808 : Int) ≤ Int.ofNat x5_ - (1 : Int) ∧ Int.ofNat x5_ - (1 : Int) ≤ (9223372036854775807 : Int))
    let x7_ := (!inR n (0 : Int) (Int.ofNat x5_ - (1 : Int)))
    let x8_ := (V.tup [V.d D.nils, V.d (D.int .i64 (2 : Int))])
    let x9_ := ((0 : Int) ≤ n ∧ n < Int.ofNat x5_ ∧ okEl [0, 0, 0] (enc eV (Cmp.divs c)) (3 : Nat) n)
    let x10_ := (dK (List.map entE x3_))
    let x11_ := (claimsM (dCe (dCe c)) (dUe t) { ex := cI (enc eV (Cmp.divs c)) (3 : Nat) n (0 : Nat), record := cI (enc eV (Cmp.divs c)) (3 : Nat) n (1), pence := cI (enc eV (Cmp.divs c)) (3 : Nat) n (2) })
    let x12_ := (Cmp.trades (dCe (dCe c)))
    let x13_ := (Cmp.held (dCe (dCe c)))
    let x14_ := (Cmp.divs (dCe (dCe c)))
    let x15_ := (Cmp.splits (dCe (dCe c)))
    let x16_ := (Cmp.closed (dCe (dCe c)))
    Tr.alt false (58) [Cv c, Uv t] [] (V.tup [V.d D.nilp, V.d x1_]) [] (V.tup [V.ptr (1) (0) (0), V.d x2_]) x4_ (Tr.br (askE (dCe c) (dUe t) != (0 : Int)) (Tr.done (V.tup [V.d D.nils, V.d x1_]) []) (Tr.need x6_ (Tr.need True (Tr.br x7_ (Tr.done x8_ []) (Tr.need x9_ Tr.fail))))) (Tr.br ((0 : Int) != (0 : Int)) (Tr.done (V.tup [V.d D.nils, V.d x2_]) x4_) (Tr.need x6_ (Tr.need True (Tr.br x7_ (Tr.done x8_ x4_) (Tr.need x9_ (Tr.need (Wk (dCe c) x3_ [] = Wk (dCe (dCe c)) x10_ [] ∧ Uv (dUe t) = Uv t ∧ Dv { ex := cI (enc eV (Cmp.divs c)) (3 : Nat) n (0 : Nat), record := cI (enc eV (Cmp.divs c)) (3 : Nat) n (1), pence := cI (enc eV (Cmp.divs c)) (3 : Nat) n (2) } = V.agg [V.d (D.int .i64 (cI (enc eV (Cmp.divs c)) (3 : Nat) n (0 : Nat))), V.d (D.int .i64 (cI (enc eV (Cmp.divs c)) (3 : Nat) n (1))), V.d (D.int .i64 (cI (enc eV (Cmp.divs c)) (3 : Nat) n (2)))] ∧ okCTD (dCe (dCe c)) (dUe t) { ex := cI (enc eV (Cmp.divs c)) (3 : Nat) n (0 : Nat), record := cI (enc eV (Cmp.divs c)) (3 : Nat) n (1), pence := cI (enc eV (Cmp.divs c)) (3 : Nat) n (2) } x10_) (Tr.done (V.tup [V.d (D.sl false (List.length x11_) (enc eI x11_)), V.d x2_]) [some (Blk.map (List.map entE (kmC (dCe (dCe c)) (dUe t) { ex := cI (enc eV (Cmp.divs c)) (3 : Nat) n (0 : Nat), record := cI (enc eV (Cmp.divs c)) (3 : Nat) n (1), pence := cI (enc eV (Cmp.divs c)) (3 : Nat) n (2) } x10_ (List.length x12_)))), some (Blk.box [V.d (D.int .i64 (Cmp.houses (dCe (dCe c)))), V.d (D.sl false (List.length x13_) (enc eI x13_)), V.d (D.sl false (List.length x12_) (enc eT x12_)), V.d (D.sl false (List.length x14_) (enc eV x14_)), V.d (D.sl false (List.length x15_) (enc eS x15_)), V.d (D.sl false (List.length x16_) (enc eR x16_)), V.mp (0)])]))))))) := by kernel_rfl
theorem w65c (c : Cmp) (t : Tru) (n : Int) : sx X23 c65 [] (doneK r65) (envOf [.agg [.d (.fn (.func 67))], Cv c, Uv t, vi n]) [] [] =
    let x1_ := (D.int .i64 (askE (dCe c) (dUe t)))
    let x2_ := (D.int .i64 (0 : Int))
    let x3_ := (kmF (dCe c) (dUe t) [] (12 : Nat))
    let x4_ := [some (Blk.map (List.map entE x3_)), some (Blk.box [V.d (D.int .i64 (Cmp.houses (dCe c))), V.d (D.sl false (List.length (Cmp.held (dCe c))) (enc eI (Cmp.held (dCe c)))), V.d (D.sl false (List.length (Cmp.trades (dCe c))) (enc eT (Cmp.trades (dCe c)))), V.d (D.sl false (List.length (Cmp.divs (dCe c))) (enc eV (Cmp.divs (dCe c)))), V.d (D.sl false (List.length (Cmp.splits (dCe c))) (enc eS (Cmp.splits (dCe c)))), V.d (D.sl false (List.length (Cmp.closed (dCe c))) (enc eR (Cmp.closed (dCe c)))), V.mp (0)])]
    let x5_ := (List.length (Cmp.divs c))
    let x6_ := ((-9223372036854775808 : Int) ≤ Int.ofNat x5_ - (1 : Int) ∧ Int.ofNat x5_ - (1 : Int) ≤ (9223372036854775807 : Int))
    let x7_ := (!inR n (0 : Int) (Int.ofNat x5_ - (1 : Int)))
    let x8_ := (V.tup [V.d D.nils, V.d (D.int .i64 (2 : Int))])
    let x9_ := ((0 : Int) ≤ n ∧ n < Int.ofNat x5_ ∧ okEl [0, 0, 0] (enc eV (Cmp.divs c)) (3 : Nat) n)
    let x10_ := (dK (List.map entE x3_))
    let x11_ := (Cmp.held (dCe (dCe c)))
    let x12_ := (Cmp.trades (dCe (dCe c)))
    let x13_ := (Cmp.divs (dCe (dCe c)))
    let x14_ := (Cmp.splits (dCe (dCe c)))
    let x15_ := (Cmp.closed (dCe (dCe c)))
    Tr.alt false (58) [Cv c, Uv t] [] (V.tup [V.d D.nilp, V.d x1_]) [] (V.tup [V.ptr (1) (0) (0), V.d x2_]) x4_ (Tr.br (askE (dCe c) (dUe t) != (0 : Int)) (Tr.done (V.tup [V.d D.nils, V.d x1_]) []) (Tr.need x6_ (Tr.need True (Tr.br x7_ (Tr.done x8_ []) (Tr.need x9_ Tr.fail))))) (Tr.br ((0 : Int) != (0 : Int)) (Tr.done (V.tup [V.d D.nils, V.d x2_]) x4_) (Tr.need x6_ (Tr.need True (Tr.br x7_ (Tr.done x8_ x4_) (Tr.need x9_ (Tr.need (Wk (dCe c) x3_ [] = Wk (dCe (dCe c)) x10_ [] ∧ Uv (dUe t) = Uv t ∧ Dv { ex := cI (enc eV (Cmp.divs c)) (3 : Nat) n (0 : Nat), record := cI (enc eV (Cmp.divs c)) (3 : Nat) n (1), pence := cI (enc eV (Cmp.divs c)) (3 : Nat) n (2) } = V.agg [V.d (D.int .i64 (cI (enc eV (Cmp.divs c)) (3 : Nat) n (0 : Nat))), V.d (D.int .i64 (cI (enc eV (Cmp.divs c)) (3 : Nat) n (1))), V.d (D.int .i64 (cI (enc eV (Cmp.divs c)) (3 : Nat) n (2)))] ∧ okCTD (dCe (dCe c)) (dUe t) { ex := cI (enc eV (Cmp.divs c)) (3 : Nat) n (0 : Nat), record := cI (enc eV (Cmp.divs c)) (3 : Nat) n (1), pence := cI (enc eV (Cmp.divs c)) (3 : Nat) n (2) } x10_) (Tr.done (V.tup [V.own (3) (List.length x11_) (List.length x11_), V.d x2_]) [some (Blk.map (List.map entE (kmC (dCe (dCe c)) (dUe t) { ex := cI (enc eV (Cmp.divs c)) (3 : Nat) n (0 : Nat), record := cI (enc eV (Cmp.divs c)) (3 : Nat) n (1), pence := cI (enc eV (Cmp.divs c)) (3 : Nat) n (2) } (kmT (dCe (dCe c)) (dUe t) (Dvd.record { ex := cI (enc eV (Cmp.divs c)) (3 : Nat) n (0 : Nat), record := cI (enc eV (Cmp.divs c)) (3 : Nat) n (1), pence := cI (enc eV (Cmp.divs c)) (3 : Nat) n (2) }) x10_ (List.length x12_)) (List.length x12_)))), some (Blk.box [V.d (D.int .i64 (Cmp.houses (dCe (dCe c)))), V.d (D.sl false (List.length x11_) (enc eI x11_)), V.d (D.sl false (List.length x12_) (enc eT x12_)), V.d (D.sl false (List.length x13_) (enc eV x13_)), V.d (D.sl false (List.length x14_) (enc eS x14_)), V.d (D.sl false (List.length x15_) (enc eR x15_)), V.mp (0)]), none, some (Blk.row (3) (1) (List.length x11_) (enc eI (rightsM (dCe (dCe c)) (dUe t) { ex := cI (enc eV (Cmp.divs c)) (3 : Nat) n (0 : Nat), record := cI (enc eV (Cmp.divs c)) (3 : Nat) n (1), pence := cI (enc eV (Cmp.divs c)) (3 : Nat) n (2) })))]))))))) := by kernel_rfl
def sumE (c : Cmp) (t : Tru) (n : Int) : Int := if askE c t ≠ 0 then askE c t else if inR n 0 (c.divs.length - 1) = true then 0 else 2
def sumL (M : Cmp → Tru → Dvd → List Int) (c : Cmp) (t : Tru) (n : Int) : List Int := if sumE c t n = 0 then M c t (lat c.divs n) else []
theorem fin_nil1 (n : Int) (h : Heap) : VLe (finX 0 (.tup [V.d D.nils, V.d (D.int .i64 n)]) h).1 (.tup [vsl eI [], vi n]) := by
  simp [finX, rowsIn, rowsIn1, rowIn, frzRows, bel2, bel1, bel0]
  exact .tup (.cons .nilsF (.cons (.refl _) .nil))
theorem fin_own1 (x y : Option Blk) (a : List Int) (m : Nat) (hm : a.length = m) (n : Int) : VLe (finX 0 (.tup [.own 3 m m, V.d (D.int .i64 n)]) [x, y, none, some (.row 3 1 m (enc eI a))]).1 (.tup [vsl eI a, vi n]) := by
  subst hm
  simp [finX, rowsIn, rowsIn1, rowIn, frzRows, frzB, blkDs, fzV, fz2, fz1, bel2, bel1, bel0]
  exact .tup (.cons .slx (.cons (.refl _) .nil))
theorem fin_sl1 (a : List Int) (n : Int) (h : Heap) : VLe (finX 0 (.tup [V.d (D.sl false a.length (enc eI a)), V.d (D.int .i64 n)]) h).1 (.tup [vsl eI a, vi n]) := by
  simp [finX, rowsIn, rowsIn1, rowIn, frzRows, bel2, bel1, bel0]
  exact .refl _
theorem divs_ok {c : Cmp} (hf : faultM c = 0) {n : Int} (h0 : 0 ≤ n) (h : n < c.divs.length) : okDv (lat c.divs n) = true := by
  have := List.all_eq_true.1 (fault_ok hf).2.2.2.1 _ (lat_mem (l := c.divs) (k := n.toNat) (by omega))
  have e : ((n.toNat : Nat) : Int) = n := by omega
  rw [e] at this
  exact this
theorem y65a (c : Cmp) (t : Tru) (n : Int) : Yields Try.prog 65 [.agg [.d (.fn (.func 64))], Cv c, Uv t, vi n] (.tup [vsl eI (sumL paidM c t n), vi (sumE c t n)]) := by
  refine q65.yieldsX X23_ok rfl rfl ?_ (w65a c t n) ?_
  · rfl
  simp only [holds, Int.ofNat_eq_natCast, cI_V0, cI_V1, cI_V2, dCe, dC_enc, dUe, dU_enc, dK_map, true_and]
  refine (a58 c t).mono ?_
  rintro v h' (⟨h1, rfl, rfl⟩ | ⟨h1, rfl, rfl⟩)
  · refine .inl ⟨rfl, rfl, fun e => (by cases e), fun _ => ?_, fun h => ?_⟩
    · have e : sumE c t n = askE c t := by simp [sumE, h1]
      have e2 : sumL paidM c t n = [] := by simp [sumL, e, h1]
      rw [e, e2]
      exact fin_nil1 _ _
    · exact (h1 (by simpa using h)).elim
  · obtain ⟨hf, hd, hfi⟩ := askE_ok h1
    have hbs := (fault_ok hf).1
    refine .inr ⟨rfl, rfl, fun e => (by cases e), fun h => (by simp at h), fun _ => ⟨⟨by omega, by omega⟩, fun h2 => ?_, fun h2 => ?_⟩⟩
    · have h2 : inR n 0 (c.divs.length - 1) = false := by simpa using h2
      have e : sumE c t n = 2 := by simp [sumE, h1, h2]
      have e2 : sumL paidM c t n = [] := by simp [sumL, e]
      rw [e, e2]
      exact fin_nil1 _ _
    · have h2 : inR n 0 (c.divs.length - 1) = true := by simpa using h2
      have e : sumE c t n = 0 := by simp [sumE, h1, h2]
      have e2 : sumL paidM c t n = paidM c t (lat c.divs n) := by simp [sumL, e]
      have h3 : 0 ≤ n ∧ n < (c.divs.length : Int) := by simp only [inR, decide_eq_true_eq] at h2; omega
      rw [e, e2]
      refine ⟨⟨by omega, by omega, ok_V (by omega)⟩, ⟨rfl, hf, hd, divs_ok hf h3.1 h3.2, kmF_ok (kmOk_nil c) t 12⟩, ?_⟩
      exact fin_own1 _ _ _ _ rfl _
theorem y65b (c : Cmp) (t : Tru) (n : Int) : Yields Try.prog 65 [.agg [.d (.fn (.func 66))], Cv c, Uv t, vi n] (.tup [vsl eI (sumL claimsM c t n), vi (sumE c t n)]) := by
  refine q65.yieldsX X23_ok rfl rfl ?_ (w65b c t n) ?_
  · rfl
  simp only [holds, Int.ofNat_eq_natCast, cI_V0, cI_V1, cI_V2, dCe, dC_enc, dUe, dU_enc, dK_map, true_and]
  refine (a58 c t).mono ?_
  rintro v h' (⟨h1, rfl, rfl⟩ | ⟨h1, rfl, rfl⟩)
  · refine .inl ⟨rfl, rfl, fun e => (by cases e), fun _ => ?_, fun h => ?_⟩
    · have e : sumE c t n = askE c t := by simp [sumE, h1]
      have e2 : sumL claimsM c t n = [] := by simp [sumL, e, h1]
      rw [e, e2]
      exact fin_nil1 _ _
    · exact (h1 (by simpa using h)).elim
  · obtain ⟨hf, hd, hfi⟩ := askE_ok h1
    have hbs := (fault_ok hf).1
    refine .inr ⟨rfl, rfl, fun e => (by cases e), fun h => (by simp at h), fun _ => ⟨⟨by omega, by omega⟩, fun h2 => ?_, fun h2 => ?_⟩⟩
    · have h2 : inR n 0 (c.divs.length - 1) = false := by simpa using h2
      have e : sumE c t n = 2 := by simp [sumE, h1, h2]
      have e2 : sumL claimsM c t n = [] := by simp [sumL, e]
      rw [e, e2]
      exact fin_nil1 _ _
    · have h2 : inR n 0 (c.divs.length - 1) = true := by simpa using h2
      have e : sumE c t n = 0 := by simp [sumE, h1, h2]
      have e2 : sumL claimsM c t n = claimsM c t (lat c.divs n) := by simp [sumL, e]
      have h3 : 0 ≤ n ∧ n < (c.divs.length : Int) := by simp only [inR, decide_eq_true_eq] at h2; omega
      rw [e, e2]
      refine ⟨⟨by omega, by omega, ok_V (by omega)⟩, ⟨rfl, hf, hd, divs_ok hf h3.1 h3.2, kmF_ok (kmOk_nil c) t 12⟩, ?_⟩
      exact fin_sl1 _ _ _
theorem y65c (c : Cmp) (t : Tru) (n : Int) : Yields Try.prog 65 [.agg [.d (.fn (.func 67))], Cv c, Uv t, vi n] (.tup [vsl eI (sumL rightsM c t n), vi (sumE c t n)]) := by
  refine q65.yieldsX X23_ok rfl rfl ?_ (w65c c t n) ?_
  · rfl
  simp only [holds, Int.ofNat_eq_natCast, cI_V0, cI_V1, cI_V2, dCe, dC_enc, dUe, dU_enc, dK_map, true_and]
  refine (a58 c t).mono ?_
  rintro v h' (⟨h1, rfl, rfl⟩ | ⟨h1, rfl, rfl⟩)
  · refine .inl ⟨rfl, rfl, fun e => (by cases e), fun _ => ?_, fun h => ?_⟩
    · have e : sumE c t n = askE c t := by simp [sumE, h1]
      have e2 : sumL rightsM c t n = [] := by simp [sumL, e, h1]
      rw [e, e2]
      exact fin_nil1 _ _
    · exact (h1 (by simpa using h)).elim
  · obtain ⟨hf, hd, hfi⟩ := askE_ok h1
    have hbs := (fault_ok hf).1
    refine .inr ⟨rfl, rfl, fun e => (by cases e), fun h => (by simp at h), fun _ => ⟨⟨by omega, by omega⟩, fun h2 => ?_, fun h2 => ?_⟩⟩
    · have h2 : inR n 0 (c.divs.length - 1) = false := by simpa using h2
      have e : sumE c t n = 2 := by simp [sumE, h1, h2]
      have e2 : sumL rightsM c t n = [] := by simp [sumL, e]
      rw [e, e2]
      exact fin_nil1 _ _
    · have h2 : inR n 0 (c.divs.length - 1) = true := by simpa using h2
      have e : sumE c t n = 0 := by simp [sumE, h1, h2]
      have e2 : sumL rightsM c t n = rightsM c t (lat c.divs n) := by simp [sumL, e]
      have h3 : 0 ≤ n ∧ n < (c.divs.length : Int) := by simp only [inR, decide_eq_true_eq] at h2; omega
      rw [e, e2]
      refine ⟨⟨by omega, by omega, ok_V (by omega)⟩, ⟨rfl, hf, hd, divs_ok hf h3.1 h3.2, kmF_ok (kmOk_nil c) t 12⟩, ?_⟩
      exact fin_own1 _ _ _ _ (rl_len _ _) _
def ent65 : Ent := fun args _ => match args with
  | [.agg [.d (.fn (.func g))], x, y, .d (.int .i64 n)] => match asC x, asU y with
    | some c, some t => some (Cv c = x ∧ Uv t = y ∧ (g = 64 ∨ g = 66 ∨ g = 67), .tup [vsl eI (sumL (match g with | 64 => paidM | 66 => claimsM | _ => rightsM) c t n), vi (sumE c t n)], none)
    | _, _ => none
  | _ => none
theorem ent65_ok : EntOk Try.prog 65 ent65 := by
  intro args h p v h' he hp
  unfold ent65 at he
  split at he
  · split at he
    · cases he
      rw [← hp.1, ← hp.2.1]
      rcases hp.2.2 with rfl | rfl | rfl
      · exact y65a _ _ _ h
      · exact y65b _ _ _ h
      · exact y65c _ _ _ h
    · cases he
  · cases he
def tab24 : Spec := (spAdd 65 ent65 tab20)
theorem tab24_ok : SpOk Try.prog tab24 := (spAdd_ok ent65_ok tab20_ok)
def X24 : Sx := mkX tab24
theorem X24_ok : SpOk Try.prog X24.sp := tab24_ok
theorem w25 (c : Cmp) (t : Tru) (n : Int) : sx X24 c25 [] (doneF 0 r25) (envOf [Cv c, Uv t, vi n]) [] [] =
    Tr.need (Cv (dCe c) = Cv c ∧ Uv (dUe t) = Uv t ∧ ((64 : FuncId) = (64 : FuncId) ∨ (64 : FuncId) = (66 : FuncId) ∨ (64 : FuncId) = (67 : FuncId))) (Tr.done (V.tup [V.d (D.sl false (List.length (sumL paidM (dCe c) (dUe t) n)) (enc eI (sumL paidM (dCe c) (dUe t) n))), V.d (D.int .i64 (sumE (dCe c) (dUe t) n))]) []) := by kernel_rfl
theorem y25 (c : Cmp) (t : Tru) (n : Int) : Yields Try.prog 25 [Cv c, Uv t, vi n] (.tup [vsl eI (sumL paidM c t n), vi (sumE c t n)]) := by
  refine q25.yields X24_ok rfl rfl rfl (w25 c t n) ?_
  simp only [holds]
  simp only [dCe, dC_enc, dUe, dU_enc]
  exact ⟨⟨trivial, trivial, by simp⟩, .refl _⟩
theorem w27 (c : Cmp) (t : Tru) (n : Int) : sx X24 c27 [] (doneF 0 r27) (envOf [Cv c, Uv t, vi n]) [] [] =
    Tr.need (Cv (dCe c) = Cv c ∧ Uv (dUe t) = Uv t ∧ ((67 : FuncId) = (64 : FuncId) ∨ (67 : FuncId) = (66 : FuncId) ∨ (67 : FuncId) = (67 : FuncId))) (Tr.done (V.tup [V.d (D.sl false (List.length (sumL rightsM (dCe c) (dUe t) n)) (enc eI (sumL rightsM (dCe c) (dUe t) n))), V.d (D.int .i64 (sumE (dCe c) (dUe t) n))]) []) := by kernel_rfl
theorem y27 (c : Cmp) (t : Tru) (n : Int) : Yields Try.prog 27 [Cv c, Uv t, vi n] (.tup [vsl eI (sumL rightsM c t n), vi (sumE c t n)]) := by
  refine q27.yields X24_ok rfl rfl rfl (w27 c t n) ?_
  simp only [holds]
  simp only [dCe, dC_enc, dUe, dU_enc]
  exact ⟨⟨trivial, trivial, by simp⟩, .refl _⟩
end
end Go.Proofs.Ytdnefcjbcieecaa
namespace Go.Proofs.Ytdnefcjbcieecaa
open Go Go.Proofs
noncomputable section
theorem q68 : FunIs Try.prog 68 G68 c68 r68 := ⟨Try.f68, Try.func68, k68, e68, by kernel_rfl, by kernel_rfl⟩
theorem q28 : FunIs Try.prog 28 G28 c28 r28 := ⟨Try.f28, Try.func28, k28, e28, by kernel_rfl, by kernel_rfl⟩
def E68 (a b : List Int) (k : Nat) : Env := [(0, vsl eI a), (1, vsl eI b), (5, vi k)]
theorem w68 (a b : List Int) : sx X18 c68 [] (doneK r68) (envOf [vsl eI a, vsl eI b]) [] [] =
    Tr.lp (CCode.at c68 [1, 0, 1, 0, 0]) [Fr.blk (0), Fr.seq (CCode.at c68 [1, 1])] [(0, V.d (D.sl false (List.length a) (enc eI a))), (1, V.d (D.sl false (List.length b) (enc eI b))), (5, V.d (D.int .i64 (0 : Int)))] [] := by kernel_rfl
theorem b68 (a b : List Int) (k : Nat) : sx X18 (CCode.at c68 [1,0,1,0,0]) [] (bodyK r68) (E68 a b k) [] [] =
    let x1_ := (decide (Int.ofNat k < Int.ofNat (List.length b)))
    let x2_ := ((0 : Int) ≤ Int.ofNat k ∧ Int.ofNat k < Int.ofNat (List.length a) ∧ okEl [0] (enc eI a) (1 : Nat) (Int.ofNat k))
    let x3_ := ((0 : Int) ≤ Int.ofNat k ∧ Int.ofNat k < Int.ofNat (List.length b) ∧ okEl [0] (enc eI b) (1 : Nat) (Int.ofNat k))
    Tr.br (decide (Int.ofNat k < Int.ofNat (List.length a))) (Tr.br x1_ (Tr.need x2_ (Tr.need x3_ (Tr.br (cI (enc eI a) (1 : Nat) (Int.ofNat k) (0 : Nat) != cI (enc eI b) (1 : Nat) (Int.ofNat k) (0 : Nat)) (Tr.need x2_ (Tr.need x3_ (Tr.done (V.d (D.bool (decide (cI (enc eI a) (1 : Nat) (Int.ofNat k) (0 : Nat) < cI (enc eI b) (1 : Nat) (Int.ofNat k) (0 : Nat))))) []))) (Tr.need ((-9223372036854775808 : Int) ≤ Int.ofNat k + (1 : Int) ∧ Int.ofNat k + (1 : Int) ≤ (9223372036854775807 : Int)) (Tr.leaf CExit.normal [(0, V.d (D.sl false (List.length a) (enc eI a))), (1, V.d (D.sl false (List.length b) (enc eI b))), (5, V.d (D.int .i64 (Int.ofNat k + (1 : Int))))] []))))) (Tr.leaf (CExit.exit (0)) [(0, V.d (D.sl false (List.length a) (enc eI a))), (1, V.d (D.sl false (List.length b) (enc eI b))), (5, V.d (D.int .i64 (Int.ofNat k))), (15, V.d (D.bool x1_))] [])) (Tr.leaf (CExit.exit (0)) [(0, V.d (D.sl false (List.length a) (enc eI a))), (1, V.d (D.sl false (List.length b) (enc eI b))), (5, V.d (D.int .i64 (Int.ofNat k))), (15, V.d (D.bool false))] []) := by kernel_rfl
theorem x68 (a b : List Int) (u v : V) : sS X18 (doneK r68) [Fr.blk 0, Fr.seq (CCode.at c68 [1,1])] (.exit 0) [(0, vsl eI a), (1, vsl eI b), (5, u), (15, v)] [] [] =
    Tr.done (V.d (D.bool (decide (Int.ofNat (List.length a) < Int.ofNat (List.length b))))) [] := by kernel_rfl
def ent24o : Ent := fun args h => match args, h with
  | [x, y, .d (.int .i64 n)], [] => match asC x, asU y with
    | some c, some t => some (Cv c = x ∧ Uv t = y ∧ faultM c = 0 ∧ datedB c t = true ∧ n ≤ 1000, .own 0 (refH c t n).length (refH c t n).length, some (H24 (refH c t n)))
    | _, _ => none
  | _, _ => none
def befF (a b : List Int) : Nat → Nat → Bool
  | 0, _ => decide (a.length < b.length)
  | n + 1, k => if lat a (k : Nat) = lat b (k : Nat) then befF a b n (k + 1) else decide (lat a (k : Nat) < lat b (k : Nat))
def beforeB (a b : List Int) : Bool := befF a b (min a.length b.length) 0
theorem y68 (a b : List Int) (ha : a.length ≤ 1000000) : Yields Try.prog 68 [vsl eI a, vsl eI b] (vb (beforeB a b)) := by
  refine q68.yieldsK X18_ok rfl rfl rfl (w68 a b) ?_
  simp only [holds]
  refine lp_countK X18_ok rfl (min a.length b.length) (fun k => beforeB a b = befF a b (min a.length b.length - k) k) (E68 a b) (fun _ => []) rfl rfl rfl (fun k _ => ⟨rfl, rfl, rfl⟩) ?_
  intro k hk hA Q' hn he
  rw [b68]
  simp only [holds, Int.ofNat_eq_natCast, cI_I]
  have hend : min a.length b.length ≤ k → beforeB a b = decide ((a.length : Int) < b.length) := fun h => by
    have : min a.length b.length - k = 0 := by omega
    rw [hA, this, befF]
    exact decide_eq_decide.2 (by omega)
  refine ⟨fun e1 => ⟨fun e2 => ?_, fun e2 => ?_⟩, fun e1 => ?_⟩
  · have l1 : k < a.length := by have := of_decide_eq_true e1; omega
    have l2 : k < b.length := by have := of_decide_eq_true e2; omega
    have o1 : okEl [0] (enc eI a) 1 (k : Nat) := ok_I (by simpa using l1)
    have o2 : okEl [0] (enc eI b) 1 (k : Nat) := ok_I (by simpa using l2)
    have e : min a.length b.length - k = (min a.length b.length - (k + 1)) + 1 := by omega
    rw [e, befF] at hA
    refine ⟨⟨by omega, by omega, o1⟩, ⟨by omega, by omega, o2⟩, fun e3 => ⟨⟨by omega, by omega, o1⟩, ⟨by omega, by omega, o2⟩, ?_⟩, fun e3 => ⟨⟨by omega, by omega⟩, ?_⟩⟩
    · rw [if_neg (by simpa using e3)] at hA
      exact .of_eq (congrArg vb hA.symm)
    · rw [if_pos (by simpa using e3)] at hA
      exact hn [] (by omega) hA
  · refine he _ _ _ (ret_tree X18_ok (doneK_ok rfl) (x68 _ _ _ _) ?_)
    simp only [holds]
    exact .of_eq (congrArg vb (hend (by have := of_decide_eq_false e2; omega)).symm)
  · refine he _ _ _ (ret_tree X18_ok (doneK_ok rfl) (x68 _ _ _ _) ?_)
    simp only [holds]
    exact .of_eq (congrArg vb (hend (by have := of_decide_eq_false e1; omega)).symm)
def entLL (q : List Int → List Int → Prop) (m : List Int → List Int → V) : Ent := fun args _ => match args with
  | [.d (.sl false n1 d1), .d (.sl false n2 d2)] => some (okL eI 1 gI n1 d1 ∧ okL eI 1 gI n2 d2 ∧ q (dec 1 gI n1 d1) (dec 1 gI n2 d2), m (dec 1 gI n1 d1) (dec 1 gI n2 d2), none)
  | _ => none
theorem entLL_ok {P : Program} {f : Nat} {q : List Int → List Int → Prop} {m : List Int → List Int → V} (hy : ∀ a b, q a b → Yields P f [vsl eI a, vsl eI b] (m a b)) : EntOk P f (entLL q m) := by
  intro args h p v h' he hp
  unfold entLL at he
  split at he
  · cases he; rw [okL_vsl hp.1, okL_vsl hp.2.1]; exact hy _ _ hp.2.2 h
  · cases he
def ent68 := entLL (fun a _ => a.length ≤ 1000000) (fun a b => vb (beforeB a b))
theorem ent68_ok : EntOk Try.prog 68 ent68 := entLL_ok fun a b h => y68 a b h
def tab25 : Spec := (spAdd 68 ent68 tab24)
theorem tab25_ok : SpOk Try.prog tab25 := (spAdd_ok ent68_ok tab24_ok)
def X25 : Sx := mkX tab25
theorem X25_ok : SpOk Try.prog X25.sp := tab25_ok
theorem befF_self (a : List Int) : ∀ n k, befF a a n k = false
  | 0, _ => by simp [befF]
  | n + 1, k => by rw [befF, if_pos rfl]; exact befF_self a n _
theorem befF_eq {a b : List Int} (hl : a.length = b.length) : ∀ n k, befF a b n k = false → befF b a n k = false → ∀ j, k ≤ j → j < k + n → lat a (j : Nat) = lat b (j : Nat)
  | 0, k, _, _, j, h1, h2 => by omega
  | n + 1, k, h1, h2, j, h3, h4 => by
    rw [befF] at h1 h2
    by_cases e : lat a (k : Nat) = lat b (k : Nat)
    · rw [if_pos e] at h1
      rw [if_pos e.symm] at h2
      rcases Nat.eq_or_lt_of_le h3 with h | h
      · rw [← h]; exact e
      · exact befF_eq hl n (k + 1) h1 h2 j h (by omega)
    · rw [if_neg e] at h1
      rw [if_neg (Ne.symm e)] at h2
      have h1 := of_decide_eq_false h1
      have h2 := of_decide_eq_false h2
      omega
theorem lists_eq {a b : List Int} (hl : a.length = b.length) (h1 : beforeB a b = false) (h2 : beforeB b a = false) : a = b := by
  unfold beforeB at h1 h2
  rw [Nat.min_comm] at h2
  have := befF_eq hl _ _ h1 h2
  apply List.ext_getElem hl
  intro i g1 g2
  have h := this i (Nat.zero_le _) (by omega)
  simpa [lat, g1, g2] using h
theorem w28 (a b : List Int) (ha : a.length ≤ 1000000) (hb : b.length ≤ 1000000) : sx X25 c28 [] (doneF 0 r28) (envOf [vsl eI a, vsl eI b]) [] [] =
    Tr.br (Int.ofNat (List.length a) == Int.ofNat (List.length b)) (Tr.need (okL eI (1 : Nat) gI (List.length a) (enc eI a) ∧ okL eI (1 : Nat) gI (List.length b) (enc eI b) ∧ List.length (dec (1 : Nat) gI (List.length a) (enc eI a)) ≤ (1000000 : Nat)) (Tr.br (!beforeB (dec (1 : Nat) gI (List.length a) (enc eI a)) (dec (1 : Nat) gI (List.length b) (enc eI b))) (Tr.need (okL eI (1 : Nat) gI (List.length b) (enc eI b) ∧ okL eI (1 : Nat) gI (List.length a) (enc eI a) ∧ List.length (dec (1 : Nat) gI (List.length b) (enc eI b)) ≤ (1000000 : Nat)) (Tr.done (V.d (D.bool !beforeB (dec (1 : Nat) gI (List.length b) (enc eI b)) (dec (1 : Nat) gI (List.length a) (enc eI a)))) [])) (Tr.done (V.d (D.bool false)) []))) (Tr.done (V.d (D.bool false)) []) := by kernel_rfl
theorem y28 (a b : List Int) (ha : a.length ≤ 1000000) (hb : b.length ≤ 1000000) : Yields Try.prog 28 [vsl eI a, vsl eI b] (vb (decide (a = b))) := by
  refine q28.yields X25_ok rfl rfl rfl (w28 a b ha hb) ?_
  simp only [holds]
  simp only [okL_I, dec_I, Int.ofNat_eq_natCast]
  have hno : a ≠ b → VLe (V.d (D.bool false)) (vb (decide (a = b))) := fun h => .of_eq (congrArg vb (decide_eq_false h).symm)
  refine ⟨fun e1 => ⟨⟨by omega, by omega, ha⟩, fun e2 => ⟨⟨by omega, by omega, hb⟩, ?_⟩, fun e2 => hno ?_⟩, fun e1 => hno ?_⟩
  · have e1 : a.length = b.length := by have := eq_of_beq e1; omega
    have e2 : beforeB a b = false := by simpa using e2
    refine .of_eq (congrArg vb ?_)
    by_cases e : a = b
    · subst e
      simp [e2]
    · have : beforeB b a = true := by
        cases h : beforeB b a with
        | true => rfl
        | false => exact (e (lists_eq e1 e2 h)).elim
      simp [this, e]
  · rintro rfl
    have : beforeB a a = false := befF_self a _ _
    rw [this] at e2; simp at e2
  · rintro rfl; simp at e1
end
end Go.Proofs.Ytdnefcjbcieecaa
namespace Go.Proofs.Ytdnefcjbcieecaa
open Go Go.Proofs
noncomputable section
def rightR (c : Cmp) (t : Tru) (d : Dvd) (h : Nat) : Nat → Int
  | 0 => lat c.held (h : Nat) * fac c (-1) d.record
  | k + 1 => if earlyB t d k = true then (if (lat c.trades (k : Nat)).buyer = h then rightR c t d h k + unitsT c t d.record k else if (lat c.trades (k : Nat)).seller = h then rightR c t d h k - unitsT c t d.record k else rightR c t d h k) else rightR c t d h k
def claimD (c : Cmp) (t : Tru) (d : Dvd) (h : Nat) : Nat → Int
  | 0 => 0
  | k + 1 => claimD c t d h k + (if (lat c.trades (k : Nat)).buyer = h then claimK c t d k else if (lat c.trades (k : Nat)).seller = h then -claimK c t d k else 0)
theorem rightT_D {c : Cmp} (hf : faultM c = 0) (t : Tru) (d : Dvd) (h : Nat) : ∀ k, k ≤ c.trades.length → rightT c t d k h = d.pence * heldF c t d.record h + claimD c t d h k
  | 0, _ => by simp [rightT, claimD]
  | k + 1, hk => by
    have ht := trade_in hf (show k < c.trades.length by omega)
    simp only [okTr, Bool.and_eq_true, decide_eq_true_eq] at ht
    rw [rightT, moveF_at _ (by omega) (by omega) (by omega), claimD, rightT_D hf t d h k (by omega)]
    split
    · omega
    · split <;> omega
theorem late_reg (c : Cmp) (t : Tru) (d : Dvd) (k : Nat) : lateB c t d k = !(decide (isReg c t d.record k)) := by
  cases hx : lateB c t d k with
  | true =>
    have : ¬ isReg c t d.record k := fun h => by
      have h1 := h.1
      have h2 := h.2
      simp only [lateB, Bool.or_eq_true, beq_iff_eq, decide_eq_true_eq] at hx
      omega
    simp [this]
  | false =>
    have : isReg c t d.record k := by
      simp only [lateB, Bool.or_eq_false_iff, beq_eq_false_iff_ne, decide_eq_false_iff_not] at hx
      exact ⟨hx.1, by omega⟩
    simp [this]
theorem right_law {c : Cmp} (hf : faultM c = 0) (t : Tru) (d : Dvd) {h : Nat} (hh : h < c.held.length) : ∀ k, k ≤ c.trades.length → d.pence * heldT c t d.record k h + claimD c t d h k = d.pence * rightR c t d h k
  | 0, _ => by
    have e : heldT c t d.record 0 h = lat c.held (h : Nat) * fac c (-1) d.record := heldA_at c d.record _ h hh
    rw [e]; simp [claimD, rightR]
  | k + 1, hk => by
    have ht := trade_in hf (show k < c.trades.length by omega)
    simp only [okTr, Bool.and_eq_true, decide_eq_true_eq] at ht
    have ih := right_law hf t d hh k (by omega)
    have hl := late_reg c t d k
    rw [heldT, claimD, rightR, claimK, hl]
    have m1 : (0 - d.pence) * unitsT c t d.record k = -(d.pence * unitsT c t d.record k) := by rw [Int.zero_sub, Int.neg_mul]
    by_cases hr : isReg c t d.record k
    · rw [if_pos hr, moveF_at _ (by omega) (by omega) (by omega)]
      simp only [hr, decide_true, Bool.not_true, Bool.false_eq_true, if_false]
      split <;> split <;> (try split) <;> (try simp only [Int.mul_add, Int.mul_sub, m1]) <;> omega
    · rw [if_neg hr]
      simp only [hr, decide_false, Bool.not_false, if_true]
      split <;> split <;> (try split) <;> (try simp only [Int.mul_add, Int.mul_sub]) <;> omega
def refR (c : Cmp) (t : Tru) (d : Dvd) (n : Nat) : List Int := rl (fun h => d.pence * rightR c t d h c.trades.length) n
@[simp] theorem refR_len (c : Cmp) (t : Tru) (d : Dvd) (h : Nat) : (refR c t d h).length = h := by simp [refR]
theorem rights_eq {c : Cmp} (hf : faultM c = 0) (t : Tru) (d : Dvd) : refR c t d c.held.length = rightsM c t d := by
  unfold refR rightsM
  apply List.ext_getElem (by simp)
  intro i h1 h2
  simp only [rl_len] at h1
  simp only [rl, List.getElem_map, List.getElem_range]
  rw [rightT_D hf t d i _ (Nat.le_refl _), ← right_law hf t d h1 _ (Nat.le_refl _)]
  rfl
end
end Go.Proofs.Ytdnefcjbcieecaa
namespace Go.Proofs.Ytdnefcjbcieecaa
open Go Go.Proofs
noncomputable section
theorem q4 : FunIs Try.prog 4 G4 c4 r4 := ⟨Try.f4, Try.func4, k4, e4, by kernel_rfl, by kernel_rfl⟩
def entCUV (q : Cmp → Tru → Dvd → Prop) (m : Cmp → Tru → Dvd → V) : Ent := fun args _ => match args with
  | [x, y, z] => match asC x, asU y, asDv z with
    | some c, some t, some d => some (Cv c = x ∧ Uv t = y ∧ Dv d = z ∧ q c t d, m c t d, none)
    | _, _, _ => none
  | _ => none
def okCUV (c : Cmp) (t : Tru) (d : Dvd) : Prop := faultM c = 0 ∧ datedB c t = true ∧ okDv d = true
def ent29 := entCUV okCUV (fun c t d => vsl eI (paidM c t d))
def ent30 := entCUV okCUV (fun c t d => vsl eI (claimsM c t d))
def ent31 := entCUV okCUV (fun c t d => vsl eI (rightsM c t d))
def ent28 := entLL (fun a b => a.length ≤ 1000000 ∧ b.length ≤ 1000000) (fun a b => vb (decide (a = b)))
theorem ent28_ok : EntOk Try.prog 28 ent28 := entLL_ok fun a b h => y28 a b h.1 h.2
def ent25 := entCUI (fun _ _ _ => True) (fun c t n => .tup [vsl eI (sumL paidM c t n), vi (sumE c t n)])
theorem ent25_ok : EntOk Try.prog 25 ent25 := entCUI_ok fun c t d _ => y25 c t d
def ent26 := entCUI (fun _ _ _ => True) (fun c t n => .tup [vsl eI (sumL claimsM c t n), vi (sumE c t n)])
def ent27 := entCUI (fun _ _ _ => True) (fun c t n => .tup [vsl eI (sumL rightsM c t n), vi (sumE c t n)])
theorem ent27_ok : EntOk Try.prog 27 ent27 := entCUI_ok fun c t d _ => y27 c t d
def tab26 : Spec := (spAdd 31 ent31 (spAdd 30 ent30 (spAdd 29 ent29 (spAdd 28 ent28 (spAdd 27 ent27 (spAdd 26 ent26 (spAdd 25 ent25 tab25)))))))
def X26 : Sx := mkX tab26
theorem w4 (c : Cmp) (t : Tru) (n : Int) : sx X26 c4 [] (doneP r4) (envOf [Cv c, Uv t, vi n]) [] [] =
    let x1_ := (Cv (dCe c) = Cv c ∧ small (dCe c))
    let x2_ := (Uv (dUe t) = Uv t ∧ List.length (Tru.sold (dUe t)) ≤ (1000000 : Nat) ∧ List.length (Tru.deliv (dUe t)) ≤ (1000000 : Nat))
    let x3_ := (Cv (dCe (dCe c)) = Cv (dCe c) ∧ Uv (dUe (dUe t)) = Uv (dUe t) ∧ True)
    let x4_ := (List.length (Cmp.divs c))
    let x5_ := (sumE (dCe (dCe c)) (dUe (dUe t)) n == (2 : Int))
    let x6_ := (sumL paidM (dCe (dCe c)) (dUe (dUe t)) n)
    let x7_ := (sumL claimsM (dCe (dCe c)) (dUe (dUe t)) n)
    let x8_ := (sumL rightsM (dCe (dCe c)) (dUe (dUe t)) n)
    let x9_ := (sumE (dCe (dCe c)) (dUe (dUe t)) n == (0 : Int))
    let x10_ := (Cv (dCe c) = Cv c ∧ Uv (dUe t) = Uv t ∧ Dv { ex := cI (enc eV (Cmp.divs c)) (3 : Nat) n (0 : Nat), record := cI (enc eV (Cmp.divs c)) (3 : Nat) n (1), pence := cI (enc eV (Cmp.divs c)) (3 : Nat) n (2) } = V.agg [V.d (D.int .i64 (cI (enc eV (Cmp.divs c)) (3 : Nat) n (0 : Nat))), V.d (D.int .i64 (cI (enc eV (Cmp.divs c)) (3 : Nat) n (1))), V.d (D.int .i64 (cI (enc eV (Cmp.divs c)) (3 : Nat) n (2)))] ∧ okCUV (dCe c) (dUe t) { ex := cI (enc eV (Cmp.divs c)) (3 : Nat) n (0 : Nat), record := cI (enc eV (Cmp.divs c)) (3 : Nat) n (1), pence := cI (enc eV (Cmp.divs c)) (3 : Nat) n (2) })
    let x11_ := (paidM (dCe c) (dUe t) { ex := cI (enc eV (Cmp.divs c)) (3 : Nat) n (0 : Nat), record := cI (enc eV (Cmp.divs c)) (3 : Nat) n (1), pence := cI (enc eV (Cmp.divs c)) (3 : Nat) n (2) })
    let x12_ := (claimsM (dCe c) (dUe t) { ex := cI (enc eV (Cmp.divs c)) (3 : Nat) n (0 : Nat), record := cI (enc eV (Cmp.divs c)) (3 : Nat) n (1), pence := cI (enc eV (Cmp.divs c)) (3 : Nat) n (2) })
    let x13_ := (rightsM (dCe c) (dUe t) { ex := cI (enc eV (Cmp.divs c)) (3 : Nat) n (0 : Nat), record := cI (enc eV (Cmp.divs c)) (3 : Nat) n (1), pence := cI (enc eV (Cmp.divs c)) (3 : Nat) n (2) })
    let x14_ := (sumE (dCe (dCe c)) (dUe (dUe t)) n == askE (dCe c) (dUe t))
    Tr.need (Cv (dCe c) = Cv c ∧ Uv (dUe t) = Uv t ∧ True) (Tr.br (!thin (dCe c) (dUe t)) (Tr.need True (Tr.done (V.d (D.bool true)) [])) (Tr.need x1_ (Tr.need x2_ (Tr.need x3_ (Tr.need x1_ (Tr.need x2_ (Tr.need x3_ (Tr.need x1_ (Tr.need x2_ (Tr.need x3_ (Tr.need (Cv (dCe c) = Cv c ∧ Uv (dUe t) = Uv t ∧ List.length (Cmp.trades (dCe c)) ≤ (1000000 : Nat)) (Tr.br (askE (dCe c) (dUe t) == (0 : Int)) (Tr.need ((-9223372036854775808 : Int) ≤ Int.ofNat x4_ - (1 : Int) ∧ Int.ofNat x4_ - (1 : Int) ≤ (9223372036854775807 : Int)) (Tr.need True (Tr.br (!inR n (0 : Int) (Int.ofNat x4_ - (1 : Int))) (Tr.br ((2 : Int) != (0 : Int)) (Tr.br x5_ (Tr.br x5_ (Tr.br x5_ (Tr.need ((-9223372036854775808 : Int) ≤ Int.ofNat (List.length x6_) + Int.ofNat (List.length x7_) ∧ Int.ofNat (List.length x6_) + Int.ofNat (List.length x7_) ≤ (9223372036854775807 : Int)) (Tr.need ((-9223372036854775808 : Int) ≤ Int.ofNat (List.length x6_) + Int.ofNat (List.length x7_) + Int.ofNat (List.length x8_) ∧ Int.ofNat (List.length x6_) + Int.ofNat (List.length x7_) + Int.ofNat (List.length x8_) ≤ (9223372036854775807 : Int)) (Tr.br (Int.ofNat (List.length x6_) + Int.ofNat (List.length x7_) + Int.ofNat (List.length x8_) == (0 : Int)) (Tr.need True (Tr.done (V.d (D.bool true)) [])) (Tr.done (V.d (D.bool false)) [])))) (Tr.done (V.d (D.bool false)) [])) (Tr.done (V.d (D.bool false)) [])) (Tr.done (V.d (D.bool false)) [])) (Tr.need ((0 : Int) ≤ n ∧ n < Int.ofNat x4_ ∧ okEl [0, 0, 0] (enc eV (Cmp.divs c)) (3 : Nat) n) (Tr.br x9_ (Tr.need x10_ (Tr.need (okL eI (1 : Nat) gI (List.length x6_) (enc eI x6_) ∧ okL eI (1 : Nat) gI (List.length x11_) (enc eI x11_) ∧ List.length (dec (1 : Nat) gI (List.length x6_) (enc eI x6_)) ≤ (1000000 : Nat) ∧ List.length (dec (1 : Nat) gI (List.length x11_) (enc eI x11_)) ≤ (1000000 : Nat)) (Tr.br (decide (dec (1 : Nat) gI (List.length x6_) (enc eI x6_) = dec (1 : Nat) gI (List.length x11_) (enc eI x11_))) (Tr.br x9_ (Tr.need x10_ (Tr.need (okL eI (1 : Nat) gI (List.length x7_) (enc eI x7_) ∧ okL eI (1 : Nat) gI (List.length x12_) (enc eI x12_) ∧ List.length (dec (1 : Nat) gI (List.length x7_) (enc eI x7_)) ≤ (1000000 : Nat) ∧ List.length (dec (1 : Nat) gI (List.length x12_) (enc eI x12_)) ≤ (1000000 : Nat)) (Tr.br (decide (dec (1 : Nat) gI (List.length x7_) (enc eI x7_) = dec (1 : Nat) gI (List.length x12_) (enc eI x12_))) (Tr.br x9_ (Tr.need x10_ (Tr.need (okL eI (1 : Nat) gI (List.length x8_) (enc eI x8_) ∧ okL eI (1 : Nat) gI (List.length x13_) (enc eI x13_) ∧ List.length (dec (1 : Nat) gI (List.length x8_) (enc eI x8_)) ≤ (1000000 : Nat) ∧ List.length (dec (1 : Nat) gI (List.length x13_) (enc eI x13_)) ≤ (1000000 : Nat)) (Tr.br (decide (dec (1 : Nat) gI (List.length x8_) (enc eI x8_) = dec (1 : Nat) gI (List.length x13_) (enc eI x13_))) (Tr.need True (Tr.done (V.d (D.bool true)) [])) (Tr.done (V.d (D.bool false)) [])))) (Tr.done (V.d (D.bool false)) [])) (Tr.done (V.d (D.bool false)) [])))) (Tr.done (V.d (D.bool false)) [])) (Tr.done (V.d (D.bool false)) [])))) (Tr.done (V.d (D.bool false)) [])))) (Tr.br (askE (dCe c) (dUe t) != (0 : Int)) (Tr.br x14_ (Tr.br x14_ (Tr.br x14_ (Tr.need ((-9223372036854775808 : Int) ≤ Int.ofNat (List.length x6_) + Int.ofNat (List.length x7_) ∧ Int.ofNat (List.length x6_) + Int.ofNat (List.length x7_) ≤ (9223372036854775807 : Int)) (Tr.need ((-9223372036854775808 : Int) ≤ Int.ofNat (List.length x6_) + Int.ofNat (List.length x7_) + Int.ofNat (List.length x8_) ∧ Int.ofNat (List.length x6_) + Int.ofNat (List.length x7_) + Int.ofNat (List.length x8_) ≤ (9223372036854775807 : Int)) (Tr.br (Int.ofNat (List.length x6_) + Int.ofNat (List.length x7_) + Int.ofNat (List.length x8_) == (0 : Int)) (Tr.need True (Tr.done (V.d (D.bool true)) [])) (Tr.done (V.d (D.bool false)) [])))) (Tr.done (V.d (D.bool false)) [])) (Tr.done (V.d (D.bool false)) [])) (Tr.done (V.d (D.bool false)) [])) (Tr.need ((0 : Int) ≤ n ∧ n < Int.ofNat x4_ ∧ okEl [0, 0, 0] (enc eV (Cmp.divs c)) (3 : Nat) n) (Tr.br x9_ (Tr.need x10_ (Tr.need (okL eI (1 : Nat) gI (List.length x6_) (enc eI x6_) ∧ okL eI (1 : Nat) gI (List.length x11_) (enc eI x11_) ∧ List.length (dec (1 : Nat) gI (List.length x6_) (enc eI x6_)) ≤ (1000000 : Nat) ∧ List.length (dec (1 : Nat) gI (List.length x11_) (enc eI x11_)) ≤ (1000000 : Nat)) (Tr.br (decide (dec (1 : Nat) gI (List.length x6_) (enc eI x6_) = dec (1 : Nat) gI (List.length x11_) (enc eI x11_))) (Tr.br x9_ (Tr.need x10_ (Tr.need (okL eI (1 : Nat) gI (List.length x7_) (enc eI x7_) ∧ okL eI (1 : Nat) gI (List.length x12_) (enc eI x12_) ∧ List.length (dec (1 : Nat) gI (List.length x7_) (enc eI x7_)) ≤ (1000000 : Nat) ∧ List.length (dec (1 : Nat) gI (List.length x12_) (enc eI x12_)) ≤ (1000000 : Nat)) (Tr.br (decide (dec (1 : Nat) gI (List.length x7_) (enc eI x7_) = dec (1 : Nat) gI (List.length x12_) (enc eI x12_))) (Tr.br x9_ (Tr.need x10_ (Tr.need (okL eI (1 : Nat) gI (List.length x8_) (enc eI x8_) ∧ okL eI (1 : Nat) gI (List.length x13_) (enc eI x13_) ∧ List.length (dec (1 : Nat) gI (List.length x8_) (enc eI x8_)) ≤ (1000000 : Nat) ∧ List.length (dec (1 : Nat) gI (List.length x13_) (enc eI x13_)) ≤ (1000000 : Nat)) (Tr.br (decide (dec (1 : Nat) gI (List.length x8_) (enc eI x8_) = dec (1 : Nat) gI (List.length x13_) (enc eI x13_))) (Tr.need True (Tr.done (V.d (D.bool true)) [])) (Tr.done (V.d (D.bool false)) [])))) (Tr.done (V.d (D.bool false)) [])) (Tr.done (V.d (D.bool false)) [])))) (Tr.done (V.d (D.bool false)) [])) (Tr.done (V.d (D.bool false)) [])))) (Tr.done (V.d (D.bool false)) []))))))) (Tr.br (askE (dCe c) (dUe t) != (0 : Int)) (Tr.br x14_ (Tr.br x14_ (Tr.br x14_ (Tr.need ((-9223372036854775808 : Int) ≤ Int.ofNat (List.length x6_) + Int.ofNat (List.length x7_) ∧ Int.ofNat (List.length x6_) + Int.ofNat (List.length x7_) ≤ (9223372036854775807 : Int)) (Tr.need ((-9223372036854775808 : Int) ≤ Int.ofNat (List.length x6_) + Int.ofNat (List.length x7_) + Int.ofNat (List.length x8_) ∧ Int.ofNat (List.length x6_) + Int.ofNat (List.length x7_) + Int.ofNat (List.length x8_) ≤ (9223372036854775807 : Int)) (Tr.br (Int.ofNat (List.length x6_) + Int.ofNat (List.length x7_) + Int.ofNat (List.length x8_) == (0 : Int)) (Tr.need True (Tr.done (V.d (D.bool true)) [])) (Tr.done (V.d (D.bool false)) [])))) (Tr.done (V.d (D.bool false)) [])) (Tr.done (V.d (D.bool false)) [])) (Tr.done (V.d (D.bool false)) [])) (Tr.need ((0 : Int) ≤ n ∧ n < Int.ofNat x4_ ∧ okEl [0, 0, 0] (enc eV (Cmp.divs c)) (3 : Nat) n) (Tr.br x9_ (Tr.need x10_ (Tr.need (okL eI (1 : Nat) gI (List.length x6_) (enc eI x6_) ∧ okL eI (1 : Nat) gI (List.length x11_) (enc eI x11_) ∧ List.length (dec (1 : Nat) gI (List.length x6_) (enc eI x6_)) ≤ (1000000 : Nat) ∧ List.length (dec (1 : Nat) gI (List.length x11_) (enc eI x11_)) ≤ (1000000 : Nat)) (Tr.br (decide (dec (1 : Nat) gI (List.length x6_) (enc eI x6_) = dec (1 : Nat) gI (List.length x11_) (enc eI x11_))) (Tr.br x9_ (Tr.need x10_ (Tr.need (okL eI (1 : Nat) gI (List.length x7_) (enc eI x7_) ∧ okL eI (1 : Nat) gI (List.length x12_) (enc eI x12_) ∧ List.length (dec (1 : Nat) gI (List.length x7_) (enc eI x7_)) ≤ (1000000 : Nat) ∧ List.length (dec (1 : Nat) gI (List.length x12_) (enc eI x12_)) ≤ (1000000 : Nat)) (Tr.br (decide (dec (1 : Nat) gI (List.length x7_) (enc eI x7_) = dec (1 : Nat) gI (List.length x12_) (enc eI x12_))) (Tr.br x9_ (Tr.need x10_ (Tr.need (okL eI (1 : Nat) gI (List.length x8_) (enc eI x8_) ∧ okL eI (1 : Nat) gI (List.length x13_) (enc eI x13_) ∧ List.length (dec (1 : Nat) gI (List.length x8_) (enc eI x8_)) ≤ (1000000 : Nat) ∧ List.length (dec (1 : Nat) gI (List.length x13_) (enc eI x13_)) ≤ (1000000 : Nat)) (Tr.br (decide (dec (1 : Nat) gI (List.length x8_) (enc eI x8_) = dec (1 : Nat) gI (List.length x13_) (enc eI x13_))) (Tr.need True (Tr.done (V.d (D.bool true)) [])) (Tr.done (V.d (D.bool false)) [])))) (Tr.done (V.d (D.bool false)) [])) (Tr.done (V.d (D.bool false)) [])))) (Tr.done (V.d (D.bool false)) [])) (Tr.done (V.d (D.bool false)) [])))) (Tr.done (V.d (D.bool false)) [])))))))))))))))) := by kernel_rfl
theorem paidM_len (c : Cmp) (t : Tru) (d : Dvd) : (paidM c t d).length = c.held.length := by rw [paid_rl, rl_len]
theorem rightsM_len (c : Cmp) (t : Tru) (d : Dvd) : (rightsM c t d).length = c.held.length := rl_len _ _
end
end Go.Proofs.Ytdnefcjbcieecaa
namespace Go.Proofs.Ytdnefcjbcieecaa
open Go Go.Proofs
def G41 : Cfg := ⟨[222, 216, 209, 206, 203, 119, 88, 61, 8, 20, 23, 24, 16, 6, 7], [(0, [0, 1, 2, 6, 7]), (1, [0, 1, 2, 6, 7, 8]), (2, [0, 1, 2, 6, 7, 8, 9]), (3, [0, 1, 2, 6, 7, 8, 9, 10]), (4, [0, 1, 2, 6, 7, 8, 9, 10, 34]), (6, [0, 1, 2, 6, 7, 8, 9, 10, 11]), (7, [0, 1, 2, 6, 7, 8, 9, 10, 11]), (8, [0, 1, 2, 6, 7, 8, 9, 10, 11, 47]), (9, [0, 1, 2, 6, 7, 8, 9, 10]), (5, [0, 1, 2, 6, 7, 8, 9, 10]), (10, [0, 1, 2, 6, 7, 8, 12]), (11, [0, 1, 2, 6, 7, 8, 12, 68]), (13, [0, 1, 2, 6, 7, 8, 12, 13]), (14, [0, 1, 2, 6, 7, 8, 12]), (12, [0, 1, 2, 6, 7, 8, 12]), (15, [0, 1, 2, 6, 7, 8, 14]), (16, [0, 1, 2, 6, 7, 8, 14, 96]), (18, [0, 1, 2, 6, 7, 8, 14, 15]), (19, [0, 1, 2, 6, 7, 8, 14]), (17, [0, 1, 2, 6, 7, 8, 14]), (20, [0, 1, 2, 6, 7, 8, 16]), (21, [0, 1, 2, 6, 7, 8, 16, 17]), (22, [0, 1, 2, 6, 7, 8, 16, 17, 130]), (24, [0, 1, 2, 6, 7, 8, 16, 17, 18, 19]), (25, [0, 1, 2, 6, 7, 8, 16, 17, 18, 19, 20]), (26, [0, 1, 2, 6, 7, 8, 16, 17, 19, 20]), (27, [0, 1, 2, 6, 7, 8, 16, 17, 19, 20, 21]), (28, [0, 1, 2, 6, 7, 8, 16, 17, 19, 20, 21, 22]), (29, [0, 1, 2, 6, 7, 8, 16, 17, 19, 20, 21, 22]), (30, [0, 1, 2, 6, 7, 8, 16, 17, 20, 21, 22]), (31, [0, 1, 2, 6, 7, 8, 16, 17, 20, 21, 22, 23]), (32, [0, 1, 2, 6, 7, 8, 16, 17, 21, 22, 23]), (33, [0, 1, 2, 6, 7, 8, 16, 17, 23, 24]), (34, [0, 1, 2, 6, 7, 8, 16, 17, 23, 24, 226]), (35, [0, 1, 2, 6, 7, 8, 16, 17]), (23, [0, 1, 2, 6, 7, 8, 16, 17]), (36, [6, 7])], 231, [(10, [(8, (some 4))]), (15, [(8, (some 5))]), (20, [(8, (some 3))]), (33, [(23, (some 2))]), (34, [(24, (some 0)), (24, (some 1))])]⟩
def r41 : List CRes := [.cell 6 (some 6), .cell 7 (some 2)]
def c41 : CCode :=
(.seq (.region [
 rs 6 (.alloc [(.d (.int .i64 0)), (.d .nils), (.d .nils), (.d .nils), (.d .nils), (.d .nils)]),
 rs 7 (.alloc [(.d .nils), (.d .nils)])] (some [0, 1, 2, 6, 7]))
(.seq (.region [
 rs 25 (.move (.tmp 0)),
 rs 26 (.len (.tmp 25)),
 rs 27 (.move (.tmp 0)),
 ⟨(some 28), none, .call (.func 56) [(.tmp 27)]⟩,
 rs 29 (.build [(.d (.int .i64 0)), (.d .nils), (.d .nils), (.d .nils), (.d .nils), (.d .nils)] [(0, 1, (.tmp 26)), (1, 1, (.tmp 28))]),
 rs 8 (.alloc [(.d (.int .i64 0)), (.d .nils), (.d .nils), (.d .nils), (.d .nils), (.d .nils)]),
 rn (.store 6 (.tmp 8) (.tmp 29))] (some [0, 1, 2, 6, 7, 8]))
(.seq (.region [
 ⟨(some 9), none, .simple (.move (ci (-1)))⟩] (some [0, 1, 2, 6, 7, 8, 9]))
(.seq (.seq (.region [
 rs 10 (.move (ci 0))] (some [0, 1, 2, 6, 7, 8, 9, 10]))
(.block 0 (.loop (.seq (.seq (.region [
 rs 30 (.move (.tmp 10)),
 rs 31 (.move (.tmp 1)),
 ⟨(some 32), none, .call (.func 80) [(.tmp 31), (ci 0)]⟩,
 rs 33 (.bin .rem (.tmp 32) (ci 3)),
 rs 34 (.bin .lss (.tmp 30) (.tmp 33))] (some [0, 1, 2, 6, 7, 8, 9, 10, 34]))
 (.cond (.tmp 34)
 .skip
 (.exit 0)))
 (.seq (.block 1 (.seq (.region [
 rs 37 (.move (.tmp 1)),
 rs 38 (.move (.tmp 10)),
 rs 39 (.bin .add (.tmp 38) (ci 1)),
 ⟨(some 40), none, .call (.func 80) [(.tmp 37), (.tmp 39)]⟩,
 rs 11 (.move (.tmp 40))] (some [0, 1, 2, 6, 7, 8, 9, 10, 11]))
 (.seq (.region [
 rs 41 (.move (.tmp 9)),
 rs 42 (.move (.tmp 11)),
 rs 43 (.bin .rem (.tmp 42) (ci 6)),
 rs 44 (.bin .add (ci 1) (.tmp 43)),
 rs 45 (.bin .add (.tmp 41) (.tmp 44)),
 rs 9 (.move (.tmp 45))] (some [0, 1, 2, 6, 7, 8, 9, 10, 11]))
 (.seq (.region [
 rs 46 (.move (.tmp 9)),
 rs 47 (.bin .leq (.tmp 46) (ci 11))] (some [0, 1, 2, 6, 7, 8, 9, 10, 11, 47]))
 (.cond (.tmp 47)
 (.region [
 rs 48 (.fieldAddr 4 (.tmp 8)),
 rs 49 (.load none (.tmp 48)),
 rs 50 (.move (.tmp 9)),
 rs 51 (.move (.tmp 11)),
 rs 52 (.bin .quo (.tmp 51) (ci 8)),
 rs 53 (.bin .rem (.tmp 52) (ci 6)),
 rs 54 (.bin .add (ci 1) (.tmp 53)),
 rs 55 (.move (.tmp 11)),
 rs 56 (.bin .quo (.tmp 55) (ci 64)),
 rs 57 (.bin .rem (.tmp 56) (ci 4)),
 rs 58 (.bin .add (ci 1) (.tmp 57)),
 rs 59 (.build [(.d (.int .i64 0)), (.d (.int .i64 0)), (.d (.int .i64 0))] [(0, 1, (.tmp 50)), (1, 1, (.tmp 54)), (2, 1, (.tmp 58))]),
 rs 60 (.bslice false 79 3 1 [(.int .i64 0), (.int .i64 0), (.int .i64 0)] [(0, (.tmp 59))]),
 ⟨(some 61), none, .app 79 3 24 (.tmp 49) (.tmp 60)⟩,
 rs 62 (.fieldAddr 4 (.tmp 8)),
 rn (.store 1 (.tmp 62) (.tmp 61))] (some [0, 1, 2, 6, 7, 8, 9, 10]))
 .skip)))))
 (.region [
 rs 35 (.move (.tmp 10)),
 rs 36 (.bin .add (.tmp 35) (ci 1)),
 rs 10 (.move (.tmp 36))] (some [0, 1, 2, 6, 7, 8, 9, 10])))))))
(.seq (.seq (.seq (.frz (8, (some 4)))
(.region [
 rs 12 (.move (ci 0))] (some [0, 1, 2, 6, 7, 8, 12])))
(.block 2 (.loop (.seq (.seq (.region [
 rs 63 (.move (.tmp 12)),
 rs 64 (.move (.tmp 1)),
 ⟨(some 65), none, .call (.func 80) [(.tmp 64), (ci 0)]⟩,
 rs 66 (.bin .quo (.tmp 65) (ci 4)),
 rs 67 (.bin .rem (.tmp 66) (ci 3)),
 rs 68 (.bin .lss (.tmp 63) (.tmp 67))] (some [0, 1, 2, 6, 7, 8, 12, 68]))
 (.cond (.tmp 68)
 .skip
 (.exit 2)))
 (.seq (.block 3 (.seq (.region [
 rs 71 (.move (.tmp 1)),
 rs 72 (.move (.tmp 12)),
 rs 73 (.bin .add (.tmp 72) (ci 3)),
 ⟨(some 74), none, .call (.func 80) [(.tmp 71), (.tmp 73)]⟩,
 rs 13 (.move (.tmp 74))] (some [0, 1, 2, 6, 7, 8, 12, 13]))
 (.region [
 rs 75 (.fieldAddr 5 (.tmp 8)),
 rs 76 (.load none (.tmp 75)),
 rs 77 (.move (.tmp 13)),
 rs 78 (.bin .rem (.tmp 77) (ci 10)),
 rs 79 (.move (.tmp 13)),
 rs 80 (.bin .rem (.tmp 79) (ci 10)),
 rs 81 (.move (.tmp 13)),
 rs 82 (.bin .quo (.tmp 81) (ci 16)),
 rs 83 (.bin .rem (.tmp 82) (ci 4)),
 rs 84 (.bin .add (.tmp 80) (.tmp 83)),
 rs 85 (.min [(ci 11), (.tmp 84)]),
 rs 86 (.build [(.d (.int .i64 0)), (.d (.int .i64 0))] [(0, 1, (.tmp 78)), (1, 1, (.tmp 85))]),
 rs 87 (.bslice false 73 2 1 [(.int .i64 0), (.int .i64 0)] [(0, (.tmp 86))]),
 ⟨(some 88), none, .app 73 2 16 (.tmp 76) (.tmp 87)⟩,
 rs 89 (.fieldAddr 5 (.tmp 8)),
 rn (.store 1 (.tmp 89) (.tmp 88))] (some [0, 1, 2, 6, 7, 8, 12]))))
 (.region [
 rs 69 (.move (.tmp 12)),
 rs 70 (.bin .add (.tmp 69) (ci 1)),
 rs 12 (.move (.tmp 70))] (some [0, 1, 2, 6, 7, 8, 12])))))))
(.seq (.seq (.seq (.frz (8, (some 5)))
(.region [
 rs 14 (.move (ci 0))] (some [0, 1, 2, 6, 7, 8, 14])))
(.block 4 (.loop (.seq (.seq (.region [
 rs 90 (.move (.tmp 14)),
 rs 91 (.move (.tmp 1)),
 ⟨(some 92), none, .call (.func 80) [(.tmp 91), (ci 0)]⟩,
 rs 93 (.bin .quo (.tmp 92) (ci 16)),
 rs 94 (.bin .rem (.tmp 93) (ci 3)),
 rs 95 (.bin .add (ci 1) (.tmp 94)),
 rs 96 (.bin .lss (.tmp 90) (.tmp 95))] (some [0, 1, 2, 6, 7, 8, 14, 96]))
 (.cond (.tmp 96)
 .skip
 (.exit 4)))
 (.seq (.block 5 (.seq (.region [
 rs 99 (.move (.tmp 1)),
 rs 100 (.move (.tmp 14)),
 rs 101 (.bin .add (.tmp 100) (ci 5)),
 ⟨(some 102), none, .call (.func 80) [(.tmp 99), (.tmp 101)]⟩,
 rs 15 (.move (.tmp 102))] (some [0, 1, 2, 6, 7, 8, 14, 15]))
 (.region [
 rs 103 (.fieldAddr 3 (.tmp 8)),
 rs 104 (.load none (.tmp 103)),
 rs 105 (.move (.tmp 15)),
 rs 106 (.bin .rem (.tmp 105) (ci 12)),
 rs 107 (.move (.tmp 15)),
 rs 108 (.bin .rem (.tmp 107) (ci 12)),
 rs 109 (.move (.tmp 15)),
 rs 110 (.bin .quo (.tmp 109) (ci 16)),
 rs 111 (.bin .rem (.tmp 110) (ci 5)),
 rs 112 (.bin .add (.tmp 108) (.tmp 111)),
 rs 113 (.min [(ci 11), (.tmp 112)]),
 rs 114 (.move (.tmp 15)),
 rs 115 (.bin .quo (.tmp 114) (ci 128)),
 rs 116 (.bin .rem (.tmp 115) (ci 51)),
 rs 117 (.build [(.d (.int .i64 0)), (.d (.int .i64 0)), (.d (.int .i64 0))] [(0, 1, (.tmp 106)), (1, 1, (.tmp 113)), (2, 1, (.tmp 116))]),
 rs 118 (.bslice false 52 3 1 [(.int .i64 0), (.int .i64 0), (.int .i64 0)] [(0, (.tmp 117))]),
 ⟨(some 119), none, .app 52 3 24 (.tmp 104) (.tmp 118)⟩,
 rs 120 (.fieldAddr 3 (.tmp 8)),
 rn (.store 1 (.tmp 120) (.tmp 119))] (some [0, 1, 2, 6, 7, 8, 14]))))
 (.region [
 rs 97 (.move (.tmp 14)),
 rs 98 (.bin .add (.tmp 97) (ci 1)),
 rs 14 (.move (.tmp 98))] (some [0, 1, 2, 6, 7, 8, 14])))))))
(.seq (.seq (.frz (8, (some 3)))
(.region [
 rs 16 (.alloc [(.d .nils), (.d .nils)])] (some [0, 1, 2, 6, 7, 8, 16])))
(.seq (.seq (.region [
 rs 17 (.move (ci 0))] (some [0, 1, 2, 6, 7, 8, 16, 17]))
(.block 6 (.loop (.seq (.seq (.region [
 rs 121 (.move (.tmp 17)),
 rs 122 (.move (.tmp 2)),
 rs 123 (.conv .i64 (.tmp 122)),
 rs 124 (.bin .rem (.tmp 123) (ci 5)),
 rs 125 (.bin .lss (.tmp 121) (.tmp 124)),
 rs 126 (.move (.tmp 125)),
 rg 127 126 true (.move (.tmp 0)),
 rg 128 126 true (.len (.tmp 127)),
 rg 129 126 true (.bin .gtr (.tmp 128) (ci 1)),
 rs 130 (.pick (.tmp 126) (.tmp 129) (.const (.bool false)))] (some [0, 1, 2, 6, 7, 8, 16, 17, 130]))
 (.cond (.tmp 130)
 .skip
 (.exit 6)))
 (.seq (.block 7 (.seq (.region [
 rs 133 (.move (.tmp 1)),
 rs 134 (.move (.tmp 17)),
 rs 135 (.bin .mul (ci 2) (.tmp 134)),
 rs 136 (.bin .add (.tmp 135) (ci 8)),
 ⟨(some 137), none, .call (.func 80) [(.tmp 133), (.tmp 136)]⟩,
 rs 138 (.move (.tmp 1)),
 rs 139 (.move (.tmp 17)),
 rs 140 (.bin .mul (ci 2) (.tmp 139)),
 rs 141 (.bin .add (.tmp 140) (ci 9)),
 ⟨(some 142), none, .call (.func 80) [(.tmp 138), (.tmp 141)]⟩,
 rs 18 (.move (.tmp 137)),
 rs 19 (.move (.tmp 142))] (some [0, 1, 2, 6, 7, 8, 16, 17, 18, 19]))
 (.seq (.region [
 rs 143 (.move (.tmp 18)),
 rs 144 (.move (.tmp 0)),
 rs 145 (.len (.tmp 144)),
 rs 146 (.bin .rem (.tmp 143) (.tmp 145)),
 rs 147 (.move (.tmp 18)),
 rs 148 (.bin .quo (.tmp 147) (ci 4)),
 rs 149 (.bin .rem (.tmp 148) (ci 20)),
 rs 150 (.bin .add (ci 1) (.tmp 149)),
 rs 151 (.build [(.d (.int .i64 0)), (.d (.int .i64 0)), (.d (.int .i64 0)), (.d (.int .i64 0)), (.d (.int .i64 0)), (.d (.int .i64 0)), (.d (.int .i64 0))] [(0, 1, (.tmp 146)), (2, 1, (.tmp 150))]),
 rs 20 (.alloc [(.d (.int .i64 0)), (.d (.int .i64 0)), (.d (.int .i64 0)), (.d (.int .i64 0)), (.d (.int .i64 0)), (.d (.int .i64 0)), (.d (.int .i64 0))]),
 rn (.store 7 (.tmp 20) (.tmp 151))] (some [0, 1, 2, 6, 7, 8, 16, 17, 18, 19, 20]))
 (.seq (.region [
 rs 152 (.fieldAddr 0 (.tmp 20)),
 rs 153 (.load none (.tmp 152)),
 rs 154 (.bin .add (.tmp 153) (ci 1)),
 rs 155 (.move (.tmp 18)),
 rs 156 (.bin .quo (.tmp 155) (ci 128)),
 rs 157 (.move (.tmp 0)),
 rs 158 (.len (.tmp 157)),
 rs 159 (.bin .sub (.tmp 158) (ci 1)),
 rs 160 (.bin .rem (.tmp 156) (.tmp 159)),
 rs 161 (.bin .add (.tmp 154) (.tmp 160)),
 rs 162 (.move (.tmp 0)),
 rs 163 (.len (.tmp 162)),
 rs 164 (.bin .rem (.tmp 161) (.tmp 163)),
 rs 165 (.fieldAddr 1 (.tmp 20)),
 rn (.store 1 (.tmp 165) (.tmp 164))] (some [0, 1, 2, 6, 7, 8, 16, 17, 19, 20]))
 (.seq (.region [
 rs 166 (.move (.tmp 19)),
 rs 167 (.bin .rem (.tmp 166) (ci 12)),
 rs 21 (.move (.tmp 167))] (some [0, 1, 2, 6, 7, 8, 16, 17, 19, 20, 21]))
 (.seq (.region [
 rs 168 (.move (.tmp 21)),
 rs 169 (.move (.tmp 19)),
 rs 170 (.bin .quo (.tmp 169) (ci 16)),
 rs 171 (.bin .rem (.tmp 170) (ci 4)),
 rs 172 (.bin .add (.tmp 168) (.tmp 171)),
 rs 173 (.min [(ci 11), (.tmp 172)]),
 rs 22 (.move (.tmp 173))] (some [0, 1, 2, 6, 7, 8, 16, 17, 19, 20, 21, 22]))
 (.seq (.region [
 rs 174 (.move (.tmp 21)),
 rs 175 (.move (.tmp 19)),
 rs 176 (.bin .quo (.tmp 175) (ci 64)),
 rs 177 (.bin .rem (.tmp 176) (ci 2)),
 rs 178 (.bin .sub (.tmp 174) (.tmp 177)),
 rs 179 (.max [(ci 0), (.tmp 178)]),
 rs 180 (.move (.tmp 21)),
 rs 181 (.move (.tmp 19)),
 rs 182 (.bin .quo (.tmp 181) (ci 128)),
 rs 183 (.bin .rem (.tmp 182) (ci 2)),
 rs 184 (.bin .add (.tmp 180) (.tmp 183)),
 rs 185 (.min [(ci 11), (.tmp 184)]),
 rs 186 (.build [(.d (.int .i64 0)), (.d (.int .i64 0))] [(0, 1, (.tmp 179)), (1, 1, (.tmp 185))]),
 rs 187 (.fieldAddr 3 (.tmp 20)),
 rn (.store 2 (.tmp 187) (.tmp 186))] (some [0, 1, 2, 6, 7, 8, 16, 17, 19, 20, 21, 22]))
 (.seq (.region [
 rs 188 (.move (.tmp 22)),
 rs 189 (.move (.tmp 19)),
 rs 190 (.bin .quo (.tmp 189) (ci 256)),
 rs 191 (.bin .rem (.tmp 190) (ci 2)),
 rs 192 (.bin .sub (.tmp 188) (.tmp 191)),
 rs 193 (.max [(ci 0), (.tmp 192)]),
 rs 194 (.move (.tmp 22)),
 rs 195 (.move (.tmp 19)),
 rs 196 (.bin .quo (.tmp 195) (ci 512)),
 rs 197 (.bin .rem (.tmp 196) (ci 2)),
 rs 198 (.bin .add (.tmp 194) (.tmp 197)),
 rs 199 (.min [(ci 11), (.tmp 198)]),
 rs 200 (.build [(.d (.int .i64 0)), (.d (.int .i64 0))] [(0, 1, (.tmp 193)), (1, 1, (.tmp 199))]),
 rs 201 (.fieldAddr 5 (.tmp 20)),
 rn (.store 2 (.tmp 201) (.tmp 200))] (some [0, 1, 2, 6, 7, 8, 16, 17, 20, 21, 22]))
 (.seq (.region [
 rs 202 (.load (some 6) (.tmp 8)),
 rs 23 (.alloc [(.d (.int .i64 0)), (.d .nils), (.d .nils), (.d .nils), (.d .nils), (.d .nils)]),
 rn (.store 6 (.tmp 23) (.tmp 202))] (some [0, 1, 2, 6, 7, 8, 16, 17, 20, 21, 22, 23]))
 (.seq (.seq (.region [
 rs 204 (.fieldAddr 2 (.tmp 8)),
 rs 205 (.load none (.tmp 204))] none)
 (.both (.seq (.region [
 rs 203 (.bslice true 99 7 0 [] [])] none)
 (.both (.region [
 ⟨(some 206), none, .app 99 7 56 (.tmp 203) (.tmp 205)⟩,
 rs 207 (.load (some 7) (.tmp 20)),
 rs 208 (.bslice false 99 7 1 [(.int .i64 0), (.int .i64 0), (.int .i64 0), (.int .i64 0), (.int .i64 0), (.int .i64 0), (.int .i64 0)] [(0, (.tmp 207))]),
 ⟨(some 209), none, .app 99 7 56 (.tmp 206) (.tmp 208)⟩,
 rs 210 (.fieldAddr 2 (.tmp 23)),
 rn (.store 1 (.tmp 210) (.tmp 209))] (some [0, 1, 2, 6, 7, 8, 16, 17, 21, 22, 23]))
 (.region [
 rs 207 (.load (some 7) (.tmp 20)),
 rs 208 (.bslice false 99 7 1 [(.int .i64 0), (.int .i64 0), (.int .i64 0), (.int .i64 0), (.int .i64 0), (.int .i64 0), (.int .i64 0)] [(0, (.tmp 207))]),
 ⟨(some 206), none, .app 99 7 56 (.tmp 203) (.tmp 205)⟩,
 ⟨(some 209), none, .app 99 7 56 (.tmp 206) (.tmp 208)⟩,
 rs 210 (.fieldAddr 2 (.tmp 23)),
 rn (.store 1 (.tmp 210) (.tmp 209))] (some [0, 1, 2, 6, 7, 8, 16, 17, 21, 22, 23]))))
 (.region [
 rs 207 (.load (some 7) (.tmp 20)),
 rs 208 (.bslice false 99 7 1 [(.int .i64 0), (.int .i64 0), (.int .i64 0), (.int .i64 0), (.int .i64 0), (.int .i64 0), (.int .i64 0)] [(0, (.tmp 207))]),
 rs 203 (.bslice true 99 7 0 [] []),
 ⟨(some 206), none, .app 99 7 56 (.tmp 203) (.tmp 205)⟩,
 ⟨(some 209), none, .app 99 7 56 (.tmp 206) (.tmp 208)⟩,
 rs 210 (.fieldAddr 2 (.tmp 23)),
 rn (.store 1 (.tmp 210) (.tmp 209))] (some [0, 1, 2, 6, 7, 8, 16, 17, 21, 22, 23]))))
 (.seq (.seq (.frz (23, (some 2)))
 (.seq (.region [
 rs 211 (.fieldAddr 0 (.tmp 16)),
 rs 212 (.load none (.tmp 211)),
 rs 214 (.move (.tmp 21)),
 rs 215 (.bslice false 3 1 1 [(.int .i64 0)] [(0, (.tmp 214))]),
 rs 217 (.fieldAddr 1 (.tmp 16)),
 rs 220 (.move (.tmp 22)),
 rs 221 (.bslice false 3 1 1 [(.int .i64 0)] [(0, (.tmp 220))])] none)
 (.both (.seq (.region [
 ⟨(some 213), none, .callx (.func 56) [(.tmp 212)]⟩] none)
 (.both (.seq (.region [
 ⟨(some 216), none, .app 3 1 8 (.tmp 213) (.tmp 215)⟩,
 rs 218 (.load none (.tmp 217))] none)
 (.both (.seq (.region [
 ⟨(some 219), none, .callx (.func 56) [(.tmp 218)]⟩] none)
 (.both (.region [
 ⟨(some 222), none, .app 3 1 8 (.tmp 219) (.tmp 221)⟩,
 rs 223 (.build [(.d .nils), (.d .nils)] [(0, 1, (.tmp 216)), (1, 1, (.tmp 222))]),
 rs 24 (.alloc [(.d .nils), (.d .nils)]),
 rn (.store 2 (.tmp 24) (.tmp 223))] (some [0, 1, 2, 6, 7, 8, 16, 17, 23, 24]))
 (.region [
 rs 24 (.alloc [(.d .nils), (.d .nils)]),
 ⟨(some 222), none, .app 3 1 8 (.tmp 219) (.tmp 221)⟩,
 rs 223 (.build [(.d .nils), (.d .nils)] [(0, 1, (.tmp 216)), (1, 1, (.tmp 222))]),
 rn (.store 2 (.tmp 24) (.tmp 223))] (some [0, 1, 2, 6, 7, 8, 16, 17, 23, 24]))))
 (.region [
 rs 24 (.alloc [(.d .nils), (.d .nils)]),
 ⟨(some 219), none, .callx (.func 56) [(.tmp 218)]⟩,
 ⟨(some 222), none, .app 3 1 8 (.tmp 219) (.tmp 221)⟩,
 rs 223 (.build [(.d .nils), (.d .nils)] [(0, 1, (.tmp 216)), (1, 1, (.tmp 222))]),
 rn (.store 2 (.tmp 24) (.tmp 223))] (some [0, 1, 2, 6, 7, 8, 16, 17, 23, 24]))))
 (.seq (.region [
 ] none)
 (.both (.seq (.region [
 rs 218 (.load none (.tmp 217))] none)
 (.both (.seq (.region [
 ⟨(some 216), none, .app 3 1 8 (.tmp 213) (.tmp 215)⟩] none)
 (.both (.seq (.region [
 ⟨(some 219), none, .callx (.func 56) [(.tmp 218)]⟩] none)
 (.both (.region [
 ⟨(some 222), none, .app 3 1 8 (.tmp 219) (.tmp 221)⟩,
 rs 223 (.build [(.d .nils), (.d .nils)] [(0, 1, (.tmp 216)), (1, 1, (.tmp 222))]),
 rs 24 (.alloc [(.d .nils), (.d .nils)]),
 rn (.store 2 (.tmp 24) (.tmp 223))] (some [0, 1, 2, 6, 7, 8, 16, 17, 23, 24]))
 (.region [
 rs 24 (.alloc [(.d .nils), (.d .nils)]),
 ⟨(some 222), none, .app 3 1 8 (.tmp 219) (.tmp 221)⟩,
 rs 223 (.build [(.d .nils), (.d .nils)] [(0, 1, (.tmp 216)), (1, 1, (.tmp 222))]),
 rn (.store 2 (.tmp 24) (.tmp 223))] (some [0, 1, 2, 6, 7, 8, 16, 17, 23, 24]))))
 (.region [
 rs 24 (.alloc [(.d .nils), (.d .nils)]),
 ⟨(some 219), none, .callx (.func 56) [(.tmp 218)]⟩,
 ⟨(some 222), none, .app 3 1 8 (.tmp 219) (.tmp 221)⟩,
 rs 223 (.build [(.d .nils), (.d .nils)] [(0, 1, (.tmp 216)), (1, 1, (.tmp 222))]),
 rn (.store 2 (.tmp 24) (.tmp 223))] (some [0, 1, 2, 6, 7, 8, 16, 17, 23, 24]))))
 (.region [
 rs 24 (.alloc [(.d .nils), (.d .nils)]),
 ⟨(some 216), none, .app 3 1 8 (.tmp 213) (.tmp 215)⟩,
 ⟨(some 219), none, .callx (.func 56) [(.tmp 218)]⟩,
 ⟨(some 222), none, .app 3 1 8 (.tmp 219) (.tmp 221)⟩,
 rs 223 (.build [(.d .nils), (.d .nils)] [(0, 1, (.tmp 216)), (1, 1, (.tmp 222))]),
 rn (.store 2 (.tmp 24) (.tmp 223))] (some [0, 1, 2, 6, 7, 8, 16, 17, 23, 24]))))
 (.seq (.region [
 rs 24 (.alloc [(.d .nils), (.d .nils)])] none)
 (.both (.region [
 ⟨(some 216), none, .app 3 1 8 (.tmp 213) (.tmp 215)⟩,
 rs 218 (.load none (.tmp 217)),
 ⟨(some 219), none, .callx (.func 56) [(.tmp 218)]⟩,
 ⟨(some 222), none, .app 3 1 8 (.tmp 219) (.tmp 221)⟩,
 rs 223 (.build [(.d .nils), (.d .nils)] [(0, 1, (.tmp 216)), (1, 1, (.tmp 222))]),
 rn (.store 2 (.tmp 24) (.tmp 223))] (some [0, 1, 2, 6, 7, 8, 16, 17, 23, 24]))
 (.region [
 rs 218 (.load none (.tmp 217)),
 ⟨(some 216), none, .app 3 1 8 (.tmp 213) (.tmp 215)⟩,
 ⟨(some 219), none, .callx (.func 56) [(.tmp 218)]⟩,
 ⟨(some 222), none, .app 3 1 8 (.tmp 219) (.tmp 221)⟩,
 rs 223 (.build [(.d .nils), (.d .nils)] [(0, 1, (.tmp 216)), (1, 1, (.tmp 222))]),
 rn (.store 2 (.tmp 24) (.tmp 223))] (some [0, 1, 2, 6, 7, 8, 16, 17, 23, 24]))))))))
 (.seq (.region [
 ] none)
 (.both (.seq (.region [
 rs 218 (.load none (.tmp 217))] none)
 (.both (.seq (.region [
 ⟨(some 213), none, .callx (.func 56) [(.tmp 212)]⟩] none)
 (.both (.seq (.region [
 ⟨(some 216), none, .app 3 1 8 (.tmp 213) (.tmp 215)⟩] none)
 (.both (.seq (.region [
 ⟨(some 219), none, .callx (.func 56) [(.tmp 218)]⟩] none)
 (.both (.region [
 ⟨(some 222), none, .app 3 1 8 (.tmp 219) (.tmp 221)⟩,
 rs 223 (.build [(.d .nils), (.d .nils)] [(0, 1, (.tmp 216)), (1, 1, (.tmp 222))]),
 rs 24 (.alloc [(.d .nils), (.d .nils)]),
 rn (.store 2 (.tmp 24) (.tmp 223))] (some [0, 1, 2, 6, 7, 8, 16, 17, 23, 24]))
 (.region [
 rs 24 (.alloc [(.d .nils), (.d .nils)]),
 ⟨(some 222), none, .app 3 1 8 (.tmp 219) (.tmp 221)⟩,
 rs 223 (.build [(.d .nils), (.d .nils)] [(0, 1, (.tmp 216)), (1, 1, (.tmp 222))]),
 rn (.store 2 (.tmp 24) (.tmp 223))] (some [0, 1, 2, 6, 7, 8, 16, 17, 23, 24]))))
 (.region [
 rs 24 (.alloc [(.d .nils), (.d .nils)]),
 ⟨(some 219), none, .callx (.func 56) [(.tmp 218)]⟩,
 ⟨(some 222), none, .app 3 1 8 (.tmp 219) (.tmp 221)⟩,
 rs 223 (.build [(.d .nils), (.d .nils)] [(0, 1, (.tmp 216)), (1, 1, (.tmp 222))]),
 rn (.store 2 (.tmp 24) (.tmp 223))] (some [0, 1, 2, 6, 7, 8, 16, 17, 23, 24]))))
 (.region [
 rs 24 (.alloc [(.d .nils), (.d .nils)]),
 ⟨(some 216), none, .app 3 1 8 (.tmp 213) (.tmp 215)⟩,
 ⟨(some 219), none, .callx (.func 56) [(.tmp 218)]⟩,
 ⟨(some 222), none, .app 3 1 8 (.tmp 219) (.tmp 221)⟩,
 rs 223 (.build [(.d .nils), (.d .nils)] [(0, 1, (.tmp 216)), (1, 1, (.tmp 222))]),
 rn (.store 2 (.tmp 24) (.tmp 223))] (some [0, 1, 2, 6, 7, 8, 16, 17, 23, 24]))))
 (.region [
 rs 24 (.alloc [(.d .nils), (.d .nils)]),
 ⟨(some 213), none, .callx (.func 56) [(.tmp 212)]⟩,
 ⟨(some 216), none, .app 3 1 8 (.tmp 213) (.tmp 215)⟩,
 ⟨(some 219), none, .callx (.func 56) [(.tmp 218)]⟩,
 ⟨(some 222), none, .app 3 1 8 (.tmp 219) (.tmp 221)⟩,
 rs 223 (.build [(.d .nils), (.d .nils)] [(0, 1, (.tmp 216)), (1, 1, (.tmp 222))]),
 rn (.store 2 (.tmp 24) (.tmp 223))] (some [0, 1, 2, 6, 7, 8, 16, 17, 23, 24]))))
 (.seq (.region [
 rs 24 (.alloc [(.d .nils), (.d .nils)])] none)
 (.both (.seq (.region [
 ⟨(some 213), none, .callx (.func 56) [(.tmp 212)]⟩] none)
 (.both (.region [
 ⟨(some 216), none, .app 3 1 8 (.tmp 213) (.tmp 215)⟩,
 rs 218 (.load none (.tmp 217)),
 ⟨(some 219), none, .callx (.func 56) [(.tmp 218)]⟩,
 ⟨(some 222), none, .app 3 1 8 (.tmp 219) (.tmp 221)⟩,
 rs 223 (.build [(.d .nils), (.d .nils)] [(0, 1, (.tmp 216)), (1, 1, (.tmp 222))]),
 rn (.store 2 (.tmp 24) (.tmp 223))] (some [0, 1, 2, 6, 7, 8, 16, 17, 23, 24]))
 (.region [
 rs 218 (.load none (.tmp 217)),
 ⟨(some 216), none, .app 3 1 8 (.tmp 213) (.tmp 215)⟩,
 ⟨(some 219), none, .callx (.func 56) [(.tmp 218)]⟩,
 ⟨(some 222), none, .app 3 1 8 (.tmp 219) (.tmp 221)⟩,
 rs 223 (.build [(.d .nils), (.d .nils)] [(0, 1, (.tmp 216)), (1, 1, (.tmp 222))]),
 rn (.store 2 (.tmp 24) (.tmp 223))] (some [0, 1, 2, 6, 7, 8, 16, 17, 23, 24]))))
 (.region [
 rs 218 (.load none (.tmp 217)),
 ⟨(some 213), none, .callx (.func 56) [(.tmp 212)]⟩,
 ⟨(some 216), none, .app 3 1 8 (.tmp 213) (.tmp 215)⟩,
 ⟨(some 219), none, .callx (.func 56) [(.tmp 218)]⟩,
 ⟨(some 222), none, .app 3 1 8 (.tmp 219) (.tmp 221)⟩,
 rs 223 (.build [(.d .nils), (.d .nils)] [(0, 1, (.tmp 216)), (1, 1, (.tmp 222))]),
 rn (.store 2 (.tmp 24) (.tmp 223))] (some [0, 1, 2, 6, 7, 8, 16, 17, 23, 24])))))))))
 (.seq (.seq (.frz (24, (some 0)))
 (.seq (.frz (24, (some 1)))
 (.region [
 rs 224 (.load (some 6) (.tmp 23)),
 rs 225 (.load (some 2) (.tmp 24)),
 ⟨(some 226), none, .call (.func 44) [(.tmp 224), (.tmp 225)]⟩] (some [0, 1, 2, 6, 7, 8, 16, 17, 23, 24, 226]))))
 (.cond (.tmp 226)
 (.seq (.region [
 rs 227 (.load (some 6) (.tmp 23))] none)
 (.both (.region [
 rs 228 (.load (some 2) (.tmp 24)),
 rn (.store 6 (.tmp 8) (.tmp 227)),
 rn (.store 2 (.tmp 16) (.tmp 228))] (some [0, 1, 2, 6, 7, 8, 16, 17]))
 (.region [
 rn (.store 6 (.tmp 8) (.tmp 227)),
 rs 228 (.load (some 2) (.tmp 24)),
 rn (.store 2 (.tmp 16) (.tmp 228))] (some [0, 1, 2, 6, 7, 8, 16, 17]))))
 .skip)))))))))))))
 (.region [
 rs 131 (.move (.tmp 17)),
 rs 132 (.bin .add (.tmp 131) (ci 1)),
 rs 17 (.move (.tmp 132))] (some [0, 1, 2, 6, 7, 8, 16, 17])))))))
(.seq (.seq (.region [
 rs 229 (.load (some 6) (.tmp 8))] none)
(.both (.region [
 rs 230 (.load (some 2) (.tmp 16)),
 rn (.store 6 (.tmp 6) (.tmp 229)),
 rn (.store 2 (.tmp 7) (.tmp 230))] (some [6, 7]))
 (.region [
 rn (.store 6 (.tmp 6) (.tmp 229)),
 rs 230 (.load (some 2) (.tmp 16)),
 rn (.store 2 (.tmp 7) (.tmp 230))] (some [6, 7]))))
.ret)))))))))
theorem k41 : Try.f41.body.bind (compC Try.prog G41) = some c41 := by kernel_rfl
theorem e41 : compRes Try.prog Try.f41.results.toList = some r41 := by kernel_rfl
def G40 : Cfg := ⟨[], [(0, [0]), (1, [2])], 14, []⟩
def r40 : List CRes := [.tmp 2]
def c40 : CCode :=
(.seq (.region [
 rs 2 (.move (.const (.bool false)))] (some [0]))
(.seq (.region [
 rs 3 (.move (.tmp 0)),
 rs 4 (.len (.tmp 3)),
 rs 5 (.bin .leq (.tmp 4) (ci 7)),
 rs 6 (.move (.tmp 5)),
 rg 7 6 true (.move (.tmp 0)),
 rg 8 6 true (.len (.tmp 7)),
 rg 9 6 true (.move (.tmp 0)),
 rg 10 6 true (.build [(.d (.int .i64 0)), (.d .nils), (.d .nils), (.d .nils), (.d .nils), (.d .nils)] [(0, 1, (.tmp 8)), (1, 1, (.tmp 9))]),
 ⟨(some 11), (some (6, true)), .call (.func 34) [(.tmp 10)]⟩,
 rg 12 6 true (.bin .eql (.tmp 11) (ci 0)),
 rs 13 (.pick (.tmp 6) (.tmp 12) (.const (.bool false))),
 rs 2 (.move (.tmp 13))] (some [2]))
.ret))
theorem k40 : Try.f40.body.bind (compC Try.prog G40) = some c40 := by kernel_rfl
theorem e40 : compRes Try.prog Try.f40.results.toList = some r40 := by kernel_rfl
def G80 : Cfg := ⟨[], [(0, [0, 1]), (1, [0, 1, 7]), (2, [4]), (3, [4])], 16, []⟩
def r80 : List CRes := [.tmp 4]
def c80 : CCode :=
(.seq (.region [
 rs 4 (.move (ci 0))] (some [0, 1]))
(.seq (.seq (.region [
 rs 5 (.move (.tmp 0)),
 rs 6 (.len (.tmp 5)),
 rs 7 (.bin .eql (.tmp 6) (ci 0))] (some [0, 1, 7]))
(.cond (.tmp 7)
 (.seq (.region [
 rs 4 (.move (ci 0))] (some [4]))
 .ret)
 .skip))
(.seq (.region [
 rs 8 (.move (.tmp 0)),
 rs 9 (.move (.tmp 1)),
 rs 10 (.move (.tmp 0)),
 rs 11 (.len (.tmp 10)),
 rs 12 (.bin .rem (.tmp 9) (.tmp 11)),
 rs 13 (.indexS 1 (.tmp 8) (.tmp 12)),
 rs 14 (.load none (.tmp 13)),
 rs 15 (.conv .i64 (.tmp 14)),
 rs 4 (.move (.tmp 15))] (some [4]))
.ret)))
theorem k80 : Try.f80.body.bind (compC Try.prog G80) = some c80 := by kernel_rfl
theorem e80 : compRes Try.prog Try.f80.results.toList = some r80 := by kernel_rfl
def G45 : Cfg := ⟨[], [(0, [0]), (1, [0, 3]), (2, [0, 3, 4]), (3, [0, 3, 4, 8]), (5, [0, 3, 4]), (4, [0, 3, 4]), (6, [2])], 18, []⟩
def r45 : List CRes := [.tmp 2]
def c45 : CCode :=
(.seq (.region [
 rs 2 (.move (ci 0))] (some [0]))
(.seq (.region [
 rs 3 (.move (ci 0))] (some [0, 3]))
(.seq (.seq (.region [
 rs 4 (.move (ci 0))] (some [0, 3, 4]))
(.block 0 (.loop (.seq (.seq (.region [
 rs 5 (.move (.tmp 4)),
 rs 6 (.move (.tmp 0)),
 rs 7 (.len (.tmp 6)),
 rs 8 (.bin .lss (.tmp 5) (.tmp 7))] (some [0, 3, 4, 8]))
 (.cond (.tmp 8)
 .skip
 (.exit 0)))
 (.seq (.block 1 (.region [
 rs 11 (.move (.tmp 3)),
 rs 12 (.move (.tmp 0)),
 rs 13 (.move (.tmp 4)),
 rs 14 (.indexS 1 (.tmp 12) (.tmp 13)),
 rs 15 (.load none (.tmp 14)),
 rs 16 (.bin .add (.tmp 11) (.tmp 15)),
 rs 3 (.move (.tmp 16))] (some [0, 3, 4])))
 (.region [
 rs 9 (.move (.tmp 4)),
 rs 10 (.bin .add (.tmp 9) (ci 1)),
 rs 4 (.move (.tmp 10))] (some [0, 3, 4])))))))
(.seq (.region [
 rs 17 (.move (.tmp 3)),
 rs 2 (.move (.tmp 17))] (some [2]))
.ret))))
theorem k45 : Try.f45.body.bind (compC Try.prog G45) = some c45 := by kernel_rfl
theorem e45 : compRes Try.prog Try.f45.results.toList = some r45 := by kernel_rfl
def G46 : Cfg := ⟨[], [(0, [1, 2]), (1, [1, 2, 5]), (2, [1, 2, 5, 6]), (3, [1, 2, 5, 6, 11]), (5, [1, 2, 5, 6]), (4, [1, 2, 5, 6]), (6, [4])], 25, []⟩
def r46 : List CRes := [.tmp 4]
def c46 : CCode :=
(.seq (.region [
 rs 2 (.box false (.tmp 0)),
 rs 4 (.move (ci 0))] (some [1, 2]))
(.seq (.region [
 rs 5 (.move (ci 0))] (some [1, 2, 5]))
(.seq (.seq (.region [
 rs 6 (.move (ci 0))] (some [1, 2, 5, 6]))
(.block 0 (.loop (.seq (.seq (.region [
 rs 7 (.move (.tmp 6)),
 rs 8 (.fieldAddr 1 (.tmp 2)),
 rs 9 (.load none (.tmp 8)),
 rs 10 (.len (.tmp 9)),
 rs 11 (.bin .lss (.tmp 7) (.tmp 10))] (some [1, 2, 5, 6, 11]))
 (.cond (.tmp 11)
 .skip
 (.exit 0)))
 (.seq (.block 1 (.region [
 rs 14 (.move (.tmp 5)),
 rs 15 (.load (some 6) (.tmp 2)),
 rs 16 (.fieldAddr 1 (.tmp 2)),
 rs 17 (.load none (.tmp 16)),
 rs 18 (.move (.tmp 6)),
 rs 19 (.indexS 1 (.tmp 17) (.tmp 18)),
 rs 20 (.load none (.tmp 19)),
 rs 21 (.move (.tmp 1)),
 ⟨(some 22), none, .callx (.func 63) [(.tmp 15), (.tmp 20), (ci (-1)), (.tmp 21)]⟩,
 rs 23 (.bin .add (.tmp 14) (.tmp 22)),
 rs 5 (.move (.tmp 23))] (some [1, 2, 5, 6])))
 (.region [
 rs 12 (.move (.tmp 6)),
 rs 13 (.bin .add (.tmp 12) (ci 1)),
 rs 6 (.move (.tmp 13))] (some [1, 2, 5, 6])))))))
(.seq (.region [
 rs 24 (.move (.tmp 5)),
 rs 4 (.move (.tmp 24))] (some [4]))
.ret))))
theorem k46 : Try.f46.body.bind (compC Try.prog G46) = some c46 := by kernel_rfl
theorem e46 : compRes Try.prog Try.f46.results.toList = some r46 := by kernel_rfl
def c11 : CCode :=
(.seq (.region [
 rs 8 (.move (.const (.bool false)))] (some [0, 1, 2, 3]))
(.seq (.seq (.region [
 rs 23 (.move (.tmp 0)),
 ⟨(some 24), none, .call (.func 40) [(.tmp 23)]⟩,
 rs 25 (.un .not (.tmp 24))] (some [0, 1, 2, 3, 25]))
(.cond (.tmp 25)
 (.seq (.region [
 ⟨(some 26), none, .call (.func 18) []⟩,
 rs 8 (.move (.tmp 26))] (some [8]))
 .ret)
 .skip))
(.seq (.region [
 rs 28 (.move (.tmp 0)),
 rs 29 (.move (.tmp 1)),
 rs 30 (.move (.tmp 2)),
 ⟨(some 31), none, .call (.func 41) [(.tmp 28), (.tmp 29), (.tmp 30)]⟩,
 rs 27 (.move (.tmp 31)),
 rs 32 (.extract (.tmp 27) 0),
 rs 33 (.extract (.tmp 27) 1),
 rs 9 (.alloc [(.d (.int .i64 0)), (.d .nils), (.d .nils), (.d .nils), (.d .nils), (.d .nils)]),
 rs 10 (.alloc [(.d .nils), (.d .nils)]),
 rn (.store 6 (.tmp 9) (.tmp 32)),
 rn (.store 2 (.tmp 10) (.tmp 33))] (some [3, 9, 10]))
(.seq (.region [
 rs 34 (.move (.tmp 3)),
 rs 35 (.conv .i64 (.tmp 34)),
 rs 36 (.fieldAddr 3 (.tmp 9)),
 rs 37 (.load none (.tmp 36)),
 rs 38 (.len (.tmp 37)),
 rs 39 (.bin .rem (.tmp 35) (.tmp 38)),
 rs 11 (.move (.tmp 39))] (some [9, 10, 11]))
(.seq (.region [
 rs 40 (.fieldAddr 3 (.tmp 9)),
 rs 41 (.load none (.tmp 40)),
 rs 42 (.move (.tmp 11)),
 rs 43 (.indexS 3 (.tmp 41) (.tmp 42)),
 rs 44 (.load (some 3) (.tmp 43)),
 rs 12 (.alloc [(.d (.int .i64 0)), (.d (.int .i64 0)), (.d (.int .i64 0))]),
 rn (.store 3 (.tmp 12) (.tmp 44))] (some [9, 10, 11, 12]))
(.seq (.region [
 rs 13 (.move (.const (.bool true))),
 rs 14 (.move (.const (.bool true)))] (some [9, 10, 11, 12, 13, 14]))
(.seq (.seq (.region [
 rs 15 (.move (ci 0))] (some [9, 10, 11, 12, 13, 14, 15]))
(.block 0 (.loop (.seq (.seq (.region [
 rs 45 (.move (.tmp 15)),
 rs 46 (.fieldAddr 2 (.tmp 9)),
 rs 47 (.load none (.tmp 46)),
 rs 48 (.len (.tmp 47)),
 rs 49 (.bin .lss (.tmp 45) (.tmp 48))] (some [9, 10, 11, 12, 13, 14, 15, 49]))
 (.cond (.tmp 49)
 .skip
 (.exit 0)))
 (.seq (.block 1 (.seq (.region [
 rs 52 (.move (.tmp 13)),
 rs 53 (.move (.tmp 52)),
 rg 54 53 true (.load (some 6) (.tmp 9)),
 rg 55 53 true (.fieldAddr 1 (.tmp 10)),
 rg 56 53 true (.load none (.tmp 55)),
 rg 57 53 true (.move (.tmp 15)),
 rg 58 53 true (.indexS 1 (.tmp 56) (.tmp 57)),
 rg 59 53 true (.load none (.tmp 58)),
 rg 61 53 true (.fieldAddr 0 (.tmp 12)),
 rg 62 53 true (.load none (.tmp 61)),
 rg 63 53 true (.bin .sub (.tmp 62) (ci 1)),
 ⟨(some 60), (some (53, true)), .callx (.func 49) [(.tmp 54), (.tmp 59)]⟩,
 ⟨(some 64), (some (53, true)), .call (.func 23) [(.tmp 60), (ci 0), (.tmp 63)]⟩,
 rs 65 (.pick (.tmp 53) (.tmp 64) (.const (.bool false))),
 rs 13 (.move (.tmp 65))] (some [9, 10, 11, 12, 13, 14, 15]))
 (.region [
 rs 66 (.move (.tmp 14)),
 rs 67 (.move (.tmp 66)),
 rg 68 67 true (.fieldAddr 0 (.tmp 10)),
 rg 69 67 true (.load none (.tmp 68)),
 rg 70 67 true (.move (.tmp 15)),
 rg 71 67 true (.indexS 1 (.tmp 69) (.tmp 70)),
 rg 72 67 true (.load none (.tmp 71)),
 rg 73 67 true (.fieldAddr 1 (.tmp 12)),
 rg 74 67 true (.load none (.tmp 73)),
 rg 75 67 true (.bin .gtr (.tmp 72) (.tmp 74)),
 rs 76 (.pick (.tmp 67) (.tmp 75) (.const (.bool false))),
 rs 14 (.move (.tmp 76))] (some [9, 10, 11, 12, 13, 14, 15]))))
 (.region [
 rs 50 (.move (.tmp 15)),
 rs 51 (.bin .add (.tmp 50) (ci 1)),
 rs 15 (.move (.tmp 51))] (some [9, 10, 11, 12, 13, 14, 15])))))))
(.seq (.region [
 rs 78 (.load (some 6) (.tmp 9)),
 rs 80 (.load (some 2) (.tmp 10)),
 rs 82 (.move (.tmp 11)),
 ⟨(some 79), none, .callx (.func 20) [(.tmp 78)]⟩,
 ⟨(some 81), none, .callx (.func 21) [(.tmp 80)]⟩,
 ⟨(some 83), none, .call (.func 25) [(.tmp 79), (.tmp 81), (.tmp 82)]⟩,
 rs 77 (.move (.tmp 83)),
 rs 84 (.extract (.tmp 77) 0),
 rs 85 (.extract (.tmp 77) 1),
 rs 16 (.move (.tmp 84)),
 rs 17 (.move (.tmp 85))] (some [9, 10, 11, 13, 14, 16, 17]))
(.seq (.region [
 rs 87 (.load (some 6) (.tmp 9)),
 rs 89 (.load (some 2) (.tmp 10)),
 rs 91 (.move (.tmp 11)),
 ⟨(some 88), none, .callx (.func 20) [(.tmp 87)]⟩,
 ⟨(some 90), none, .callx (.func 21) [(.tmp 89)]⟩,
 ⟨(some 92), none, .call (.func 26) [(.tmp 88), (.tmp 90), (.tmp 91)]⟩,
 rs 86 (.move (.tmp 92)),
 rs 93 (.extract (.tmp 86) 0),
 rs 94 (.extract (.tmp 86) 1),
 rs 18 (.move (.tmp 93)),
 rs 19 (.move (.tmp 94))] (some [9, 10, 11, 13, 14, 16, 17, 18, 19]))
(.seq (.region [
 rs 96 (.load (some 6) (.tmp 9)),
 rs 98 (.load (some 2) (.tmp 10)),
 rs 100 (.move (.tmp 11)),
 ⟨(some 97), none, .callx (.func 20) [(.tmp 96)]⟩,
 ⟨(some 99), none, .callx (.func 21) [(.tmp 98)]⟩,
 ⟨(some 101), none, .call (.func 27) [(.tmp 97), (.tmp 99), (.tmp 100)]⟩,
 rs 95 (.move (.tmp 101)),
 rs 102 (.extract (.tmp 95) 0),
 rs 103 (.extract (.tmp 95) 1),
 rs 20 (.move (.tmp 102)),
 rs 21 (.move (.tmp 103))] (some [9, 13, 14, 16, 17, 18, 19, 20, 21]))
(.seq (.seq (.region [
 rs 104 (.move (.tmp 17)),
 rs 105 (.bin .neq (.tmp 104) (ci 0)),
 rs 106 (.move (.tmp 105)),
 rg 107 106 false (.move (.tmp 19)),
 rg 108 106 false (.bin .neq (.tmp 107) (ci 0)),
 rs 109 (.pick (.tmp 106) (.const (.bool true)) (.tmp 108)),
 rs 110 (.move (.tmp 109)),
 rg 111 110 false (.move (.tmp 21)),
 rg 112 110 false (.bin .neq (.tmp 111) (ci 0)),
 rs 113 (.pick (.tmp 110) (.const (.bool true)) (.tmp 112)),
 rs 114 (.move (.tmp 113)),
 rg 115 114 false (.move (.tmp 18)),
 rg 116 114 false (.len (.tmp 115)),
 rg 117 114 false (.fieldAddr 2 (.tmp 9)),
 rg 118 114 false (.load none (.tmp 117)),
 rg 119 114 false (.len (.tmp 118)),
 rg 120 114 false (.bin .neq (.tmp 116) (.tmp 119)),
 rs 121 (.pick (.tmp 114) (.const (.bool true)) (.tmp 120))] (some [13, 14, 16, 18, 20, 121]))
(.cond (.tmp 121)
 (.seq (.region [
 rs 8 (.move (.const (.bool false)))] (some [8]))
 .ret)
 .skip))
(.seq (.seq (.region [
 rs 122 (.move (.tmp 13)),
 rs 123 (.un .not (.tmp 122)),
 rs 124 (.move (.tmp 123)),
 rg 125 124 true (.move (.tmp 14)),
 rg 126 124 true (.un .not (.tmp 125)),
 rs 127 (.pick (.tmp 124) (.tmp 126) (.const (.bool false)))] (some [16, 18, 20, 127]))
(.cond (.tmp 127)
 (.seq (.region [
 ⟨(some 128), none, .call (.func 18) []⟩,
 rs 8 (.move (.tmp 128))] (some [8]))
 .ret)
 .skip))
(.seq (.seq (.region [
 rs 22 (.move (ci 0))] (some [16, 18, 20, 22]))
(.block 2 (.loop (.seq (.seq (.region [
 rs 129 (.move (.tmp 22)),
 rs 130 (.move (.tmp 18)),
 rs 131 (.len (.tmp 130)),
 rs 132 (.bin .lss (.tmp 129) (.tmp 131))] (some [16, 18, 20, 22, 132]))
 (.cond (.tmp 132)
 .skip
 (.exit 2)))
 (.seq (.block 3 (.seq (.region [
 rs 135 (.move (.tmp 18)),
 rs 136 (.move (.tmp 22)),
 rs 137 (.indexS 1 (.tmp 135) (.tmp 136)),
 rs 138 (.load none (.tmp 137)),
 rs 139 (.bin .neq (.tmp 138) (ci 0))] (some [16, 18, 20, 22, 139]))
 (.cond (.tmp 139)
 (.seq (.region [
 rs 8 (.move (.const (.bool false)))] (some [8]))
 .ret)
 .skip)))
 (.region [
 rs 133 (.move (.tmp 22)),
 rs 134 (.bin .add (.tmp 133) (ci 1)),
 rs 22 (.move (.tmp 134))] (some [16, 18, 20, 22])))))))
(.seq (.region [
 rs 140 (.move (.tmp 16)),
 rs 141 (.move (.tmp 20)),
 ⟨(some 142), none, .call (.func 28) [(.tmp 140), (.tmp 141)]⟩,
 rs 143 (.move (.tmp 142)),
 ⟨(some 144), (some (143, true)), .call (.func 18) []⟩,
 rs 145 (.pick (.tmp 143) (.tmp 144) (.const (.bool false))),
 rs 8 (.move (.tmp 145))] (some [8]))
.ret))))))))))))))
def G9 : Cfg := ⟨[13, 14, 17, 28], [(0, [0, 1, 2, 3, 4, 5]), (1, [0, 1, 2, 3, 4, 5, 36]), (2, [12]), (3, [0, 3, 4, 5, 13, 14]), (4, [0, 3, 5, 13, 14, 15]), (5, [0, 5, 13, 14, 15, 16]), (6, [0, 5, 13, 14, 15, 16, 17]), (7, [0, 5, 13, 14, 15, 16, 17, 18, 19, 20]), (8, [0, 5, 13, 14, 15, 16, 17, 18, 19, 20, 21, 22, 23]), (9, [0, 5, 13, 14, 15, 16, 17, 18, 19, 20, 21, 22, 23, 24, 25]), (10, [5, 13, 14, 15, 16, 17, 18, 19, 20, 21, 22, 23, 24, 25, 26]), (11, [5, 13, 14, 15, 16, 17, 18, 19, 21, 22, 24, 26, 130]), (12, [12]), (13, [5, 13, 14, 15, 16, 17, 18, 19, 21, 22, 24, 26, 27]), (14, [5, 13, 14, 15, 16, 17, 18, 19, 21, 22, 24, 26, 27, 133]), (16, [5, 13, 14, 15, 16, 17, 18, 19, 21, 22, 24, 26, 27, 181]), (17, [12]), (15, [5, 13, 14, 15, 16, 17, 18, 19, 21, 22, 24, 26, 27]), (18, [5, 13, 14, 15, 16, 191]), (19, [12]), (20, [5, 13, 14, 15, 16, 28]), (21, [13, 14, 15, 16, 28, 29]), (22, [13, 14, 15, 16, 28, 29, 200]), (23, [13, 14, 16, 28]), (24, [14, 16, 28, 30, 31]), (25, [30, 31, 32, 33]), (26, [12])], 239, []⟩
def r9 : List CRes := [.tmp 12]
def c9 : CCode :=
(.seq (.region [
 rs 12 (.move (.const (.bool false)))] (some [0, 1, 2, 3, 4, 5]))
(.seq (.seq (.region [
 rs 34 (.move (.tmp 0)),
 ⟨(some 35), none, .call (.func 40) [(.tmp 34)]⟩,
 rs 36 (.un .not (.tmp 35))] (some [0, 1, 2, 3, 4, 5, 36]))
(.cond (.tmp 36)
 (.seq (.region [
 ⟨(some 37), none, .call (.func 18) []⟩,
 rs 12 (.move (.tmp 37))] (some [12]))
 .ret)
 .skip))
(.seq (.region [
 rs 39 (.move (.tmp 0)),
 rs 40 (.move (.tmp 1)),
 rs 41 (.move (.tmp 2)),
 ⟨(some 42), none, .call (.func 41) [(.tmp 39), (.tmp 40), (.tmp 41)]⟩,
 rs 38 (.move (.tmp 42)),
 rs 43 (.extract (.tmp 38) 0),
 rs 44 (.extract (.tmp 38) 1),
 rs 13 (.alloc [(.d (.int .i64 0)), (.d .nils), (.d .nils), (.d .nils), (.d .nils), (.d .nils)]),
 rs 14 (.alloc [(.d .nils), (.d .nils)]),
 rn (.store 6 (.tmp 13) (.tmp 43)),
 rn (.store 2 (.tmp 14) (.tmp 44))] (some [0, 3, 4, 5, 13, 14]))
(.seq (.region [
 rs 45 (.move (.tmp 4)),
 rs 46 (.conv .i64 (.tmp 45)),
 rs 47 (.bin .rem (.tmp 46) (ci 12)),
 rs 15 (.move (.tmp 47))] (some [0, 3, 5, 13, 14, 15]))
(.seq (.region [
 rs 48 (.move (.tmp 3)),
 rs 49 (.conv .i64 (.tmp 48)),
 rs 50 (.fieldAddr 3 (.tmp 13)),
 rs 51 (.load none (.tmp 50)),
 rs 52 (.len (.tmp 51)),
 rs 53 (.bin .rem (.tmp 49) (.tmp 52)),
 rs 16 (.move (.tmp 53))] (some [0, 5, 13, 14, 15, 16]))
(.seq (.region [
 rs 54 (.fieldAddr 3 (.tmp 13)),
 rs 55 (.load none (.tmp 54)),
 rs 56 (.move (.tmp 16)),
 rs 57 (.indexS 3 (.tmp 55) (.tmp 56)),
 rs 58 (.load (some 3) (.tmp 57)),
 rs 17 (.alloc [(.d (.int .i64 0)), (.d (.int .i64 0)), (.d (.int .i64 0))]),
 rn (.store 3 (.tmp 17) (.tmp 58))] (some [0, 5, 13, 14, 15, 16, 17]))
(.seq (.region [
 rs 60 (.load (some 6) (.tmp 13)),
 rs 62 (.load (some 2) (.tmp 14)),
 rs 64 (.move (.tmp 15)),
 ⟨(some 61), none, .callx (.func 20) [(.tmp 60)]⟩,
 ⟨(some 63), none, .callx (.func 21) [(.tmp 62)]⟩,
 ⟨(some 65), none, .call (.func 19) [(.tmp 61), (.tmp 63), (.tmp 64)]⟩,
 rs 59 (.move (.tmp 65)),
 rs 66 (.extract (.tmp 59) 0),
 rs 67 (.extract (.tmp 59) 1),
 rs 68 (.extract (.tmp 59) 2),
 rs 18 (.move (.tmp 66)),
 rs 19 (.move (.tmp 67)),
 rs 20 (.move (.tmp 68))] (some [0, 5, 13, 14, 15, 16, 17, 18, 19, 20]))
(.seq (.region [
 rs 70 (.load (some 6) (.tmp 13)),
 rs 72 (.load (some 2) (.tmp 14)),
 rs 74 (.fieldAddr 1 (.tmp 17)),
 rs 75 (.load none (.tmp 74)),
 ⟨(some 71), none, .callx (.func 20) [(.tmp 70)]⟩,
 ⟨(some 73), none, .callx (.func 21) [(.tmp 72)]⟩,
 ⟨(some 76), none, .call (.func 19) [(.tmp 71), (.tmp 73), (.tmp 75)]⟩,
 rs 69 (.move (.tmp 76)),
 rs 77 (.extract (.tmp 69) 0),
 rs 78 (.extract (.tmp 69) 1),
 rs 79 (.extract (.tmp 69) 2),
 rs 21 (.move (.tmp 77)),
 rs 22 (.move (.tmp 78)),
 rs 23 (.move (.tmp 79))] (some [0, 5, 13, 14, 15, 16, 17, 18, 19, 20, 21, 22, 23]))
(.seq (.region [
 rs 81 (.load (some 6) (.tmp 13)),
 rs 83 (.load (some 2) (.tmp 14)),
 rs 85 (.move (.tmp 16)),
 ⟨(some 82), none, .callx (.func 20) [(.tmp 81)]⟩,
 ⟨(some 84), none, .callx (.func 21) [(.tmp 83)]⟩,
 ⟨(some 86), none, .call (.func 25) [(.tmp 82), (.tmp 84), (.tmp 85)]⟩,
 rs 80 (.move (.tmp 86)),
 rs 87 (.extract (.tmp 80) 0),
 rs 88 (.extract (.tmp 80) 1),
 rs 24 (.move (.tmp 87)),
 rs 25 (.move (.tmp 88))] (some [0, 5, 13, 14, 15, 16, 17, 18, 19, 20, 21, 22, 23, 24, 25]))
(.seq (.region [
 rs 89 (.move (.tmp 0)),
 rs 90 (.len (.tmp 89)),
 rs 26 (.move (.tmp 90))] (some [5, 13, 14, 15, 16, 17, 18, 19, 20, 21, 22, 23, 24, 25, 26]))
(.seq (.seq (.region [
 rs 91 (.move (.tmp 20)),
 rs 92 (.bin .neq (.tmp 91) (ci 0)),
 rs 93 (.move (.tmp 92)),
 rg 94 93 false (.move (.tmp 23)),
 rg 95 93 false (.bin .neq (.tmp 94) (ci 0)),
 rs 96 (.pick (.tmp 93) (.const (.bool true)) (.tmp 95)),
 rs 97 (.move (.tmp 96)),
 rg 98 97 false (.move (.tmp 25)),
 rg 99 97 false (.bin .neq (.tmp 98) (ci 0)),
 rs 100 (.pick (.tmp 97) (.const (.bool true)) (.tmp 99)),
 rs 101 (.move (.tmp 100)),
 rg 102 101 false (.move (.tmp 18)),
 rg 103 101 false (.len (.tmp 102)),
 rg 104 101 false (.move (.tmp 26)),
 rg 105 101 false (.bin .neq (.tmp 103) (.tmp 104)),
 rs 106 (.pick (.tmp 101) (.const (.bool true)) (.tmp 105)),
 rs 107 (.move (.tmp 106)),
 rg 108 107 false (.move (.tmp 19)),
 rg 109 107 false (.len (.tmp 108)),
 rg 110 107 false (.move (.tmp 26)),
 rg 111 107 false (.bin .neq (.tmp 109) (.tmp 110)),
 rs 112 (.pick (.tmp 107) (.const (.bool true)) (.tmp 111)),
 rs 113 (.move (.tmp 112)),
 rg 114 113 false (.move (.tmp 21)),
 rg 115 113 false (.len (.tmp 114)),
 rg 116 113 false (.move (.tmp 26)),
 rg 117 113 false (.bin .neq (.tmp 115) (.tmp 116)),
 rs 118 (.pick (.tmp 113) (.const (.bool true)) (.tmp 117)),
 rs 119 (.move (.tmp 118)),
 rg 120 119 false (.move (.tmp 22)),
 rg 121 119 false (.len (.tmp 120)),
 rg 122 119 false (.move (.tmp 26)),
 rg 123 119 false (.bin .neq (.tmp 121) (.tmp 122)),
 rs 124 (.pick (.tmp 119) (.const (.bool true)) (.tmp 123)),
 rs 125 (.move (.tmp 124)),
 rg 126 125 false (.move (.tmp 24)),
 rg 127 125 false (.len (.tmp 126)),
 rg 128 125 false (.move (.tmp 26)),
 rg 129 125 false (.bin .neq (.tmp 127) (.tmp 128)),
 rs 130 (.pick (.tmp 125) (.const (.bool true)) (.tmp 129))] (some [5, 13, 14, 15, 16, 17, 18, 19, 21, 22, 24, 26, 130]))
(.cond (.tmp 130)
 (.seq (.region [
 rs 12 (.move (.const (.bool false)))] (some [12]))
 .ret)
 .skip))
(.seq (.seq (.region [
 rs 27 (.move (ci 0))] (some [5, 13, 14, 15, 16, 17, 18, 19, 21, 22, 24, 26, 27]))
(.block 0 (.loop (.seq (.seq (.region [
 rs 131 (.move (.tmp 27)),
 rs 132 (.move (.tmp 26)),
 rs 133 (.bin .lss (.tmp 131) (.tmp 132))] (some [5, 13, 14, 15, 16, 17, 18, 19, 21, 22, 24, 26, 27, 133]))
 (.cond (.tmp 133)
 .skip
 (.exit 0)))
 (.seq (.block 1 (.seq (.region [
 rs 136 (.move (.tmp 19)),
 rs 137 (.move (.tmp 27)),
 rs 138 (.indexS 1 (.tmp 136) (.tmp 137)),
 rs 139 (.load none (.tmp 138)),
 rs 140 (.bin .lss (.tmp 139) (ci 0)),
 rs 141 (.move (.tmp 140)),
 rg 142 141 false (.move (.tmp 19)),
 rg 143 141 false (.move (.tmp 27)),
 rg 144 141 false (.indexS 1 (.tmp 142) (.tmp 143)),
 rg 145 141 false (.load none (.tmp 144)),
 rg 146 141 false (.bin .gtr (.tmp 145) (ci 719)),
 rs 147 (.pick (.tmp 141) (.const (.bool true)) (.tmp 146)),
 rs 148 (.move (.tmp 147)),
 rg 149 148 false (.move (.tmp 18)),
 rg 150 148 false (.move (.tmp 27)),
 rg 151 148 false (.indexS 1 (.tmp 149) (.tmp 150)),
 rg 152 148 false (.load none (.tmp 151)),
 rg 153 148 false (.bin .lss (.tmp 152) (ci 0)),
 rs 154 (.pick (.tmp 148) (.const (.bool true)) (.tmp 153)),
 rs 155 (.move (.tmp 154)),
 rg 156 155 false (.move (.tmp 22)),
 rg 157 155 false (.move (.tmp 27)),
 rg 158 155 false (.indexS 1 (.tmp 156) (.tmp 157)),
 rg 159 155 false (.load none (.tmp 158)),
 rg 160 155 false (.bin .lss (.tmp 159) (ci 0)),
 rs 161 (.pick (.tmp 155) (.const (.bool true)) (.tmp 160)),
 rs 162 (.move (.tmp 161)),
 rg 163 162 false (.move (.tmp 24)),
 rg 164 162 false (.move (.tmp 27)),
 rg 165 162 false (.indexS 1 (.tmp 163) (.tmp 164)),
 rg 166 162 false (.load none (.tmp 165)),
 rg 167 162 false (.fieldAddr 2 (.tmp 17)),
 rg 168 162 false (.load none (.tmp 167)),
 rg 169 162 false (.move (.tmp 21)),
 rg 170 162 false (.move (.tmp 27)),
 rg 171 162 false (.indexS 1 (.tmp 169) (.tmp 170)),
 rg 172 162 false (.load none (.tmp 171)),
 rg 173 162 false (.bin .mul (ci 720) (.tmp 172)),
 rg 174 162 false (.move (.tmp 22)),
 rg 175 162 false (.move (.tmp 27)),
 rg 176 162 false (.indexS 1 (.tmp 174) (.tmp 175)),
 rg 177 162 false (.load none (.tmp 176)),
 rg 178 162 false (.bin .add (.tmp 173) (.tmp 177)),
 rg 179 162 false (.bin .mul (.tmp 168) (.tmp 178)),
 rg 180 162 false (.bin .neq (.tmp 166) (.tmp 179)),
 rs 181 (.pick (.tmp 162) (.const (.bool true)) (.tmp 180))] (some [5, 13, 14, 15, 16, 17, 18, 19, 21, 22, 24, 26, 27, 181]))
 (.cond (.tmp 181)
 (.seq (.region [
 rs 12 (.move (.const (.bool false)))] (some [12]))
 .ret)
 .skip)))
 (.region [
 rs 134 (.move (.tmp 27)),
 rs 135 (.bin .add (.tmp 134) (ci 1)),
 rs 27 (.move (.tmp 135))] (some [5, 13, 14, 15, 16, 17, 18, 19, 21, 22, 24, 26, 27])))))))
(.seq (.seq (.region [
 rs 182 (.move (.tmp 18)),
 rs 185 (.move (.tmp 19)),
 rs 188 (.load (some 6) (.tmp 13)),
 rs 189 (.move (.tmp 15)),
 ⟨(some 183), none, .callx (.func 45) [(.tmp 182)]⟩,
 rs 184 (.bin .mul (ci 720) (.tmp 183)),
 ⟨(some 186), none, .callx (.func 45) [(.tmp 185)]⟩,
 rs 187 (.bin .add (.tmp 184) (.tmp 186)),
 ⟨(some 190), none, .callx (.func 46) [(.tmp 188), (.tmp 189)]⟩,
 rs 191 (.bin .neq (.tmp 187) (.tmp 190))] (some [5, 13, 14, 15, 16, 191]))
(.cond (.tmp 191)
 (.seq (.region [
 rs 12 (.move (.const (.bool false)))] (some [12]))
 .ret)
 .skip))
(.seq (.region [
 rs 192 (.load (some 6) (.tmp 13)),
 rs 28 (.alloc [(.d (.int .i64 0)), (.d .nils), (.d .nils), (.d .nils), (.d .nils), (.d .nils)]),
 rn (.store 6 (.tmp 28) (.tmp 192))] (some [5, 13, 14, 15, 16, 28]))
(.seq (.seq (.region [
 rs 193 (.move (.tmp 5)),
 rs 194 (.conv .i64 (.tmp 193)),
 rs 195 (.bin .rem (.tmp 194) (ci 4)),
 rs 196 (.bin .add (ci 1) (.tmp 195)),
 rs 29 (.move (.tmp 196))] (some [13, 14, 15, 16, 28, 29]))
(.seq (.region [
 rs 197 (.fieldAddr 4 (.tmp 13)),
 rs 198 (.load none (.tmp 197)),
 rs 199 (.len (.tmp 198)),
 rs 200 (.bin .eql (.tmp 199) (ci 0))] (some [13, 14, 15, 16, 28, 29, 200]))
(.cond (.tmp 200)
 (.region [
 rs 201 (.move (.tmp 15)),
 rs 202 (.move (.tmp 29)),
 rs 203 (.move (.tmp 29)),
 rs 204 (.build [(.d (.int .i64 0)), (.d (.int .i64 0)), (.d (.int .i64 0))] [(0, 1, (.tmp 201)), (1, 1, (.tmp 202)), (2, 1, (.tmp 203))]),
 rs 205 (.bslice false 79 3 1 [(.int .i64 0), (.int .i64 0), (.int .i64 0)] [(0, (.tmp 204))]),
 rs 206 (.fieldAddr 4 (.tmp 28)),
 rn (.store 1 (.tmp 206) (.tmp 205))] (some [13, 14, 16, 28]))
 .skip)))
(.seq (.region [
 rs 208 (.load (some 6) (.tmp 13)),
 rs 210 (.load (some 2) (.tmp 14)),
 rs 212 (.move (.tmp 16)),
 ⟨(some 209), none, .callx (.func 20) [(.tmp 208)]⟩,
 ⟨(some 211), none, .callx (.func 21) [(.tmp 210)]⟩,
 ⟨(some 213), none, .call (.func 27) [(.tmp 209), (.tmp 211), (.tmp 212)]⟩,
 rs 207 (.move (.tmp 213)),
 rs 214 (.extract (.tmp 207) 0),
 rs 215 (.extract (.tmp 207) 1),
 rs 30 (.move (.tmp 214)),
 rs 31 (.move (.tmp 215))] (some [14, 16, 28, 30, 31]))
(.seq (.region [
 rs 217 (.load (some 6) (.tmp 28)),
 rs 219 (.load (some 2) (.tmp 14)),
 rs 221 (.move (.tmp 16)),
 ⟨(some 218), none, .callx (.func 20) [(.tmp 217)]⟩,
 ⟨(some 220), none, .callx (.func 21) [(.tmp 219)]⟩,
 ⟨(some 222), none, .call (.func 27) [(.tmp 218), (.tmp 220), (.tmp 221)]⟩,
 rs 216 (.move (.tmp 222)),
 rs 223 (.extract (.tmp 216) 0),
 rs 224 (.extract (.tmp 216) 1),
 rs 32 (.move (.tmp 223)),
 rs 33 (.move (.tmp 224))] (some [30, 31, 32, 33]))
(.seq (.region [
 rs 225 (.move (.tmp 31)),
 rs 226 (.bin .eql (.tmp 225) (ci 0)),
 rs 227 (.move (.tmp 226)),
 rg 228 227 true (.move (.tmp 33)),
 rg 229 227 true (.bin .eql (.tmp 228) (ci 0)),
 rs 230 (.pick (.tmp 227) (.tmp 229) (.const (.bool false))),
 rs 231 (.move (.tmp 230)),
 rg 232 231 true (.move (.tmp 30)),
 rg 233 231 true (.move (.tmp 32)),
 ⟨(some 234), (some (231, true)), .call (.func 28) [(.tmp 232), (.tmp 233)]⟩,
 rs 235 (.pick (.tmp 231) (.tmp 234) (.const (.bool false))),
 rs 236 (.move (.tmp 235)),
 ⟨(some 237), (some (236, true)), .call (.func 18) []⟩,
 rs 238 (.pick (.tmp 236) (.tmp 237) (.const (.bool false))),
 rs 12 (.move (.tmp 238))] (some [12]))
.ret))))))))))))))))))
theorem k9 : Try.f9.body.bind (compC Try.prog G9) = some c9 := by kernel_rfl
theorem e9 : compRes Try.prog Try.f9.results.toList = some r9 := by kernel_rfl
end Go.Proofs.Ytdnefcjbcieecaa
namespace Go.Proofs.Ytdnefcjbcieecaa
open Go Go.Proofs
noncomputable section
theorem q80 : FunIs Try.prog 80 G80 c80 r80 := ⟨Try.f80, Try.func80, k80, e80, by kernel_rfl, by kernel_rfl⟩
theorem q41 : FunIs Try.prog 41 G41 c41 r41 := ⟨Try.f41, Try.func41, k41, e41, by kernel_rfl, by kernel_rfl⟩
theorem q40 : FunIs Try.prog 40 G40 c40 r40 := ⟨Try.f40, Try.func40, k40, e40, by kernel_rfl, by kernel_rfl⟩
def eW (n : Int) : List D := [.int .u16 n]
@[simp] theorem len_W (l : List Int) : (enc eW l).length = l.length * 1 := enc_len (sz := 1) (f := eW) (fun _ => rfl) l
theorem cI_W (l : List Int) (i : Int) : cI (enc eW l) 1 i 0 = lat l i := by
  unfold cI
  rw [enc_get (sz := 1) (f := eW) (fun _ => rfl) l _ 0 (by decide)]
  cases h : l[i.toNat]? with
  | none =>
    have : lat l i = 0 := by simp [lat, List.getD_eq_getElem?_getD, h]
    rw [this]; rfl
  | some x =>
    have : lat l i = x := by simp [lat, List.getD_eq_getElem?_getD, h]
    rw [this]; rfl
theorem ok_W {l : List Int} {i : Int} (h : i.toNat < l.length) : okEl [2] (enc eW l) 1 i := by
  unfold okEl
  rw [elemAt_enc (sz := 1) (f := eW) (fun _ => rfl) l _ h, lat_get h]
  simp only [Option.map_some, eW, elDs, elD]
  rw [cI_W]
def wordM (ws : List Int) (k : Int) : Int := if ws.length = 0 then 0 else lat ws (k.tmod ws.length)
def isWords (ws : List Int) : Prop := 0 ≤ ws.length ∧ ∀ w ∈ ws, 0 ≤ w ∧ w ≤ 65535
def XW : Sx := { sp := spNil, md := fun _ => 0, sh := fun _ => [2] }
theorem XW_ok : SpOk Try.prog XW.sp := spNil_ok _
theorem w80 (ws : List Int) (k : Int) : sx XW c80 [] (doneK r80) (envOf [vsl eW ws, vi k]) [] [] =
    Tr.br (Int.ofNat (List.length ws) == (0 : Int)) (Tr.done (V.d (D.int .i64 (0 : Int))) []) (Tr.need (Int.ofNat (List.length ws) ≠ (0 : Int)) (Tr.need ((0 : Int) ≤ Int.tmod k (Int.ofNat (List.length ws)) ∧ Int.tmod k (Int.ofNat (List.length ws)) < Int.ofNat (List.length ws) ∧ okEl [2] (enc eW ws) (1 : Nat) (Int.tmod k (Int.ofNat (List.length ws)))) (Tr.done (V.d (D.int .i64 (IntKind.wrap IntKind.i64 (cI (enc eW ws) (1 : Nat) (Int.tmod k (Int.ofNat (List.length ws))) (0 : Nat))))) []))) := by kernel_rfl
theorem wrap_i64 {n : Int} (h0 : -9223372036854775808 ≤ n) (h1 : n ≤ 9223372036854775807) : IntKind.wrap .i64 n = n := by
  simp only [IntKind.wrap, IntKind.signed, IntKind.bits]
  simp only [Bool.true_and]
  split
  · rename_i h; have h := of_decide_eq_true h; omega
  · rename_i h; have h : ¬ (n % 2 ^ 64 ≥ 2 ^ (64 - 1)) := fun e => h (decide_eq_true e); omega
theorem word_in {ws : List Int} (hw : isWords ws) (k : Int) (hk : 0 ≤ k) : 0 ≤ wordM ws k ∧ wordM ws k ≤ 65535 := by
  unfold wordM
  split
  · omega
  · rename_i h
    rw [Int.tmod_eq_emod_of_nonneg hk]
    have h1 := Int.emod_nonneg k (show (ws.length : Int) ≠ 0 by omega)
    have h2 := Int.emod_lt_of_pos k (show (0 : Int) < ws.length by omega)
    have h3 := hw.2 _ (lat_mem (l := ws) (k := (k % ws.length).toNat) (by omega))
    have e : (((k % ws.length).toNat : Nat) : Int) = k % ws.length := by omega
    rw [e] at h3
    exact h3
theorem y80 (ws : List Int) (k : Int) (hw : isWords ws) (hk : 0 ≤ k) : Yields Try.prog 80 [vsl eW ws, vi k] (vi (wordM ws k)) := by
  refine q80.yieldsK XW_ok rfl rfl rfl (w80 ws k) ?_
  simp only [holds, Int.ofNat_eq_natCast, cI_W]
  have hin := word_in hw k hk
  refine ⟨fun h => ?_, fun h => ?_⟩
  · have h : ws.length = 0 := by simpa using h
    exact .of_eq (congrArg vi (by simp [wordM, h]))
  · have h : ¬ ws.length = 0 := by simpa using h
    have e : wordM ws k = lat ws (k.tmod ws.length) := by simp [wordM, h]
    rw [e] at hin
    have h1 := Int.emod_nonneg k (show (ws.length : Int) ≠ 0 by omega)
    have h2 := Int.emod_lt_of_pos k (show (0 : Int) < ws.length by omega)
    rw [e, wrap_i64 (by omega) (by omega)]
    have h3 : 0 ≤ k.tmod ws.length ∧ k.tmod ws.length < ws.length := by rw [Int.tmod_eq_emod_of_nonneg hk]; exact ⟨h1, h2⟩
    exact ⟨by omega, ⟨h3.1, h3.2, ok_W (by omega)⟩, .refl _⟩
def gW (ds : List D) : Int := atI ds 0
theorem dec_W (l : List Int) : dec 1 gW l.length (enc eW l) = l := dec_enc (sz := 1) (f := eW) (g := gW) (fun _ => rfl) (fun _ => rfl) l
def ent80 : Ent := fun args _ => match args with
  | [.d (.sl false n cs), .d (.int .i64 k)] => some (enc eW (dec 1 gW n cs) = cs ∧ isWords (dec 1 gW n cs) ∧ 0 ≤ k, vi (wordM (dec 1 gW n cs) k), none)
  | _ => none
theorem ent80_ok : EntOk Try.prog 80 ent80 := by
  intro args h p v h' he hp
  unfold ent80 at he
  split at he
  · cases he
    rename_i n cs k
    have e : V.d (.sl false n cs) = vsl eW (dec 1 gW n cs) := by unfold vsl dsl; rw [hp.1, dec_len]
    rw [e]; exact y80 _ _ hp.2.1 hp.2.2 h
  · cases he
def tab27 : Spec := (spAdd 80 ent80 tab20)
theorem tab27_ok : SpOk Try.prog tab27 := (spAdd_ok ent80_ok tab20_ok)
theorem w56o10 (l : List Int) (b0 b1 b2 b3 b4 b5 b6 b7 b8 b9 : Option Blk) : sx X10 c56 [] (doneK r56) (envOf [vsl eI l]) [] [b0, b1, b2, b3, b4, b5, b6, b7, b8, b9] =
    Tr.need ((0 : Nat) = (0 : Nat) ∧ (3 : Nat) = (3 : Nat) ∧ (1 : Nat) = (1 : Nat) ∧ 0 = (0 : Nat) * (1 : Nat) ∧ List.length (enc eI l) = List.length l * (1 : Nat) ∧ (0 : Nat) + List.length l ≤ (140737488355328 : Nat) ∧ ((0 : Nat) + List.length l) * (8 : Nat) ≤ (140737488355328 : Nat)) (Tr.done (V.own (10) (1) ((0 : Nat) + List.length l)) [b0, b1, b2, b3, b4, b5, b6, b7, b8, b9, some (Blk.row (3) (1) (1) ([] ++ enc eI l))]) := by kernel_rfl
theorem a56o10 (l : List Int) (b0 b1 b2 b3 b4 b5 b6 b7 b8 b9 : Option Blk) (hl : l.length ≤ 1000000) : ACalls Try.prog 56 [vsl eI l] [b0, b1, b2, b3, b4, b5, b6, b7, b8, b9] fun v h' => v = .own 10 1 l.length ∧ h' = [b0, b1, b2, b3, b4, b5, b6, b7, b8, b9, some (.row 3 1 1 (enc eI l))] := by
  refine q56.calls X10_ok (h := [b0, b1, b2, b3, b4, b5, b6, b7, b8, b9]) rfl (w56o10 l b0 b1 b2 b3 b4 b5 b6 b7 b8 b9) ?_
  simp only [holds, len_I, List.nil_append, Nat.zero_add]
  exact ⟨⟨trivial, trivial, trivial, by simp, trivial, by omega, by omega⟩, trivial, trivial⟩
theorem a56s10 (n : Nat) (cs : List D) (b0 b1 b2 b3 b4 b5 b6 b7 b8 b9 : Option Blk) (hp : okL eI 1 gI n cs) (hl : n ≤ 1000000) : ACalls Try.prog 56 [.d (.sl false n cs)] [b0, b1, b2, b3, b4, b5, b6, b7, b8, b9] fun v h' => v = .own 10 1 n ∧ h' = [b0, b1, b2, b3, b4, b5, b6, b7, b8, b9, some (.row 3 1 1 cs)] := by
  rw [okL_vsl hp]
  refine (a56o10 (dec 1 gI n cs) b0 b1 b2 b3 b4 b5 b6 b7 b8 b9 (by rw [dec_len]; exact hl)).mono ?_
  rintro v h' ⟨rfl, rfl⟩
  rw [dec_len, hp.1]
  exact ⟨rfl, rfl⟩
theorem w56o11 (l : List Int) (b0 b1 b2 b3 b4 b5 b6 b7 b8 b9 b10 : Option Blk) : sx X10 c56 [] (doneK r56) (envOf [vsl eI l]) [] [b0, b1, b2, b3, b4, b5, b6, b7, b8, b9, b10] =
    Tr.need ((0 : Nat) = (0 : Nat) ∧ (3 : Nat) = (3 : Nat) ∧ (1 : Nat) = (1 : Nat) ∧ 0 = (0 : Nat) * (1 : Nat) ∧ List.length (enc eI l) = List.length l * (1 : Nat) ∧ (0 : Nat) + List.length l ≤ (140737488355328 : Nat) ∧ ((0 : Nat) + List.length l) * (8 : Nat) ≤ (140737488355328 : Nat)) (Tr.done (V.own (11) (1) ((0 : Nat) + List.length l)) [b0, b1, b2, b3, b4, b5, b6, b7, b8, b9, b10, some (Blk.row (3) (1) (1) ([] ++ enc eI l))]) := by kernel_rfl
theorem a56o11 (l : List Int) (b0 b1 b2 b3 b4 b5 b6 b7 b8 b9 b10 : Option Blk) (hl : l.length ≤ 1000000) : ACalls Try.prog 56 [vsl eI l] [b0, b1, b2, b3, b4, b5, b6, b7, b8, b9, b10] fun v h' => v = .own 11 1 l.length ∧ h' = [b0, b1, b2, b3, b4, b5, b6, b7, b8, b9, b10, some (.row 3 1 1 (enc eI l))] := by
  refine q56.calls X10_ok (h := [b0, b1, b2, b3, b4, b5, b6, b7, b8, b9, b10]) rfl (w56o11 l b0 b1 b2 b3 b4 b5 b6 b7 b8 b9 b10) ?_
  simp only [holds, len_I, List.nil_append, Nat.zero_add]
  exact ⟨⟨trivial, trivial, trivial, by simp, trivial, by omega, by omega⟩, trivial, trivial⟩
theorem a56s11 (n : Nat) (cs : List D) (b0 b1 b2 b3 b4 b5 b6 b7 b8 b9 b10 : Option Blk) (hp : okL eI 1 gI n cs) (hl : n ≤ 1000000) : ACalls Try.prog 56 [.d (.sl false n cs)] [b0, b1, b2, b3, b4, b5, b6, b7, b8, b9, b10] fun v h' => v = .own 11 1 n ∧ h' = [b0, b1, b2, b3, b4, b5, b6, b7, b8, b9, b10, some (.row 3 1 1 cs)] := by
  rw [okL_vsl hp]
  refine (a56o11 (dec 1 gI n cs) b0 b1 b2 b3 b4 b5 b6 b7 b8 b9 b10 (by rw [dec_len]; exact hl)).mono ?_
  rintro v h' ⟨rfl, rfl⟩
  rw [dec_len, hp.1]
  exact ⟨rfl, rfl⟩
theorem w56o12 (l : List Int) (b0 b1 b2 b3 b4 b5 b6 b7 b8 b9 b10 b11 : Option Blk) : sx X10 c56 [] (doneK r56) (envOf [vsl eI l]) [] [b0, b1, b2, b3, b4, b5, b6, b7, b8, b9, b10, b11] =
    Tr.need ((0 : Nat) = (0 : Nat) ∧ (3 : Nat) = (3 : Nat) ∧ (1 : Nat) = (1 : Nat) ∧ 0 = (0 : Nat) * (1 : Nat) ∧ List.length (enc eI l) = List.length l * (1 : Nat) ∧ (0 : Nat) + List.length l ≤ (140737488355328 : Nat) ∧ ((0 : Nat) + List.length l) * (8 : Nat) ≤ (140737488355328 : Nat)) (Tr.done (V.own (12) (1) ((0 : Nat) + List.length l)) [b0, b1, b2, b3, b4, b5, b6, b7, b8, b9, b10, b11, some (Blk.row (3) (1) (1) ([] ++ enc eI l))]) := by kernel_rfl
theorem a56o12 (l : List Int) (b0 b1 b2 b3 b4 b5 b6 b7 b8 b9 b10 b11 : Option Blk) (hl : l.length ≤ 1000000) : ACalls Try.prog 56 [vsl eI l] [b0, b1, b2, b3, b4, b5, b6, b7, b8, b9, b10, b11] fun v h' => v = .own 12 1 l.length ∧ h' = [b0, b1, b2, b3, b4, b5, b6, b7, b8, b9, b10, b11, some (.row 3 1 1 (enc eI l))] := by
  refine q56.calls X10_ok (h := [b0, b1, b2, b3, b4, b5, b6, b7, b8, b9, b10, b11]) rfl (w56o12 l b0 b1 b2 b3 b4 b5 b6 b7 b8 b9 b10 b11) ?_
  simp only [holds, len_I, List.nil_append, Nat.zero_add]
  exact ⟨⟨trivial, trivial, trivial, by simp, trivial, by omega, by omega⟩, trivial, trivial⟩
theorem a56s12 (n : Nat) (cs : List D) (b0 b1 b2 b3 b4 b5 b6 b7 b8 b9 b10 b11 : Option Blk) (hp : okL eI 1 gI n cs) (hl : n ≤ 1000000) : ACalls Try.prog 56 [.d (.sl false n cs)] [b0, b1, b2, b3, b4, b5, b6, b7, b8, b9, b10, b11] fun v h' => v = .own 12 1 n ∧ h' = [b0, b1, b2, b3, b4, b5, b6, b7, b8, b9, b10, b11, some (.row 3 1 1 cs)] := by
  rw [okL_vsl hp]
  refine (a56o12 (dec 1 gI n cs) b0 b1 b2 b3 b4 b5 b6 b7 b8 b9 b10 b11 (by rw [dec_len]; exact hl)).mono ?_
  rintro v h' ⟨rfl, rfl⟩
  rw [dec_len, hp.1]
  exact ⟨rfl, rfl⟩
def ent56o : Ent := fun args h => match args with
  | [.d (.sl false n cs)] => match h with
    | [b0, b1, b2, b3, b4, b5, b6, b7, b8, b9] => some (okL eI 1 gI n cs ∧ n ≤ 1000000, .own 10 1 n, some [b0, b1, b2, b3, b4, b5, b6, b7, b8, b9, some (.row 3 1 1 cs)])
    | [b0, b1, b2, b3, b4, b5, b6, b7, b8, b9, b10] => some (okL eI 1 gI n cs ∧ n ≤ 1000000, .own 11 1 n, some [b0, b1, b2, b3, b4, b5, b6, b7, b8, b9, b10, some (.row 3 1 1 cs)])
    | [b0, b1, b2, b3, b4, b5, b6, b7, b8, b9, b10, b11] => some (okL eI 1 gI n cs ∧ n ≤ 1000000, .own 12 1 n, some [b0, b1, b2, b3, b4, b5, b6, b7, b8, b9, b10, b11, some (.row 3 1 1 cs)])
    | _ => none
  | _ => none
theorem ent56o_ok : EntOk Try.prog 56 ent56o := by
  intro args h p v h' he hp
  unfold ent56o at he
  split at he
  · split at he
    · cases he; exact a56s10 _ _ _ _ _ _ _ _ _ _ _ _ hp.1 hp.2
    · cases he; exact a56s11 _ _ _ _ _ _ _ _ _ _ _ _ _ hp.1 hp.2
    · cases he; exact a56s12 _ _ _ _ _ _ _ _ _ _ _ _ _ _ hp.1 hp.2
    · cases he
  · cases he
def ent56x : Ent := fun args h => match ent56o args h with
  | some x => some x
  | none => ent56 args h
theorem ent56x_ok : EntOk Try.prog 56 ent56x := by
  intro args h p v h' he hp
  unfold ent56x at he
  split at he
  · rename_i x hx
    cases he; exact ent56o_ok _ _ _ _ _ hx hp
  · exact ent56_ok _ _ _ _ _ he hp
def tab28 : Spec := spAdd 56 ent56x tab27
theorem tab28_ok : SpOk Try.prog tab28 := spAdd_ok ent56x_ok tab27_ok
def X41 : Sx := { sp := tab28, md := fun _ => 0, sh := shI, sfz := true }
theorem X41_ok : SpOk Try.prog X41.sp := tab28_ok
def Z0 : Option Blk := some (.box [.d (.int .i64 0), .d .nils, .d .nils, .d .nils, .d .nils, .d .nils])
def Z1 : Option Blk := some (.box [.d .nils, .d .nils])
theorem w41 (hl ws : List Int) (m : Int) : sx X41 c41 [] (doneK r41) (envOf [vsl eI hl, vsl eW ws, .d (.int .u8 m)]) [] [] =
    Tr.need (okL eI (1 : Nat) gI (List.length hl) (enc eI hl) ∧ List.length hl ≤ (1000000 : Nat)) (Tr.lp (CCode.at c41 [1, 1, 1, 0, 1, 0, 0]) [Fr.blk (0), Fr.seq (CCode.at c41 [1, 1, 1, 1])] [(0, V.d (D.sl false (List.length hl) (enc eI hl))), (1, V.d (D.sl false (List.length ws) (enc eW ws))), (2, V.d (D.int IntKind.u8 m)), (6, V.ptr (0) (0) (0)), (7, V.ptr (1) (0) (0)), (8, V.ptr (2) (0) (0)), (9, V.d (D.int .i64 (-1 : Int))), (10, V.d (D.int .i64 (0 : Int)))] [some (Blk.box [V.d (D.int .i64 (0 : Int)), V.d D.nils, V.d D.nils, V.d D.nils, V.d D.nils, V.d D.nils]), some (Blk.box [V.d D.nils, V.d D.nils]), some (Blk.box [V.d (D.int .i64 (Int.ofNat (List.length hl))), V.d (D.sl false (List.length hl) (enc eI hl)), V.d D.nils, V.d D.nils, V.d D.nils, V.d D.nils])]) := by kernel_rfl
def E41 (hl ws : List Int) (m : Int) : Env := [(0, vsl eI hl), (1, vsl eW ws), (2, .d (.int .u8 m)), (6, .ptr 0 0 0), (7, .ptr 1 0 0), (8, .ptr 2 0 0)]
def H41a (hl : List Int) (n : Nat) (l : List D) : Heap := [Z0, Z1, some (.box [vi hl.length, .d (dsl eI hl), .d .nils, .d .nils, .own 3 n n, .d .nils]), some (.row 79 3 n l)]
theorem b41a (hl ws : List Int) (m d : Int) (k n : Nat) (l : List D) : sx X41 (CCode.at c41 [1,1,1,0,1,0,0]) [] leafK (E41 hl ws m ++ [(9, vi d), (10, vi k)]) [] (H41a hl n l) =
    let x1_ := (dec (1 : Nat) gW (List.length ws) (enc eW ws))
    let x2_ := (decide (Int.ofNat k < Int.tmod (wordM x1_ (0 : Int)) (3 : Int)))
    let x3_ := ((-9223372036854775808 : Int) ≤ Int.ofNat k + (1 : Int) ∧ Int.ofNat k + (1 : Int) ≤ (9223372036854775807 : Int))
    let x4_ := (Int.ofNat k + (1 : Int))
    let x5_ := ((1 : Int) + Int.tmod (wordM x1_ x4_) (6 : Int))
    let x6_ := (Int.tdiv (wordM x1_ x4_) (8 : Int))
    let x7_ := (Int.tdiv (wordM x1_ x4_) (64 : Int))
    let x8_ := [D.int .i64 (d + x5_), D.int .i64 ((1 : Int) + Int.tmod x6_ (6 : Int)), D.int .i64 ((1 : Int) + Int.tmod x7_ (4 : Int))]
    let x9_ := (D.sl false (List.length hl) (enc eI hl))
    let x10_ := (Blk.box [V.d (D.int .i64 (0 : Int)), V.d D.nils, V.d D.nils, V.d D.nils, V.d D.nils, V.d D.nils])
    let x11_ := (Blk.box [V.d D.nils, V.d D.nils])
    let x12_ := (D.int .i64 (Int.ofNat (List.length hl)))
    let x13_ := [some x10_, some x11_, some (Blk.box [V.d x12_, V.d x9_, V.d D.nils, V.d D.nils, V.own (3) n n, V.d D.nils]), some (Blk.row (79) (3) n l)]
    Tr.need (enc eW x1_ = enc eW ws ∧ isWords x1_ ∧ (0 : Int) ≤ (0 : Int)) (Tr.need ((3 : Int) ≠ (0 : Int)) (Tr.br x2_ (Tr.need x3_ (Tr.need (enc eW x1_ = enc eW ws ∧ isWords x1_ ∧ (0 : Int) ≤ Int.ofNat k + (1 : Int)) (Tr.need ((6 : Int) ≠ (0 : Int)) (Tr.need ((-9223372036854775808 : Int) ≤ (1 : Int) + Int.tmod (wordM x1_ x4_) (6 : Int) ∧ (1 : Int) + Int.tmod (wordM x1_ x4_) (6 : Int) ≤ (9223372036854775807 : Int)) (Tr.need ((-9223372036854775808 : Int) ≤ d + x5_ ∧ d + x5_ ≤ (9223372036854775807 : Int)) (Tr.br (decide (d + x5_ ≤ (11 : Int))) (Tr.need ((8 : Int) ≠ (0 : Int)) (Tr.need ((-9223372036854775808 : Int) ≤ Int.tdiv (wordM x1_ x4_) (8 : Int) ∧ Int.tdiv (wordM x1_ x4_) (8 : Int) ≤ (9223372036854775807 : Int)) (Tr.need ((6 : Int) ≠ (0 : Int)) (Tr.need ((-9223372036854775808 : Int) ≤ (1 : Int) + Int.tmod x6_ (6 : Int) ∧ (1 : Int) + Int.tmod x6_ (6 : Int) ≤ (9223372036854775807 : Int)) (Tr.need ((64 : Int) ≠ (0 : Int)) (Tr.need ((-9223372036854775808 : Int) ≤ Int.tdiv (wordM x1_ x4_) (64 : Int) ∧ Int.tdiv (wordM x1_ x4_) (64 : Int) ≤ (9223372036854775807 : Int)) (Tr.need ((4 : Int) ≠ (0 : Int)) (Tr.need ((-9223372036854775808 : Int) ≤ (1 : Int) + Int.tmod x7_ (4 : Int) ∧ (1 : Int) + Int.tmod x7_ (4 : Int) ≤ (9223372036854775807 : Int)) (Tr.need (n = n ∧ (79 : Nat) = (79 : Nat) ∧ (3 : Nat) = (3 : Nat) ∧ List.length l = n * (3 : Nat) ∧ List.length x8_ = (1 : Nat) * (3 : Nat) ∧ n + (1 : Nat) ≤ (140737488355328 : Nat) ∧ (n + (1 : Nat)) * (24 : Nat) ≤ (140737488355328 : Nat)) (Tr.need x3_ (Tr.leaf CExit.normal [(0, V.d x9_), (1, V.d (D.sl false (List.length ws) (enc eW ws))), (2, V.d (D.int IntKind.u8 m)), (6, V.ptr (0) (0) (0)), (7, V.ptr (1) (0) (0)), (8, V.ptr (2) (0) (0)), (9, V.d (D.int .i64 (d + x5_))), (10, V.d (D.int .i64 x4_))] [some x10_, some x11_, some (Blk.box [V.d x12_, V.d x9_, V.d D.nils, V.d D.nils, V.own (3) (Nat.add n (1 : Nat)) (n + (1 : Nat)), V.d D.nils]), some (Blk.row (79) (3) (Nat.add n (1 : Nat)) (l ++ x8_))]))))))))))) (Tr.need x3_ (Tr.leaf CExit.normal [(0, V.d x9_), (1, V.d (D.sl false (List.length ws) (enc eW ws))), (2, V.d (D.int IntKind.u8 m)), (6, V.ptr (0) (0) (0)), (7, V.ptr (1) (0) (0)), (8, V.ptr (2) (0) (0)), (9, V.d (D.int .i64 (d + x5_))), (10, V.d (D.int .i64 x4_))] x13_)))))))) (Tr.leaf (CExit.exit (0)) [(0, V.d x9_), (1, V.d (D.sl false (List.length ws) (enc eW ws))), (2, V.d (D.int IntKind.u8 m)), (6, V.ptr (0) (0) (0)), (7, V.ptr (1) (0) (0)), (8, V.ptr (2) (0) (0)), (9, V.d (D.int .i64 d)), (10, V.d (D.int .i64 (Int.ofNat k))), (34, V.d (D.bool x2_))] x13_))) := by kernel_rfl
theorem x41a (hl ws : List Int) (m : Int) (n : Nat) (u v : Int) (w : Bool) (l : List D) : sS X41 (doneK r41) [Fr.blk 0, Fr.seq (CCode.at c41 [1,1,1,1])] (.exit 0) (E41 hl ws m ++ [(9, vi u), (10, vi v), (34, vb w)]) [] (H41a hl n l) =
    Tr.need (n = n) (Tr.need (n = n) (Tr.lp (CCode.at c41 [1, 1, 1, 1, 0, 1, 0, 0]) [Fr.blk (2), Fr.seq (CCode.at c41 [1, 1, 1, 1, 1])] [(0, V.d (D.sl false (List.length hl) (enc eI hl))), (1, V.d (D.sl false (List.length ws) (enc eW ws))), (2, V.d (D.int IntKind.u8 m)), (6, V.ptr (0) (0) (0)), (7, V.ptr (1) (0) (0)), (8, V.ptr (2) (0) (0)), (12, V.d (D.int .i64 (0 : Int)))] [some (Blk.box [V.d (D.int .i64 (0 : Int)), V.d D.nils, V.d D.nils, V.d D.nils, V.d D.nils, V.d D.nils]), some (Blk.box [V.d D.nils, V.d D.nils]), some (Blk.box [V.d (D.int .i64 (Int.ofNat (List.length hl))), V.d (D.sl false (List.length hl) (enc eI hl)), V.d D.nils, V.d D.nils, V.d (D.sl false n l), V.d D.nils]), none])) := by kernel_rfl
def H41b (hl : List Int) (S : List Spl) (n : Nat) (l : List D) : Heap := [Z0, Z1, some (.box [vi hl.length, .d (dsl eI hl), .d .nils, .d .nils, .d (dsl eS S), .own 4 n n]), none, some (.row 73 2 n l)]
theorem b41b (hl ws : List Int) (m : Int) (S : List Spl) (k n : Nat) (l : List D) : sx X41 (CCode.at c41 [1,1,1,1,0,1,0,0]) [] leafK (E41 hl ws m ++ [(12, vi k)]) [] (H41b hl S n l) =
    let x1_ := (dec (1 : Nat) gW (List.length ws) (enc eW ws))
    let x2_ := (decide (Int.ofNat k < Int.tmod (Int.tdiv (wordM x1_ (0 : Int)) (4 : Int)) (3 : Int)))
    let x3_ := ((10 : Int) ≠ (0 : Int))
    let x4_ := (wordM x1_ (Int.ofNat k + (3 : Int)))
    let x5_ := (Int.tdiv x4_ (16 : Int))
    let x6_ := [D.int .i64 (Int.tmod x4_ (10 : Int)), D.int .i64 (min2 (11 : Int) (Int.tmod x4_ (10 : Int) + Int.tmod x5_ (4 : Int)))]
    let x7_ := (D.sl false (List.length hl) (enc eI hl))
    let x8_ := (Blk.box [V.d (D.int .i64 (0 : Int)), V.d D.nils, V.d D.nils, V.d D.nils, V.d D.nils, V.d D.nils])
    let x9_ := (Blk.box [V.d D.nils, V.d D.nils])
    let x10_ := (D.int .i64 (Int.ofNat (List.length hl)))
    let x11_ := (D.sl false (List.length S) (enc eS S))
    Tr.need (enc eW x1_ = enc eW ws ∧ isWords x1_ ∧ (0 : Int) ≤ (0 : Int)) (Tr.need ((4 : Int) ≠ (0 : Int)) (Tr.need ((-9223372036854775808 : Int) ≤ Int.tdiv (wordM x1_ (0 : Int)) (4 : Int) ∧ Int.tdiv (wordM x1_ (0 : Int)) (4 : Int) ≤ (9223372036854775807 : Int)) (Tr.need ((3 : Int) ≠ (0 : Int)) (Tr.br x2_ (Tr.need ((-9223372036854775808 : Int) ≤ Int.ofNat k + (3 : Int) ∧ Int.ofNat k + (3 : Int) ≤ (9223372036854775807 : Int)) (Tr.need (enc eW x1_ = enc eW ws ∧ isWords x1_ ∧ (0 : Int) ≤ Int.ofNat k + (3 : Int)) (Tr.need x3_ (Tr.need x3_ (Tr.need ((16 : Int) ≠ (0 : Int)) (Tr.need ((-9223372036854775808 : Int) ≤ Int.tdiv x4_ (16 : Int) ∧ Int.tdiv x4_ (16 : Int) ≤ (9223372036854775807 : Int)) (Tr.need ((4 : Int) ≠ (0 : Int)) (Tr.need ((-9223372036854775808 : Int) ≤ Int.tmod x4_ (10 : Int) + Int.tmod x5_ (4 : Int) ∧ Int.tmod x4_ (10 : Int) + Int.tmod x5_ (4 : Int) ≤ (9223372036854775807 : Int)) (Tr.need (n = n ∧ (73 : Nat) = (73 : Nat) ∧ (2 : Nat) = (2 : Nat) ∧ List.length l = n * (2 : Nat) ∧ List.length x6_ = (1 : Nat) * (2 : Nat) ∧ n + (1 : Nat) ≤ (140737488355328 : Nat) ∧ (n + (1 : Nat)) * (16 : Nat) ≤ (140737488355328 : Nat)) (Tr.need ((-9223372036854775808 : Int) ≤ Int.ofNat k + (1 : Int) ∧ Int.ofNat k + (1 : Int) ≤ (9223372036854775807 : Int)) (Tr.leaf CExit.normal [(0, V.d x7_), (1, V.d (D.sl false (List.length ws) (enc eW ws))), (2, V.d (D.int IntKind.u8 m)), (6, V.ptr (0) (0) (0)), (7, V.ptr (1) (0) (0)), (8, V.ptr (2) (0) (0)), (12, V.d (D.int .i64 (Int.ofNat k + (1 : Int))))] [some x8_, some x9_, some (Blk.box [V.d x10_, V.d x7_, V.d D.nils, V.d D.nils, V.d x11_, V.own (4) (Nat.add n (1 : Nat)) (n + (1 : Nat))]), none, some (Blk.row (73) (2) (Nat.add n (1 : Nat)) (l ++ x6_))]))))))))))) (Tr.leaf (CExit.exit (2)) [(0, V.d x7_), (1, V.d (D.sl false (List.length ws) (enc eW ws))), (2, V.d (D.int IntKind.u8 m)), (6, V.ptr (0) (0) (0)), (7, V.ptr (1) (0) (0)), (8, V.ptr (2) (0) (0)), (12, V.d (D.int .i64 (Int.ofNat k))), (68, V.d (D.bool x2_))] [some x8_, some x9_, some (Blk.box [V.d x10_, V.d x7_, V.d D.nils, V.d D.nils, V.d x11_, V.own (4) n n]), none, some (Blk.row (73) (2) n l)]))))) := by kernel_rfl
theorem x41b (hl ws : List Int) (m : Int) (S : List Spl) (n : Nat) (u : Int) (v : Bool) (l : List D) : sS X41 (doneK r41) [Fr.blk 2, Fr.seq (CCode.at c41 [1,1,1,1,1])] (.exit 2) (E41 hl ws m ++ [(12, vi u), (68, vb v)]) [] (H41b hl S n l) =
    Tr.need (n = n) (Tr.need (n = n) (Tr.lp (CCode.at c41 [1, 1, 1, 1, 1, 0, 1, 0, 0]) [Fr.blk (4), Fr.seq (CCode.at c41 [1, 1, 1, 1, 1, 1])] [(0, V.d (D.sl false (List.length hl) (enc eI hl))), (1, V.d (D.sl false (List.length ws) (enc eW ws))), (2, V.d (D.int IntKind.u8 m)), (6, V.ptr (0) (0) (0)), (7, V.ptr (1) (0) (0)), (8, V.ptr (2) (0) (0)), (14, V.d (D.int .i64 (0 : Int)))] [some (Blk.box [V.d (D.int .i64 (0 : Int)), V.d D.nils, V.d D.nils, V.d D.nils, V.d D.nils, V.d D.nils]), some (Blk.box [V.d D.nils, V.d D.nils]), some (Blk.box [V.d (D.int .i64 (Int.ofNat (List.length hl))), V.d (D.sl false (List.length hl) (enc eI hl)), V.d D.nils, V.d D.nils, V.d (D.sl false (List.length S) (enc eS S)), V.d (D.sl false n l)]), none, none])) := by kernel_rfl
def H41c (hl : List Int) (S : List Spl) (R : List Rng) (n : Nat) (l : List D) : Heap := [Z0, Z1, some (.box [vi hl.length, .d (dsl eI hl), .d .nils, .own 5 n n, .d (dsl eS S), .d (dsl eR R)]), none, none, some (.row 52 3 n l)]
theorem b41c (hl ws : List Int) (m : Int) (S : List Spl) (R : List Rng) (k n : Nat) (l : List D) : sx X41 (CCode.at c41 [1,1,1,1,1,0,1,0,0]) [] leafK (E41 hl ws m ++ [(14, vi k)]) [] (H41c hl S R n l) =
    let x1_ := (dec (1 : Nat) gW (List.length ws) (enc eW ws))
    let x2_ := ((16 : Int) ≠ (0 : Int))
    let x3_ := (Int.tdiv (wordM x1_ (0 : Int)) (16 : Int))
    let x4_ := (decide (Int.ofNat k < (1 : Int) + Int.tmod x3_ (3 : Int)))
    let x5_ := ((12 : Int) ≠ (0 : Int))
    let x6_ := (wordM x1_ (Int.ofNat k + (5 : Int)))
    let x7_ := (Int.tdiv x6_ (16 : Int))
    let x8_ := [D.int .i64 (Int.tmod x6_ (12 : Int)), D.int .i64 (min2 (11 : Int) (Int.tmod x6_ (12 : Int) + Int.tmod x7_ (5 : Int))), D.int .i64 (Int.tmod (Int.tdiv x6_ (128 : Int)) (51 : Int))]
    let x9_ := (D.sl false (List.length hl) (enc eI hl))
    let x10_ := (Blk.box [V.d (D.int .i64 (0 : Int)), V.d D.nils, V.d D.nils, V.d D.nils, V.d D.nils, V.d D.nils])
    let x11_ := (Blk.box [V.d D.nils, V.d D.nils])
    let x12_ := (D.int .i64 (Int.ofNat (List.length hl)))
    let x13_ := (D.sl false (List.length S) (enc eS S))
    let x14_ := (D.sl false (List.length R) (enc eR R))
    Tr.need (enc eW x1_ = enc eW ws ∧ isWords x1_ ∧ (0 : Int) ≤ (0 : Int)) (Tr.need x2_ (Tr.need ((-9223372036854775808 : Int) ≤ Int.tdiv (wordM x1_ (0 : Int)) (16 : Int) ∧ Int.tdiv (wordM x1_ (0 : Int)) (16 : Int) ≤ (9223372036854775807 : Int)) (Tr.need ((3 : Int) ≠ (0 : Int)) (Tr.need ((-9223372036854775808 : Int) ≤ (1 : Int) + Int.tmod x3_ (3 : Int) ∧ (1 : Int) + Int.tmod x3_ (3 : Int) ≤ (9223372036854775807 : Int)) (Tr.br x4_ (Tr.need ((-9223372036854775808 : Int) ≤ Int.ofNat k + (5 : Int) ∧ Int.ofNat k + (5 : Int) ≤ (9223372036854775807 : Int)) (Tr.need (enc eW x1_ = enc eW ws ∧ isWords x1_ ∧ (0 : Int) ≤ Int.ofNat k + (5 : Int)) (Tr.need x5_ (Tr.need x5_ (Tr.need x2_ (Tr.need ((-9223372036854775808 : Int) ≤ Int.tdiv x6_ (16 : Int) ∧ Int.tdiv x6_ (16 : Int) ≤ (9223372036854775807 : Int)) (Tr.need ((5 : Int) ≠ (0 : Int)) (Tr.need ((-9223372036854775808 : Int) ≤ Int.tmod x6_ (12 : Int) + Int.tmod x7_ (5 : Int) ∧ Int.tmod x6_ (12 : Int) + Int.tmod x7_ (5 : Int) ≤ (9223372036854775807 : Int)) (Tr.need ((128 : Int) ≠ (0 : Int)) (Tr.need ((-9223372036854775808 : Int) ≤ Int.tdiv x6_ (128 : Int) ∧ Int.tdiv x6_ (128 : Int) ≤ (9223372036854775807 : Int)) (Tr.need ((51 : Int) ≠ (0 : Int)) (Tr.need (n = n ∧ (52 : Nat) = (52 : Nat) ∧ (3 : Nat) = (3 : Nat) ∧ List.length l = n * (3 : Nat) ∧ List.length x8_ = (1 : Nat) * (3 : Nat) ∧ n + (1 : Nat) ≤ (140737488355328 : Nat) ∧ (n + (1 : Nat)) * (24 : Nat) ≤ (140737488355328 : Nat)) (Tr.need ((-9223372036854775808 : Int) ≤ Int.ofNat k + (1 : Int) ∧ Int.ofNat k + (1 : Int) ≤ (9223372036854775807 : Int)) (Tr.leaf CExit.normal [(0, V.d x9_), (1, V.d (D.sl false (List.length ws) (enc eW ws))), (2, V.d (D.int IntKind.u8 m)), (6, V.ptr (0) (0) (0)), (7, V.ptr (1) (0) (0)), (8, V.ptr (2) (0) (0)), (14, V.d (D.int .i64 (Int.ofNat k + (1 : Int))))] [some x10_, some x11_, some (Blk.box [V.d x12_, V.d x9_, V.d D.nils, V.own (5) (Nat.add n (1 : Nat)) (n + (1 : Nat)), V.d x13_, V.d x14_]), none, none, some (Blk.row (52) (3) (Nat.add n (1 : Nat)) (l ++ x8_))])))))))))))))) (Tr.leaf (CExit.exit (4)) [(0, V.d x9_), (1, V.d (D.sl false (List.length ws) (enc eW ws))), (2, V.d (D.int IntKind.u8 m)), (6, V.ptr (0) (0) (0)), (7, V.ptr (1) (0) (0)), (8, V.ptr (2) (0) (0)), (14, V.d (D.int .i64 (Int.ofNat k))), (96, V.d (D.bool x4_))] [some x10_, some x11_, some (Blk.box [V.d x12_, V.d x9_, V.d D.nils, V.own (5) n n, V.d x13_, V.d x14_]), none, none, some (Blk.row (52) (3) n l)])))))) := by kernel_rfl
theorem x41c (hl ws : List Int) (m : Int) (S : List Spl) (R : List Rng) (n : Nat) (u : Int) (v : Bool) (l : List D) : sS X41 (doneK r41) [Fr.blk 4, Fr.seq (CCode.at c41 [1,1,1,1,1,1])] (.exit 4) (E41 hl ws m ++ [(14, vi u), (96, vb v)]) [] (H41c hl S R n l) =
    Tr.need (n = n) (Tr.need (n = n) (Tr.lp (CCode.at c41 [1, 1, 1, 1, 1, 1, 1, 0, 1, 0, 0]) [Fr.blk (6), Fr.seq (CCode.at c41 [1, 1, 1, 1, 1, 1, 1, 1])] [(0, V.d (D.sl false (List.length hl) (enc eI hl))), (1, V.d (D.sl false (List.length ws) (enc eW ws))), (2, V.d (D.int IntKind.u8 m)), (6, V.ptr (0) (0) (0)), (7, V.ptr (1) (0) (0)), (8, V.ptr (2) (0) (0)), (16, V.ptr (6) (0) (0)), (17, V.d (D.int .i64 (0 : Int)))] [some (Blk.box [V.d (D.int .i64 (0 : Int)), V.d D.nils, V.d D.nils, V.d D.nils, V.d D.nils, V.d D.nils]), some (Blk.box [V.d D.nils, V.d D.nils]), some (Blk.box [V.d (D.int .i64 (Int.ofNat (List.length hl))), V.d (D.sl false (List.length hl) (enc eI hl)), V.d D.nils, V.d (D.sl false n l), V.d (D.sl false (List.length S) (enc eS S)), V.d (D.sl false (List.length R) (enc eR R))]), none, none, none, some (Blk.box [V.d D.nils, V.d D.nils])])) := by kernel_rfl
def Cbox (c : Cmp) : List V := [vi c.houses, .d (.sl false c.held.length (enc eI c.held)), .d (.sl false c.trades.length (enc eT c.trades)), .d (.sl false c.divs.length (enc eV c.divs)), .d (.sl false c.splits.length (enc eS c.splits)), .d (.sl false c.closed.length (enc eR c.closed))]
def Ubox (t : Tru) : List V := [.d (.sl false t.sold.length (enc eI t.sold)), .d (.sl false t.deliv.length (enc eI t.deliv))]
def H41d (c : Cmp) (t : Tru) : Heap := [Z0, Z1, some (.box (Cbox c)), none, none, none, some (.box (Ubox t))]
theorem b41d (hl ws : List Int) (m : Int) (c : Cmp) (t : Tru) (k : Nat) : sx X41 (CCode.at c41 [1,1,1,1,1,1,1,0,1,0,0]) [] leafK (E41 hl ws m ++ [(16, .ptr 6 0 0), (17, vi k)]) [] (H41d c t) =
    let x1_ := (decide ((1 : Int) < Int.ofNat (List.length hl)))
    let x2_ := ((-9223372036854775808 : Int) ≤ (2 : Int) * Int.ofNat k ∧ (2 : Int) * Int.ofNat k ≤ (9223372036854775807 : Int))
    let x3_ := (dec (1 : Nat) gW (List.length ws) (enc eW ws))
    let x4_ := (Int.ofNat (List.length hl) ≠ (0 : Int))
    let x5_ := (wordM x3_ ((2 : Int) * Int.ofNat k + (8 : Int)))
    let x6_ := (Int.tdiv x5_ (4 : Int))
    let x7_ := (Int.ofNat (List.length hl))
    let x8_ := ((128 : Int) ≠ (0 : Int))
    let x9_ := (Int.tdiv x5_ (128 : Int))
    let x10_ := (Int.ofNat (List.length hl) - (1 : Int))
    let x11_ := (wordM x3_ ((2 : Int) * Int.ofNat k + (9 : Int)))
    let x12_ := (Int.tdiv x11_ (16 : Int))
    let x13_ := (Int.tdiv x11_ (64 : Int))
    let x14_ := (Int.tdiv x11_ (128 : Int))
    let x15_ := (Int.tmod x11_ (12 : Int) + Int.tmod x12_ (4 : Int))
    let x16_ := (Int.tdiv x11_ (256 : Int))
    let x17_ := (Int.tdiv x11_ (512 : Int))
    let x18_ := ((0 : Nat) + List.length (Cmp.trades c))
    let x19_ := ((0 : Nat) = (0 : Nat) ∧ (99 : Nat) = (99 : Nat) ∧ (7 : Nat) = (7 : Nat) ∧ 0 = (0 : Nat) * (7 : Nat) ∧ List.length (enc eT (Cmp.trades c)) = List.length (Cmp.trades c) * (7 : Nat) ∧ (0 : Nat) + List.length (Cmp.trades c) ≤ (140737488355328 : Nat) ∧ x18_ * (56 : Nat) ≤ (140737488355328 : Nat))
    let x20_ := (Int.tmod (Int.tmod x5_ x7_ + (1 : Int) + Int.tmod x9_ x10_) x7_)
    let x21_ := ((1 : Int) + Int.tmod x6_ (20 : Int))
    let x22_ := (max2 (0 : Int) (Int.tmod x11_ (12 : Int) - Int.tmod x13_ (2 : Int)))
    let x23_ := (min2 (11 : Int) (Int.tmod x11_ (12 : Int) + Int.tmod x14_ (2 : Int)))
    let x24_ := (max2 (0 : Int) (min2 (11 : Int) x15_ - Int.tmod x16_ (2 : Int)))
    let x25_ := (min2 (11 : Int) (min2 (11 : Int) x15_ + Int.tmod x17_ (2 : Int)))
    let x26_ := [D.int .i64 (Int.tmod x5_ x7_), D.int .i64 x20_, D.int .i64 x21_, D.int .i64 x22_, D.int .i64 x23_, D.int .i64 x24_, D.int .i64 x25_]
    let x27_ := ((0 : Nat) + List.length (Cmp.trades c) + (1 : Nat))
    let x28_ := (1 = 1 ∧ (99 : Nat) = (99 : Nat) ∧ (7 : Nat) = (7 : Nat) ∧ List.length ([] ++ enc eT (Cmp.trades c)) = x18_ * (7 : Nat) ∧ List.length x26_ = (1 : Nat) * (7 : Nat) ∧ (0 : Nat) + List.length (Cmp.trades c) + (1 : Nat) ≤ (140737488355328 : Nat) ∧ x27_ * (56 : Nat) ≤ (140737488355328 : Nat))
    let x29_ := (Int.tmod x11_ (12 : Int))
    let x30_ := (Blk.box [V.d (D.int .i64 (0 : Int)), V.d D.nils, V.d D.nils, V.d D.nils, V.d D.nils, V.d D.nils])
    let x31_ := (Blk.box [V.d D.nils, V.d D.nils])
    let x32_ := (D.int .i64 (Cmp.houses c))
    let x33_ := (List.length (Cmp.held c))
    let x34_ := (D.sl false x33_ (enc eI (Cmp.held c)))
    let x35_ := (List.length (Cmp.divs c))
    let x36_ := (D.sl false x35_ (enc eV (Cmp.divs c)))
    let x37_ := (List.length (Cmp.splits c))
    let x38_ := (D.sl false x37_ (enc eS (Cmp.splits c)))
    let x39_ := (List.length (Cmp.closed c))
    let x40_ := (D.sl false x39_ (enc eR (Cmp.closed c)))
    let x41_ := (Blk.box [V.d x32_, V.d x34_, V.d (D.sl false (List.length (Cmp.trades c)) (enc eT (Cmp.trades c))), V.d x36_, V.d x38_, V.d x40_])
    let x42_ := (List.length (Tru.sold t))
    let x43_ := (List.length (Tru.deliv t))
    let x44_ := (Blk.box [V.d (D.sl false x42_ (enc eI (Tru.sold t))), V.d (D.sl false x43_ (enc eI (Tru.deliv t)))])
    let x45_ := (Blk.box [V.d (D.int .i64 (Int.tmod x5_ x7_)), V.d (D.int .i64 x20_), V.d (D.int .i64 x21_), V.d (D.int .i64 x22_), V.d (D.int .i64 x23_), V.d (D.int .i64 x24_), V.d (D.int .i64 x25_)])
    let x46_ := (Blk.box [V.d x32_, V.d x34_, V.own (9) (2) x27_, V.d x36_, V.d x38_, V.d x40_])
    let x47_ := ([] ++ enc eT (Cmp.trades c) ++ x26_)
    let x48_ := [some x30_, some x31_, some x41_, none, none, none, some x44_, some x45_, some x46_, some (Blk.row (99) (7) (2) x47_)]
    let x49_ := ([(0, V.d (D.sl false (List.length hl) (enc eI hl))), (1, V.d (D.sl false (List.length ws) (enc eW ws))), (2, V.d (D.int IntKind.u8 m)), (6, V.ptr (0) (0) (0)), (7, V.ptr (1) (0) (0)), (8, V.ptr (2) (0) (0)), (16, V.ptr (6) (0) (0)), (17, V.d (D.int .i64 (Int.ofNat k))), (21, V.d (D.int .i64 x29_)), (22, V.d (D.int .i64 (min2 (11 : Int) x15_))), (23, V.ptr (8) (0) (0))] = [(0, V.d (D.sl false (List.length hl) (enc eI hl))), (1, V.d (D.sl false (List.length ws) (enc eW ws))), (2, V.d (D.int IntKind.u8 m)), (6, V.ptr (0) (0) (0)), (7, V.ptr (1) (0) (0)), (8, V.ptr (2) (0) (0)), (16, V.ptr (6) (0) (0)), (17, V.d (D.int .i64 (Int.ofNat k))), (21, V.d (D.int .i64 x29_)), (22, V.d (D.int .i64 (min2 (11 : Int) x15_))), (23, V.ptr (8) (0) (0))] ∧ x48_ = x48_)
    let x50_ := (okL eI (1 : Nat) gI x42_ (enc eI (Tru.sold t)) ∧ List.length (Tru.sold t) ≤ (1000000 : Nat))
    let x51_ := [V.d x32_, V.d x34_, V.d (D.sl false x27_ x47_), V.d x36_, V.d x38_, V.d x40_]
    let x52_ := (some (Blk.box (Cbox c)))
    let x53_ := (some (Blk.box (Ubox t)))
    let x54_ := (Blk.row (3 : Nat) (1 : Nat) (1 : Nat) (enc eI (Tru.sold t)))
    let x55_ := (HLe [some x30_, some x31_, some x41_, none, none, none, some x44_, some x45_, some (Blk.box x51_), none] [fsB (9) (2) x47_ Z0, fsB (9) (2) x47_ Z1, fsB (9) (2) x47_ x52_, fsB (9) (2) x47_ none, fsB (9) (2) x47_ none, fsB (9) (2) x47_ none, fsB (9) (2) x47_ x53_, fsB (9) (2) x47_ (some x45_), fsB (9) (2) x47_ (some x46_), none, some x54_])
    let x56_ := [D.int .i64 x29_]
    let x57_ := (List.length (Tru.sold t) + (1 : Nat))
    let x58_ := ((1 : Nat) = (1 : Nat) ∧ (3 : Nat) = (3 : Nat) ∧ (1 : Nat) = (1 : Nat) ∧ List.length (enc eI (Tru.sold t)) = List.length (Tru.sold t) * (1 : Nat) ∧ List.length x56_ = (1 : Nat) * (1 : Nat) ∧ List.length (Tru.sold t) + (1 : Nat) ≤ (140737488355328 : Nat) ∧ x57_ * (8 : Nat) ≤ (140737488355328 : Nat))
    let x59_ := (okL eI (1 : Nat) gI x43_ (enc eI (Tru.deliv t)) ∧ List.length (Tru.deliv t) ≤ (1000000 : Nat))
    let x60_ := (enc eI (Tru.sold t) ++ x56_)
    let x61_ := (Blk.row (3) (1) (2) x60_)
    let x62_ := (Blk.row (3 : Nat) (1 : Nat) (2) x60_)
    let x63_ := (Blk.row (3 : Nat) (1 : Nat) (1 : Nat) (enc eI (Tru.deliv t)))
    let x64_ := [D.int .i64 (min2 (11 : Int) x15_)]
    let x65_ := (List.length (Tru.deliv t) + (1 : Nat))
    let x66_ := ((1 : Nat) = (1 : Nat) ∧ (3 : Nat) = (3 : Nat) ∧ (1 : Nat) = (1 : Nat) ∧ List.length (enc eI (Tru.deliv t)) = List.length (Tru.deliv t) * (1 : Nat) ∧ List.length x64_ = (1 : Nat) * (1 : Nat) ∧ List.length (Tru.deliv t) + (1 : Nat) ≤ (140737488355328 : Nat) ∧ x65_ * (8 : Nat) ≤ (140737488355328 : Nat))
    let x67_ := (enc eI (Tru.deliv t) ++ x64_)
    let x68_ := (Blk.row (3) (1) (2) x67_)
    let x69_ := [some x30_, some x31_, some x41_, none, none, none, some x44_, some x45_, some (Blk.box x51_), none, some x61_, some x68_, some (Blk.box [V.own (10) (2) x57_, V.own (11) (2) x65_])]
    let x70_ := (dC (Cmp.houses c) x33_ (enc eI (Cmp.held c)) x27_ x47_ x35_ (enc eV (Cmp.divs c)) x37_ (enc eS (Cmp.splits c)) x39_ (enc eR (Cmp.closed c)))
    let x71_ := (dU x57_ x60_ x65_ x67_)
    let x72_ := [V.d (D.sl false x57_ x60_), V.d (D.sl false x65_ x67_)]
    let x73_ := (Cv x70_ = V.agg x51_ ∧ Uv x71_ = V.agg x72_ ∧ faultM x70_ = (0 : Int))
    let x74_ := [some x30_, some x31_, some (Blk.box x51_), none, none, none, some (Blk.box x72_), some x45_, some (Blk.box x51_), none, none, none, some (Blk.box x72_)]
    let x75_ := ((-9223372036854775808 : Int) ≤ Int.ofNat k + (1 : Int) ∧ Int.ofNat k + (1 : Int) ≤ (9223372036854775807 : Int))
    let x76_ := (HLe [some x30_, some x31_, some x41_, none, none, none, some x44_, some x45_, some (Blk.box x51_), none, some x61_, some x31_] [fsB (9) (2) x47_ Z0, fsB (9) (2) x47_ Z1, fsB (9) (2) x47_ x52_, fsB (9) (2) x47_ none, fsB (9) (2) x47_ none, fsB (9) (2) x47_ none, fsB (9) (2) x47_ x53_, fsB (9) (2) x47_ (some x45_), fsB (9) (2) x47_ (some x46_), none, some x62_, some x31_, some x63_])
    let x77_ := [some x30_, some x31_, some (Blk.box x51_), none, none, none, some (Blk.box x72_), some x45_, some (Blk.box x51_), none, none, some (Blk.box x72_), none]
    let x78_ := [some x30_, some x31_, some x41_, none, none, none, some x44_, some x45_, some (Blk.box x51_), none, some x61_, some (Blk.box [V.own (10) (2) x57_, V.own (12) (2) x65_]), some x68_]
    let x79_ := (HLe [some x30_, some x31_, some x41_, none, none, none, some x44_, some x45_, some (Blk.box x51_), none, some x31_] [fsB (9) (2) x47_ Z0, fsB (9) (2) x47_ Z1, fsB (9) (2) x47_ x52_, fsB (9) (2) x47_ none, fsB (9) (2) x47_ none, fsB (9) (2) x47_ none, fsB (9) (2) x47_ x53_, fsB (9) (2) x47_ (some x45_), fsB (9) (2) x47_ (some x46_), none, some x31_, some x54_])
    let x80_ := (HLe [some x30_, some x31_, some x41_, none, none, none, some x44_, some x45_, some (Blk.box x51_), none, some x31_, some x61_] [fsB (9) (2) x47_ Z0, fsB (9) (2) x47_ Z1, fsB (9) (2) x47_ x52_, fsB (9) (2) x47_ none, fsB (9) (2) x47_ none, fsB (9) (2) x47_ none, fsB (9) (2) x47_ x53_, fsB (9) (2) x47_ (some x45_), fsB (9) (2) x47_ (some x46_), none, some x31_, some x62_, some x63_])
    let x81_ := [some x30_, some x31_, some (Blk.box x51_), none, none, none, some (Blk.box x72_), some x45_, some (Blk.box x51_), none, some (Blk.box x72_), none, none]
    let x82_ := [some x30_, some x31_, some x41_, none, none, none, some x44_, some x45_, some (Blk.box x51_), none, some (Blk.box [V.own (11) (2) x57_, V.own (12) (2) x65_]), some x61_, some x68_]
    let x83_ := ([(0, V.d (D.sl false (List.length hl) (enc eI hl))), (1, V.d (D.sl false (List.length ws) (enc eW ws))), (2, V.d (D.int IntKind.u8 m)), (6, V.ptr (0) (0) (0)), (7, V.ptr (1) (0) (0)), (8, V.ptr (2) (0) (0)), (16, V.ptr (6) (0) (0)), (17, V.d (D.int .i64 (Int.ofNat k))), (23, V.ptr (8) (0) (0)), (24, V.ptr (10) (0) (0))] = [(0, V.d (D.sl false (List.length hl) (enc eI hl))), (1, V.d (D.sl false (List.length ws) (enc eW ws))), (2, V.d (D.int IntKind.u8 m)), (6, V.ptr (0) (0) (0)), (7, V.ptr (1) (0) (0)), (8, V.ptr (2) (0) (0)), (16, V.ptr (6) (0) (0)), (17, V.d (D.int .i64 (Int.ofNat k))), (23, V.ptr (8) (0) (0)), (24, V.ptr (10) (0) (0))] ∧ x82_ = x82_)
    let x84_ := [some x30_, some x31_, some x41_, none, none, none, some x44_]
    Tr.need ((5 : Int) ≠ (0 : Int)) (Tr.br (decide (Int.ofNat k < Int.tmod (IntKind.wrap IntKind.i64 m) (5 : Int))) (Tr.br x1_ (Tr.need x2_ (Tr.need ((-9223372036854775808 : Int) ≤ (2 : Int) * Int.ofNat k + (8 : Int) ∧ (2 : Int) * Int.ofNat k + (8 : Int) ≤ (9223372036854775807 : Int)) (Tr.need (enc eW x3_ = enc eW ws ∧ isWords x3_ ∧ (0 : Int) ≤ (2 : Int) * Int.ofNat k + (8 : Int)) (Tr.need x2_ (Tr.need ((-9223372036854775808 : Int) ≤ (2 : Int) * Int.ofNat k + (9 : Int) ∧ (2 : Int) * Int.ofNat k + (9 : Int) ≤ (9223372036854775807 : Int)) (Tr.need (enc eW x3_ = enc eW ws ∧ isWords x3_ ∧ (0 : Int) ≤ (2 : Int) * Int.ofNat k + (9 : Int)) (Tr.need x4_ (Tr.need ((4 : Int) ≠ (0 : Int)) (Tr.need ((-9223372036854775808 : Int) ≤ Int.tdiv x5_ (4 : Int) ∧ Int.tdiv x5_ (4 : Int) ≤ (9223372036854775807 : Int)) (Tr.need ((20 : Int) ≠ (0 : Int)) (Tr.need ((-9223372036854775808 : Int) ≤ (1 : Int) + Int.tmod x6_ (20 : Int) ∧ (1 : Int) + Int.tmod x6_ (20 : Int) ≤ (9223372036854775807 : Int)) (Tr.need ((-9223372036854775808 : Int) ≤ Int.tmod x5_ x7_ + (1 : Int) ∧ Int.tmod x5_ x7_ + (1 : Int) ≤ (9223372036854775807 : Int)) (Tr.need x8_ (Tr.need ((-9223372036854775808 : Int) ≤ Int.tdiv x5_ (128 : Int) ∧ Int.tdiv x5_ (128 : Int) ≤ (9223372036854775807 : Int)) (Tr.need ((-9223372036854775808 : Int) ≤ Int.ofNat (List.length hl) - (1 : Int) ∧ Int.ofNat (List.length hl) - (1 : Int) ≤ (9223372036854775807 : Int)) (Tr.need (Int.ofNat (List.length hl) - (1 : Int) ≠ (0 : Int)) (Tr.need ((-9223372036854775808 : Int) ≤ Int.tmod x5_ x7_ + (1 : Int) + Int.tmod x9_ x10_ ∧ Int.tmod x5_ x7_ + (1 : Int) + Int.tmod x9_ x10_ ≤ (9223372036854775807 : Int)) (Tr.need x4_ (Tr.need ((12 : Int) ≠ (0 : Int)) (Tr.need ((16 : Int) ≠ (0 : Int)) (Tr.need ((-9223372036854775808 : Int) ≤ Int.tdiv x11_ (16 : Int) ∧ Int.tdiv x11_ (16 : Int) ≤ (9223372036854775807 : Int)) (Tr.need ((4 : Int) ≠ (0 : Int)) (Tr.need ((-9223372036854775808 : Int) ≤ Int.tmod x11_ (12 : Int) + Int.tmod x12_ (4 : Int) ∧ Int.tmod x11_ (12 : Int) + Int.tmod x12_ (4 : Int) ≤ (9223372036854775807 : Int)) (Tr.need ((64 : Int) ≠ (0 : Int)) (Tr.need ((-9223372036854775808 : Int) ≤ Int.tdiv x11_ (64 : Int) ∧ Int.tdiv x11_ (64 : Int) ≤ (9223372036854775807 : Int)) (Tr.need ((2 : Int) ≠ (0 : Int)) (Tr.need ((-9223372036854775808 : Int) ≤ Int.tmod x11_ (12 : Int) - Int.tmod x13_ (2 : Int) ∧ Int.tmod x11_ (12 : Int) - Int.tmod x13_ (2 : Int) ≤ (9223372036854775807 : Int)) (Tr.need x8_ (Tr.need ((-9223372036854775808 : Int) ≤ Int.tdiv x11_ (128 : Int) ∧ Int.tdiv x11_ (128 : Int) ≤ (9223372036854775807 : Int)) (Tr.need ((2 : Int) ≠ (0 : Int)) (Tr.need ((-9223372036854775808 : Int) ≤ Int.tmod x11_ (12 : Int) + Int.tmod x14_ (2 : Int) ∧ Int.tmod x11_ (12 : Int) + Int.tmod x14_ (2 : Int) ≤ (9223372036854775807 : Int)) (Tr.need ((256 : Int) ≠ (0 : Int)) (Tr.need ((-9223372036854775808 : Int) ≤ Int.tdiv x11_ (256 : Int) ∧ Int.tdiv x11_ (256 : Int) ≤ (9223372036854775807 : Int)) (Tr.need ((2 : Int) ≠ (0 : Int)) (Tr.need ((-9223372036854775808 : Int) ≤ min2 (11 : Int) x15_ - Int.tmod x16_ (2 : Int) ∧ min2 (11 : Int) x15_ - Int.tmod x16_ (2 : Int) ≤ (9223372036854775807 : Int)) (Tr.need ((512 : Int) ≠ (0 : Int)) (Tr.need ((-9223372036854775808 : Int) ≤ Int.tdiv x11_ (512 : Int) ∧ Int.tdiv x11_ (512 : Int) ≤ (9223372036854775807 : Int)) (Tr.need ((2 : Int) ≠ (0 : Int)) (Tr.need ((-9223372036854775808 : Int) ≤ min2 (11 : Int) x15_ + Int.tmod x17_ (2 : Int) ∧ min2 (11 : Int) x15_ + Int.tmod x17_ (2 : Int) ≤ (9223372036854775807 : Int)) (Tr.need x19_ (Tr.need x28_ (Tr.need x19_ (Tr.need x28_ (Tr.need x49_ (Tr.need x19_ (Tr.need x28_ (Tr.need x49_ (Tr.need (2 = 2) (Tr.need (2 = 2) (Tr.two (Tr.need x50_ (Tr.need x55_ (Tr.two (Tr.need x58_ (Tr.two (Tr.need x59_ (Tr.need (HLe [some x30_, some x31_, some x41_, none, none, none, some x44_, some x45_, some (Blk.box x51_), none, some x61_] [fsB (9) (2) x47_ Z0, fsB (9) (2) x47_ Z1, fsB (9) (2) x47_ x52_, fsB (9) (2) x47_ none, fsB (9) (2) x47_ none, fsB (9) (2) x47_ none, fsB (9) (2) x47_ x53_, fsB (9) (2) x47_ (some x45_), fsB (9) (2) x47_ (some x46_), none, some x62_, some x63_]) (Tr.need x66_ (Tr.need x66_ (Tr.need ([(0, V.d (D.sl false (List.length hl) (enc eI hl))), (1, V.d (D.sl false (List.length ws) (enc eW ws))), (2, V.d (D.int IntKind.u8 m)), (6, V.ptr (0) (0) (0)), (7, V.ptr (1) (0) (0)), (8, V.ptr (2) (0) (0)), (16, V.ptr (6) (0) (0)), (17, V.d (D.int .i64 (Int.ofNat k))), (23, V.ptr (8) (0) (0)), (24, V.ptr (12) (0) (0))] = [(0, V.d (D.sl false (List.length hl) (enc eI hl))), (1, V.d (D.sl false (List.length ws) (enc eW ws))), (2, V.d (D.int IntKind.u8 m)), (6, V.ptr (0) (0) (0)), (7, V.ptr (1) (0) (0)), (8, V.ptr (2) (0) (0)), (16, V.ptr (6) (0) (0)), (17, V.d (D.int .i64 (Int.ofNat k))), (23, V.ptr (8) (0) (0)), (24, V.ptr (12) (0) (0))] ∧ x69_ = x69_) (Tr.need (2 = 2) (Tr.need (2 = 2) (Tr.need (2 = 2) (Tr.need (2 = 2) (Tr.need x73_ (Tr.br (truthB x70_ x71_) (Tr.need ([(0, V.d (D.sl false (List.length hl) (enc eI hl))), (1, V.d (D.sl false (List.length ws) (enc eW ws))), (2, V.d (D.int IntKind.u8 m)), (6, V.ptr (0) (0) (0)), (7, V.ptr (1) (0) (0)), (8, V.ptr (2) (0) (0)), (16, V.ptr (6) (0) (0)), (17, V.d (D.int .i64 (Int.ofNat k)))] = [(0, V.d (D.sl false (List.length hl) (enc eI hl))), (1, V.d (D.sl false (List.length ws) (enc eW ws))), (2, V.d (D.int IntKind.u8 m)), (6, V.ptr (0) (0) (0)), (7, V.ptr (1) (0) (0)), (8, V.ptr (2) (0) (0)), (16, V.ptr (6) (0) (0)), (17, V.d (D.int .i64 (Int.ofNat k)))] ∧ x74_ = x74_) (Tr.need x75_ (Tr.leaf CExit.normal [(0, V.d (D.sl false (List.length hl) (enc eI hl))), (1, V.d (D.sl false (List.length ws) (enc eW ws))), (2, V.d (D.int IntKind.u8 m)), (6, V.ptr (0) (0) (0)), (7, V.ptr (1) (0) (0)), (8, V.ptr (2) (0) (0)), (16, V.ptr (6) (0) (0)), (17, V.d (D.int .i64 (Int.ofNat k + (1 : Int))))] x74_))) (Tr.need x75_ (Tr.leaf CExit.normal [(0, V.d (D.sl false (List.length hl) (enc eI hl))), (1, V.d (D.sl false (List.length ws) (enc eW ws))), (2, V.d (D.int IntKind.u8 m)), (6, V.ptr (0) (0) (0)), (7, V.ptr (1) (0) (0)), (8, V.ptr (2) (0) (0)), (16, V.ptr (6) (0) (0)), (17, V.d (D.int .i64 (Int.ofNat k + (1 : Int))))] [some x30_, some x31_, some x41_, none, none, none, some x44_, some x45_, some (Blk.box x51_), none, none, none, some (Blk.box x72_)]))))))))))))) (Tr.need x59_ (Tr.need x76_ (Tr.need x66_ (Tr.need (2 = 2) (Tr.need (2 = 2) (Tr.need (2 = 2) (Tr.need (2 = 2) (Tr.need x73_ (Tr.br (truthB x70_ x71_) (Tr.need ([(0, V.d (D.sl false (List.length hl) (enc eI hl))), (1, V.d (D.sl false (List.length ws) (enc eW ws))), (2, V.d (D.int IntKind.u8 m)), (6, V.ptr (0) (0) (0)), (7, V.ptr (1) (0) (0)), (8, V.ptr (2) (0) (0)), (16, V.ptr (6) (0) (0)), (17, V.d (D.int .i64 (Int.ofNat k)))] = [(0, V.d (D.sl false (List.length hl) (enc eI hl))), (1, V.d (D.sl false (List.length ws) (enc eW ws))), (2, V.d (D.int IntKind.u8 m)), (6, V.ptr (0) (0) (0)), (7, V.ptr (1) (0) (0)), (8, V.ptr (2) (0) (0)), (16, V.ptr (6) (0) (0)), (17, V.d (D.int .i64 (Int.ofNat k)))] ∧ x77_ = x77_) (Tr.need x75_ (Tr.leaf CExit.normal [(0, V.d (D.sl false (List.length hl) (enc eI hl))), (1, V.d (D.sl false (List.length ws) (enc eW ws))), (2, V.d (D.int IntKind.u8 m)), (6, V.ptr (0) (0) (0)), (7, V.ptr (1) (0) (0)), (8, V.ptr (2) (0) (0)), (16, V.ptr (6) (0) (0)), (17, V.d (D.int .i64 (Int.ofNat k + (1 : Int))))] x77_))) (Tr.need x75_ (Tr.leaf CExit.normal [(0, V.d (D.sl false (List.length hl) (enc eI hl))), (1, V.d (D.sl false (List.length ws) (enc eW ws))), (2, V.d (D.int IntKind.u8 m)), (6, V.ptr (0) (0) (0)), (7, V.ptr (1) (0) (0)), (8, V.ptr (2) (0) (0)), (16, V.ptr (6) (0) (0)), (17, V.d (D.int .i64 (Int.ofNat k + (1 : Int))))] [some x30_, some x31_, some x41_, none, none, none, some x44_, some x45_, some (Blk.box x51_), none, none, some (Blk.box x72_), none]))))))))))))) (Tr.two (Tr.two (Tr.need x58_ (Tr.two (Tr.need x59_ (Tr.need (HLe [some x30_, some x31_, some x41_, none, none, none, some x44_, some x45_, some (Blk.box x51_), none, some x61_] [fsB (9) (2) x47_ Z0, fsB (9) (2) x47_ Z1, fsB (9) (2) x47_ x52_, fsB (9) (2) x47_ none, fsB (9) (2) x47_ none, fsB (9) (2) x47_ none, fsB (9) (2) x47_ x53_, fsB (9) (2) x47_ (some x45_), fsB (9) (2) x47_ (some x46_), none, some x62_, some x63_]) (Tr.need x66_ (Tr.need x66_ (Tr.need ([(0, V.d (D.sl false (List.length hl) (enc eI hl))), (1, V.d (D.sl false (List.length ws) (enc eW ws))), (2, V.d (D.int IntKind.u8 m)), (6, V.ptr (0) (0) (0)), (7, V.ptr (1) (0) (0)), (8, V.ptr (2) (0) (0)), (16, V.ptr (6) (0) (0)), (17, V.d (D.int .i64 (Int.ofNat k))), (23, V.ptr (8) (0) (0)), (24, V.ptr (12) (0) (0))] = [(0, V.d (D.sl false (List.length hl) (enc eI hl))), (1, V.d (D.sl false (List.length ws) (enc eW ws))), (2, V.d (D.int IntKind.u8 m)), (6, V.ptr (0) (0) (0)), (7, V.ptr (1) (0) (0)), (8, V.ptr (2) (0) (0)), (16, V.ptr (6) (0) (0)), (17, V.d (D.int .i64 (Int.ofNat k))), (23, V.ptr (8) (0) (0)), (24, V.ptr (12) (0) (0))] ∧ x69_ = x69_) (Tr.need (2 = 2) (Tr.need (2 = 2) (Tr.need (2 = 2) (Tr.need (2 = 2) (Tr.need x73_ (Tr.br (truthB x70_ x71_) (Tr.need ([(0, V.d (D.sl false (List.length hl) (enc eI hl))), (1, V.d (D.sl false (List.length ws) (enc eW ws))), (2, V.d (D.int IntKind.u8 m)), (6, V.ptr (0) (0) (0)), (7, V.ptr (1) (0) (0)), (8, V.ptr (2) (0) (0)), (16, V.ptr (6) (0) (0)), (17, V.d (D.int .i64 (Int.ofNat k)))] = [(0, V.d (D.sl false (List.length hl) (enc eI hl))), (1, V.d (D.sl false (List.length ws) (enc eW ws))), (2, V.d (D.int IntKind.u8 m)), (6, V.ptr (0) (0) (0)), (7, V.ptr (1) (0) (0)), (8, V.ptr (2) (0) (0)), (16, V.ptr (6) (0) (0)), (17, V.d (D.int .i64 (Int.ofNat k)))] ∧ x74_ = x74_) (Tr.need x75_ (Tr.leaf CExit.normal [(0, V.d (D.sl false (List.length hl) (enc eI hl))), (1, V.d (D.sl false (List.length ws) (enc eW ws))), (2, V.d (D.int IntKind.u8 m)), (6, V.ptr (0) (0) (0)), (7, V.ptr (1) (0) (0)), (8, V.ptr (2) (0) (0)), (16, V.ptr (6) (0) (0)), (17, V.d (D.int .i64 (Int.ofNat k + (1 : Int))))] x74_))) (Tr.need x75_ (Tr.leaf CExit.normal [(0, V.d (D.sl false (List.length hl) (enc eI hl))), (1, V.d (D.sl false (List.length ws) (enc eW ws))), (2, V.d (D.int IntKind.u8 m)), (6, V.ptr (0) (0) (0)), (7, V.ptr (1) (0) (0)), (8, V.ptr (2) (0) (0)), (16, V.ptr (6) (0) (0)), (17, V.d (D.int .i64 (Int.ofNat k + (1 : Int))))] [some x30_, some x31_, some x41_, none, none, none, some x44_, some x45_, some (Blk.box x51_), none, none, none, some (Blk.box x72_)]))))))))))))) (Tr.need x59_ (Tr.need x76_ (Tr.need x66_ (Tr.need (2 = 2) (Tr.need (2 = 2) (Tr.need (2 = 2) (Tr.need (2 = 2) (Tr.need x73_ (Tr.br (truthB x70_ x71_) (Tr.need ([(0, V.d (D.sl false (List.length hl) (enc eI hl))), (1, V.d (D.sl false (List.length ws) (enc eW ws))), (2, V.d (D.int IntKind.u8 m)), (6, V.ptr (0) (0) (0)), (7, V.ptr (1) (0) (0)), (8, V.ptr (2) (0) (0)), (16, V.ptr (6) (0) (0)), (17, V.d (D.int .i64 (Int.ofNat k)))] = [(0, V.d (D.sl false (List.length hl) (enc eI hl))), (1, V.d (D.sl false (List.length ws) (enc eW ws))), (2, V.d (D.int IntKind.u8 m)), (6, V.ptr (0) (0) (0)), (7, V.ptr (1) (0) (0)), (8, V.ptr (2) (0) (0)), (16, V.ptr (6) (0) (0)), (17, V.d (D.int .i64 (Int.ofNat k)))] ∧ x77_ = x77_) (Tr.need x75_ (Tr.leaf CExit.normal [(0, V.d (D.sl false (List.length hl) (enc eI hl))), (1, V.d (D.sl false (List.length ws) (enc eW ws))), (2, V.d (D.int IntKind.u8 m)), (6, V.ptr (0) (0) (0)), (7, V.ptr (1) (0) (0)), (8, V.ptr (2) (0) (0)), (16, V.ptr (6) (0) (0)), (17, V.d (D.int .i64 (Int.ofNat k + (1 : Int))))] x77_))) (Tr.need x75_ (Tr.leaf CExit.normal [(0, V.d (D.sl false (List.length hl) (enc eI hl))), (1, V.d (D.sl false (List.length ws) (enc eW ws))), (2, V.d (D.int IntKind.u8 m)), (6, V.ptr (0) (0) (0)), (7, V.ptr (1) (0) (0)), (8, V.ptr (2) (0) (0)), (16, V.ptr (6) (0) (0)), (17, V.d (D.int .i64 (Int.ofNat k + (1 : Int))))] [some x30_, some x31_, some x41_, none, none, none, some x44_, some x45_, some (Blk.box x51_), none, none, some (Blk.box x72_), none]))))))))))))) (Tr.need x58_ (Tr.need x59_ (Tr.need x76_ (Tr.need x66_ (Tr.need (2 = 2) (Tr.need (2 = 2) (Tr.need (2 = 2) (Tr.need (2 = 2) (Tr.need x73_ (Tr.br (truthB x70_ x71_) (Tr.need ([(0, V.d (D.sl false (List.length hl) (enc eI hl))), (1, V.d (D.sl false (List.length ws) (enc eW ws))), (2, V.d (D.int IntKind.u8 m)), (6, V.ptr (0) (0) (0)), (7, V.ptr (1) (0) (0)), (8, V.ptr (2) (0) (0)), (16, V.ptr (6) (0) (0)), (17, V.d (D.int .i64 (Int.ofNat k)))] = [(0, V.d (D.sl false (List.length hl) (enc eI hl))), (1, V.d (D.sl false (List.length ws) (enc eW ws))), (2, V.d (D.int IntKind.u8 m)), (6, V.ptr (0) (0) (0)), (7, V.ptr (1) (0) (0)), (8, V.ptr (2) (0) (0)), (16, V.ptr (6) (0) (0)), (17, V.d (D.int .i64 (Int.ofNat k)))] ∧ x77_ = x77_) (Tr.need x75_ (Tr.leaf CExit.normal [(0, V.d (D.sl false (List.length hl) (enc eI hl))), (1, V.d (D.sl false (List.length ws) (enc eW ws))), (2, V.d (D.int IntKind.u8 m)), (6, V.ptr (0) (0) (0)), (7, V.ptr (1) (0) (0)), (8, V.ptr (2) (0) (0)), (16, V.ptr (6) (0) (0)), (17, V.d (D.int .i64 (Int.ofNat k + (1 : Int))))] x77_))) (Tr.need x75_ (Tr.leaf CExit.normal [(0, V.d (D.sl false (List.length hl) (enc eI hl))), (1, V.d (D.sl false (List.length ws) (enc eW ws))), (2, V.d (D.int IntKind.u8 m)), (6, V.ptr (0) (0) (0)), (7, V.ptr (1) (0) (0)), (8, V.ptr (2) (0) (0)), (16, V.ptr (6) (0) (0)), (17, V.d (D.int .i64 (Int.ofNat k + (1 : Int))))] [some x30_, some x31_, some x41_, none, none, none, some x44_, some x45_, some (Blk.box x51_), none, none, some (Blk.box x72_), none]))))))))))))) (Tr.need x58_ (Tr.need x59_ (Tr.need x76_ (Tr.need x66_ (Tr.need x58_ (Tr.need x59_ (Tr.need x76_ (Tr.need x66_ (Tr.need ([(0, V.d (D.sl false (List.length hl) (enc eI hl))), (1, V.d (D.sl false (List.length ws) (enc eW ws))), (2, V.d (D.int IntKind.u8 m)), (6, V.ptr (0) (0) (0)), (7, V.ptr (1) (0) (0)), (8, V.ptr (2) (0) (0)), (16, V.ptr (6) (0) (0)), (17, V.d (D.int .i64 (Int.ofNat k))), (23, V.ptr (8) (0) (0)), (24, V.ptr (11) (0) (0))] = [(0, V.d (D.sl false (List.length hl) (enc eI hl))), (1, V.d (D.sl false (List.length ws) (enc eW ws))), (2, V.d (D.int IntKind.u8 m)), (6, V.ptr (0) (0) (0)), (7, V.ptr (1) (0) (0)), (8, V.ptr (2) (0) (0)), (16, V.ptr (6) (0) (0)), (17, V.d (D.int .i64 (Int.ofNat k))), (23, V.ptr (8) (0) (0)), (24, V.ptr (11) (0) (0))] ∧ x78_ = x78_) (Tr.need (2 = 2) (Tr.need (2 = 2) (Tr.need (2 = 2) (Tr.need (2 = 2) (Tr.need x73_ (Tr.br (truthB x70_ x71_) (Tr.need ([(0, V.d (D.sl false (List.length hl) (enc eI hl))), (1, V.d (D.sl false (List.length ws) (enc eW ws))), (2, V.d (D.int IntKind.u8 m)), (6, V.ptr (0) (0) (0)), (7, V.ptr (1) (0) (0)), (8, V.ptr (2) (0) (0)), (16, V.ptr (6) (0) (0)), (17, V.d (D.int .i64 (Int.ofNat k)))] = [(0, V.d (D.sl false (List.length hl) (enc eI hl))), (1, V.d (D.sl false (List.length ws) (enc eW ws))), (2, V.d (D.int IntKind.u8 m)), (6, V.ptr (0) (0) (0)), (7, V.ptr (1) (0) (0)), (8, V.ptr (2) (0) (0)), (16, V.ptr (6) (0) (0)), (17, V.d (D.int .i64 (Int.ofNat k)))] ∧ x77_ = x77_) (Tr.need x75_ (Tr.leaf CExit.normal [(0, V.d (D.sl false (List.length hl) (enc eI hl))), (1, V.d (D.sl false (List.length ws) (enc eW ws))), (2, V.d (D.int IntKind.u8 m)), (6, V.ptr (0) (0) (0)), (7, V.ptr (1) (0) (0)), (8, V.ptr (2) (0) (0)), (16, V.ptr (6) (0) (0)), (17, V.d (D.int .i64 (Int.ofNat k + (1 : Int))))] x77_))) (Tr.need x75_ (Tr.leaf CExit.normal [(0, V.d (D.sl false (List.length hl) (enc eI hl))), (1, V.d (D.sl false (List.length ws) (enc eW ws))), (2, V.d (D.int IntKind.u8 m)), (6, V.ptr (0) (0) (0)), (7, V.ptr (1) (0) (0)), (8, V.ptr (2) (0) (0)), (16, V.ptr (6) (0) (0)), (17, V.d (D.int .i64 (Int.ofNat k + (1 : Int))))] [some x30_, some x31_, some x41_, none, none, none, some x44_, some x45_, some (Blk.box x51_), none, none, some (Blk.box x72_), none]))))))))))))))))))))) (Tr.two (Tr.two (Tr.need x50_ (Tr.need x55_ (Tr.two (Tr.need x58_ (Tr.two (Tr.need x59_ (Tr.need (HLe [some x30_, some x31_, some x41_, none, none, none, some x44_, some x45_, some (Blk.box x51_), none, some x61_] [fsB (9) (2) x47_ Z0, fsB (9) (2) x47_ Z1, fsB (9) (2) x47_ x52_, fsB (9) (2) x47_ none, fsB (9) (2) x47_ none, fsB (9) (2) x47_ none, fsB (9) (2) x47_ x53_, fsB (9) (2) x47_ (some x45_), fsB (9) (2) x47_ (some x46_), none, some x62_, some x63_]) (Tr.need x66_ (Tr.need x66_ (Tr.need ([(0, V.d (D.sl false (List.length hl) (enc eI hl))), (1, V.d (D.sl false (List.length ws) (enc eW ws))), (2, V.d (D.int IntKind.u8 m)), (6, V.ptr (0) (0) (0)), (7, V.ptr (1) (0) (0)), (8, V.ptr (2) (0) (0)), (16, V.ptr (6) (0) (0)), (17, V.d (D.int .i64 (Int.ofNat k))), (23, V.ptr (8) (0) (0)), (24, V.ptr (12) (0) (0))] = [(0, V.d (D.sl false (List.length hl) (enc eI hl))), (1, V.d (D.sl false (List.length ws) (enc eW ws))), (2, V.d (D.int IntKind.u8 m)), (6, V.ptr (0) (0) (0)), (7, V.ptr (1) (0) (0)), (8, V.ptr (2) (0) (0)), (16, V.ptr (6) (0) (0)), (17, V.d (D.int .i64 (Int.ofNat k))), (23, V.ptr (8) (0) (0)), (24, V.ptr (12) (0) (0))] ∧ x69_ = x69_) (Tr.need (2 = 2) (Tr.need (2 = 2) (Tr.need (2 = 2) (Tr.need (2 = 2) (Tr.need x73_ (Tr.br (truthB x70_ x71_) (Tr.need ([(0, V.d (D.sl false (List.length hl) (enc eI hl))), (1, V.d (D.sl false (List.length ws) (enc eW ws))), (2, V.d (D.int IntKind.u8 m)), (6, V.ptr (0) (0) (0)), (7, V.ptr (1) (0) (0)), (8, V.ptr (2) (0) (0)), (16, V.ptr (6) (0) (0)), (17, V.d (D.int .i64 (Int.ofNat k)))] = [(0, V.d (D.sl false (List.length hl) (enc eI hl))), (1, V.d (D.sl false (List.length ws) (enc eW ws))), (2, V.d (D.int IntKind.u8 m)), (6, V.ptr (0) (0) (0)), (7, V.ptr (1) (0) (0)), (8, V.ptr (2) (0) (0)), (16, V.ptr (6) (0) (0)), (17, V.d (D.int .i64 (Int.ofNat k)))] ∧ x74_ = x74_) (Tr.need x75_ (Tr.leaf CExit.normal [(0, V.d (D.sl false (List.length hl) (enc eI hl))), (1, V.d (D.sl false (List.length ws) (enc eW ws))), (2, V.d (D.int IntKind.u8 m)), (6, V.ptr (0) (0) (0)), (7, V.ptr (1) (0) (0)), (8, V.ptr (2) (0) (0)), (16, V.ptr (6) (0) (0)), (17, V.d (D.int .i64 (Int.ofNat k + (1 : Int))))] x74_))) (Tr.need x75_ (Tr.leaf CExit.normal [(0, V.d (D.sl false (List.length hl) (enc eI hl))), (1, V.d (D.sl false (List.length ws) (enc eW ws))), (2, V.d (D.int IntKind.u8 m)), (6, V.ptr (0) (0) (0)), (7, V.ptr (1) (0) (0)), (8, V.ptr (2) (0) (0)), (16, V.ptr (6) (0) (0)), (17, V.d (D.int .i64 (Int.ofNat k + (1 : Int))))] [some x30_, some x31_, some x41_, none, none, none, some x44_, some x45_, some (Blk.box x51_), none, none, none, some (Blk.box x72_)]))))))))))))) (Tr.need x59_ (Tr.need x76_ (Tr.need x66_ (Tr.need (2 = 2) (Tr.need (2 = 2) (Tr.need (2 = 2) (Tr.need (2 = 2) (Tr.need x73_ (Tr.br (truthB x70_ x71_) (Tr.need ([(0, V.d (D.sl false (List.length hl) (enc eI hl))), (1, V.d (D.sl false (List.length ws) (enc eW ws))), (2, V.d (D.int IntKind.u8 m)), (6, V.ptr (0) (0) (0)), (7, V.ptr (1) (0) (0)), (8, V.ptr (2) (0) (0)), (16, V.ptr (6) (0) (0)), (17, V.d (D.int .i64 (Int.ofNat k)))] = [(0, V.d (D.sl false (List.length hl) (enc eI hl))), (1, V.d (D.sl false (List.length ws) (enc eW ws))), (2, V.d (D.int IntKind.u8 m)), (6, V.ptr (0) (0) (0)), (7, V.ptr (1) (0) (0)), (8, V.ptr (2) (0) (0)), (16, V.ptr (6) (0) (0)), (17, V.d (D.int .i64 (Int.ofNat k)))] ∧ x77_ = x77_) (Tr.need x75_ (Tr.leaf CExit.normal [(0, V.d (D.sl false (List.length hl) (enc eI hl))), (1, V.d (D.sl false (List.length ws) (enc eW ws))), (2, V.d (D.int IntKind.u8 m)), (6, V.ptr (0) (0) (0)), (7, V.ptr (1) (0) (0)), (8, V.ptr (2) (0) (0)), (16, V.ptr (6) (0) (0)), (17, V.d (D.int .i64 (Int.ofNat k + (1 : Int))))] x77_))) (Tr.need x75_ (Tr.leaf CExit.normal [(0, V.d (D.sl false (List.length hl) (enc eI hl))), (1, V.d (D.sl false (List.length ws) (enc eW ws))), (2, V.d (D.int IntKind.u8 m)), (6, V.ptr (0) (0) (0)), (7, V.ptr (1) (0) (0)), (8, V.ptr (2) (0) (0)), (16, V.ptr (6) (0) (0)), (17, V.d (D.int .i64 (Int.ofNat k + (1 : Int))))] [some x30_, some x31_, some x41_, none, none, none, some x44_, some x45_, some (Blk.box x51_), none, none, some (Blk.box x72_), none]))))))))))))) (Tr.need x58_ (Tr.need x59_ (Tr.need x76_ (Tr.need x66_ (Tr.need (2 = 2) (Tr.need (2 = 2) (Tr.need (2 = 2) (Tr.need (2 = 2) (Tr.need x73_ (Tr.br (truthB x70_ x71_) (Tr.need ([(0, V.d (D.sl false (List.length hl) (enc eI hl))), (1, V.d (D.sl false (List.length ws) (enc eW ws))), (2, V.d (D.int IntKind.u8 m)), (6, V.ptr (0) (0) (0)), (7, V.ptr (1) (0) (0)), (8, V.ptr (2) (0) (0)), (16, V.ptr (6) (0) (0)), (17, V.d (D.int .i64 (Int.ofNat k)))] = [(0, V.d (D.sl false (List.length hl) (enc eI hl))), (1, V.d (D.sl false (List.length ws) (enc eW ws))), (2, V.d (D.int IntKind.u8 m)), (6, V.ptr (0) (0) (0)), (7, V.ptr (1) (0) (0)), (8, V.ptr (2) (0) (0)), (16, V.ptr (6) (0) (0)), (17, V.d (D.int .i64 (Int.ofNat k)))] ∧ x77_ = x77_) (Tr.need x75_ (Tr.leaf CExit.normal [(0, V.d (D.sl false (List.length hl) (enc eI hl))), (1, V.d (D.sl false (List.length ws) (enc eW ws))), (2, V.d (D.int IntKind.u8 m)), (6, V.ptr (0) (0) (0)), (7, V.ptr (1) (0) (0)), (8, V.ptr (2) (0) (0)), (16, V.ptr (6) (0) (0)), (17, V.d (D.int .i64 (Int.ofNat k + (1 : Int))))] x77_))) (Tr.need x75_ (Tr.leaf CExit.normal [(0, V.d (D.sl false (List.length hl) (enc eI hl))), (1, V.d (D.sl false (List.length ws) (enc eW ws))), (2, V.d (D.int IntKind.u8 m)), (6, V.ptr (0) (0) (0)), (7, V.ptr (1) (0) (0)), (8, V.ptr (2) (0) (0)), (16, V.ptr (6) (0) (0)), (17, V.d (D.int .i64 (Int.ofNat k + (1 : Int))))] [some x30_, some x31_, some x41_, none, none, none, some x44_, some x45_, some (Blk.box x51_), none, none, some (Blk.box x72_), none]))))))))))))))) (Tr.need x50_ (Tr.need x79_ (Tr.need x58_ (Tr.need x59_ (Tr.need x80_ (Tr.need x66_ (Tr.need (2 = 2) (Tr.need (2 = 2) (Tr.need (2 = 2) (Tr.need (2 = 2) (Tr.need x73_ (Tr.br (truthB x70_ x71_) (Tr.need ([(0, V.d (D.sl false (List.length hl) (enc eI hl))), (1, V.d (D.sl false (List.length ws) (enc eW ws))), (2, V.d (D.int IntKind.u8 m)), (6, V.ptr (0) (0) (0)), (7, V.ptr (1) (0) (0)), (8, V.ptr (2) (0) (0)), (16, V.ptr (6) (0) (0)), (17, V.d (D.int .i64 (Int.ofNat k)))] = [(0, V.d (D.sl false (List.length hl) (enc eI hl))), (1, V.d (D.sl false (List.length ws) (enc eW ws))), (2, V.d (D.int IntKind.u8 m)), (6, V.ptr (0) (0) (0)), (7, V.ptr (1) (0) (0)), (8, V.ptr (2) (0) (0)), (16, V.ptr (6) (0) (0)), (17, V.d (D.int .i64 (Int.ofNat k)))] ∧ x81_ = x81_) (Tr.need x75_ (Tr.leaf CExit.normal [(0, V.d (D.sl false (List.length hl) (enc eI hl))), (1, V.d (D.sl false (List.length ws) (enc eW ws))), (2, V.d (D.int IntKind.u8 m)), (6, V.ptr (0) (0) (0)), (7, V.ptr (1) (0) (0)), (8, V.ptr (2) (0) (0)), (16, V.ptr (6) (0) (0)), (17, V.d (D.int .i64 (Int.ofNat k + (1 : Int))))] x81_))) (Tr.need x75_ (Tr.leaf CExit.normal [(0, V.d (D.sl false (List.length hl) (enc eI hl))), (1, V.d (D.sl false (List.length ws) (enc eW ws))), (2, V.d (D.int IntKind.u8 m)), (6, V.ptr (0) (0) (0)), (7, V.ptr (1) (0) (0)), (8, V.ptr (2) (0) (0)), (16, V.ptr (6) (0) (0)), (17, V.d (D.int .i64 (Int.ofNat k + (1 : Int))))] [some x30_, some x31_, some x41_, none, none, none, some x44_, some x45_, some (Blk.box x51_), none, some (Blk.box x72_), none, none]))))))))))))))) (Tr.need x50_ (Tr.need x79_ (Tr.need x58_ (Tr.need x59_ (Tr.need x80_ (Tr.need x66_ (Tr.need x58_ (Tr.need x59_ (Tr.need x80_ (Tr.need x66_ (Tr.need x83_ (Tr.need x50_ (Tr.need x79_ (Tr.need x58_ (Tr.need x59_ (Tr.need x80_ (Tr.need x66_ (Tr.need x83_ (Tr.need (2 = 2) (Tr.need (2 = 2) (Tr.need (2 = 2) (Tr.need (2 = 2) (Tr.need x73_ (Tr.br (truthB x70_ x71_) (Tr.need ([(0, V.d (D.sl false (List.length hl) (enc eI hl))), (1, V.d (D.sl false (List.length ws) (enc eW ws))), (2, V.d (D.int IntKind.u8 m)), (6, V.ptr (0) (0) (0)), (7, V.ptr (1) (0) (0)), (8, V.ptr (2) (0) (0)), (16, V.ptr (6) (0) (0)), (17, V.d (D.int .i64 (Int.ofNat k)))] = [(0, V.d (D.sl false (List.length hl) (enc eI hl))), (1, V.d (D.sl false (List.length ws) (enc eW ws))), (2, V.d (D.int IntKind.u8 m)), (6, V.ptr (0) (0) (0)), (7, V.ptr (1) (0) (0)), (8, V.ptr (2) (0) (0)), (16, V.ptr (6) (0) (0)), (17, V.d (D.int .i64 (Int.ofNat k)))] ∧ x81_ = x81_) (Tr.need x75_ (Tr.leaf CExit.normal [(0, V.d (D.sl false (List.length hl) (enc eI hl))), (1, V.d (D.sl false (List.length ws) (enc eW ws))), (2, V.d (D.int IntKind.u8 m)), (6, V.ptr (0) (0) (0)), (7, V.ptr (1) (0) (0)), (8, V.ptr (2) (0) (0)), (16, V.ptr (6) (0) (0)), (17, V.d (D.int .i64 (Int.ofNat k + (1 : Int))))] x81_))) (Tr.need x75_ (Tr.leaf CExit.normal [(0, V.d (D.sl false (List.length hl) (enc eI hl))), (1, V.d (D.sl false (List.length ws) (enc eW ws))), (2, V.d (D.int IntKind.u8 m)), (6, V.ptr (0) (0) (0)), (7, V.ptr (1) (0) (0)), (8, V.ptr (2) (0) (0)), (16, V.ptr (6) (0) (0)), (17, V.d (D.int .i64 (Int.ofNat k + (1 : Int))))] [some x30_, some x31_, some x41_, none, none, none, some x44_, some x45_, some (Blk.box x51_), none, some (Blk.box x72_), none, none]))))))))))))))))))))))))))))))))))))))))))))))))))))))))))))))))))))))))))))) (Tr.leaf (CExit.exit (6)) [(0, V.d (D.sl false (List.length hl) (enc eI hl))), (1, V.d (D.sl false (List.length ws) (enc eW ws))), (2, V.d (D.int IntKind.u8 m)), (6, V.ptr (0) (0) (0)), (7, V.ptr (1) (0) (0)), (8, V.ptr (2) (0) (0)), (16, V.ptr (6) (0) (0)), (17, V.d (D.int .i64 (Int.ofNat k))), (130, V.d (D.bool x1_))] x84_)) (Tr.leaf (CExit.exit (6)) [(0, V.d (D.sl false (List.length hl) (enc eI hl))), (1, V.d (D.sl false (List.length ws) (enc eW ws))), (2, V.d (D.int IntKind.u8 m)), (6, V.ptr (0) (0) (0)), (7, V.ptr (1) (0) (0)), (8, V.ptr (2) (0) (0)), (16, V.ptr (6) (0) (0)), (17, V.d (D.int .i64 (Int.ofNat k))), (130, V.d (D.bool false))] x84_)) := by kernel_rfl
theorem x41d (hl ws : List Int) (m : Int) (c : Cmp) (t : Tru) (u : Int) (v : Bool) : sS X41 (doneK r41) [Fr.blk 6, Fr.seq (CCode.at c41 [1,1,1,1,1,1,1,1])] (.exit 6) (E41 hl ws m ++ [(16, .ptr 6 0 0), (17, vi u), (130, vb v)]) [] (H41d c t) =
    let x1_ := (Blk.box [V.d (D.int .i64 (Cmp.houses c)), V.d (D.sl false (List.length (Cmp.held c)) (enc eI (Cmp.held c))), V.d (D.sl false (List.length (Cmp.trades c)) (enc eT (Cmp.trades c))), V.d (D.sl false (List.length (Cmp.divs c)) (enc eV (Cmp.divs c))), V.d (D.sl false (List.length (Cmp.splits c)) (enc eS (Cmp.splits c))), V.d (D.sl false (List.length (Cmp.closed c)) (enc eR (Cmp.closed c)))])
    let x2_ := (Blk.box [V.d (D.sl false (List.length (Tru.sold t)) (enc eI (Tru.sold t))), V.d (D.sl false (List.length (Tru.deliv t)) (enc eI (Tru.deliv t)))])
    let x3_ := [some x1_, some x2_, some x1_, none, none, none, some x2_]
    Tr.need ([(6, V.ptr (0) (0) (0)), (7, V.ptr (1) (0) (0))] = [(6, V.ptr (0) (0) (0)), (7, V.ptr (1) (0) (0))] ∧ x3_ = x3_) (Tr.done (V.tup [Cv c, Uv t]) x3_) := by kernel_rfl
end
end Go.Proofs.Ytdnefcjbcieecaa
namespace Go.Proofs.Ytdnefcjbcieecaa
open Go Go.Proofs
noncomputable section
theorem StLe.cells {n sz : Nat} {env : Env} {h : Heap} {id : Nat} {cs cs' : List V} (hi : h[id]? = some (some (.box cs))) (hl : VLes cs cs') : StLe n sz env h env (h.set id (some (.box cs'))) := by
  intro M w a hs hn hE
  have hs2 := Sim.reb (M := M) hs (cs' := cs') hi hl.len.symm (fun k x y v hx hy hr => by
    obtain ⟨x', hx', hle⟩ := hl.get k y hy
    rw [hx] at hx'; cases hx'
    exact hle _ _ hr)
  have hlive : ∀ b, liveBlk M (h.set id (some (.box cs'))) b → liveBlk M h b := fun b ⟨j, blk, r, hj, hr, hb⟩ => by
    by_cases hj' : j = id
    · subst hj'; exact ⟨j, _, r, hi, hr, hb⟩
    · rw [List.getElem?_set_ne (Ne.symm hj')] at hj; exact ⟨j, blk, r, hj, hr, hb⟩
  exact ⟨M, ⟨fun _ _ _ h => h, ⟨⟨fun _ h => h, fun _ _ h => h, fun _ _ _ _ h => .inl h⟩, rfl⟩, MuLe.refl M, by simp; omega, hs2, rfl, rfl, rfl, Nat.le_refl _, fun _ _ _ => rfl, fun b hb hl => hlive b hl⟩, hE⟩
theorem dec_snoc {α : Type} {sz : Nat} {f : α → List D} {g : List D → α} (hf : ∀ x, (f x).length = sz) (hg : ∀ x, g (f x) = x) (l : List α) (x : α) : dec sz g (0 + l.length + 1) ([] ++ enc f l ++ f x) = l ++ [x] := by
  have e : ([] ++ enc f l ++ f x) = enc f (l ++ [x]) := by rw [enc_append, enc_one]; rfl
  have e2 : 0 + l.length + 1 = (l ++ [x]).length := by simp
  rw [e, e2, dec_enc hf hg]
theorem wd {w n : Int} (h0 : 0 ≤ w) (h1 : w ≤ 65535) (hn : 0 < n) : 0 ≤ w.tmod n ∧ w.tmod n < n ∧ w.tmod n ≤ 65535 ∧ 0 ≤ w.tdiv n ∧ w.tdiv n ≤ 65535 := by
  rw [Int.tmod_eq_emod_of_nonneg h0, Int.tdiv_eq_ediv_of_nonneg h0]
  have a1 := Int.emod_nonneg w (show n ≠ 0 by omega)
  have a2 := Int.emod_lt_of_pos w hn
  have a3 := Int.ediv_nonneg h0 (show 0 ≤ n by omega)
  have a4 := Int.ediv_le_self n h0
  have a5 : w % n ≤ w := by have := Int.mul_nonneg (show 0 ≤ n by omega) a3; rw [Int.emod_def]; omega
  omega
def splS (d : Int) (w : Int) : Spl := ⟨d, 1 + (w.tdiv 8).tmod 6, 1 + (w.tdiv 64).tmod 4⟩
def splK (ws : List Int) : Nat → Int × List Spl
  | 0 => (-1, [])
  | k + 1 => ((splK ws k).1 + (1 + (wordM ws ((k : Int) + 1)).tmod 6), if (splK ws k).1 + (1 + (wordM ws ((k : Int) + 1)).tmod 6) ≤ 11 then (splK ws k).2 ++ [splS ((splK ws k).1 + (1 + (wordM ws ((k : Int) + 1)).tmod 6)) (wordM ws ((k : Int) + 1))] else (splK ws k).2)
def splN (ws : List Int) : Nat := ((wordM ws 0).tmod 3).toNat
theorem okSs_snoc {x : Spl} (hx : x.day ≤ 11 ∧ 1 ≤ x.num ∧ x.num ≤ 6 ∧ 1 ≤ x.den ∧ x.den ≤ 4) : ∀ (l : List Spl) (a : Int), okSs a l = true → a < x.day → (∀ y ∈ l, y.day < x.day) → okSs a (l ++ [x]) = true
  | [], a, _, h2, _ => by simp [okSs, okSp]; omega
  | y :: l, a, h1, h2, h3 => by
    simp only [okSs, List.cons_append, Bool.and_eq_true] at h1 ⊢
    exact ⟨h1.1, okSs_snoc hx l y.day h1.2 (h3 y (by simp)) fun z hz => h3 z (by simp [hz])⟩
theorem splK_ok {ws : List Int} (hw : isWords ws) : ∀ k, -1 ≤ (splK ws k).1 ∧ (splK ws k).1 ≤ 6 * (k : Int) ∧ okSs (-1) (splK ws k).2 = true ∧ (∀ y ∈ (splK ws k).2, y.day ≤ (splK ws k).1) ∧ (splK ws k).2.length ≤ k
  | 0 => by simp [splK, okSs]
  | k + 1 => by
    obtain ⟨i1, i2, i3, i4, i5⟩ := splK_ok hw k
    have hwi := word_in hw ((k : Int) + 1) (by omega)
    have m6 := wd hwi.1 hwi.2 (n := 6) (by omega)
    have d8 := wd hwi.1 hwi.2 (n := 8) (by omega)
    have d64 := wd hwi.1 hwi.2 (n := 64) (by omega)
    have e1 := wd d8.2.2.2.1 d8.2.2.2.2 (n := 6) (by omega)
    have e2 := wd d64.2.2.2.1 d64.2.2.2.2 (n := 4) (by omega)
    simp only [splK]
    refine ⟨by omega, by omega, ?_, ?_, ?_⟩
    · split
      · rename_i hle
        refine okSs_snoc ⟨hle, ?_, ?_, ?_, ?_⟩ _ _ i3 ?_ fun y hy => ?_
        · simp only [splS]; omega
        · simp only [splS]; omega
        · simp only [splS]; omega
        · simp only [splS]; omega
        · simp only [splS]; omega
        · have := i4 y hy; simp only [splS]; omega
      · exact i3
    · split
      · intro y hy
        rcases List.mem_append.1 hy with h | h
        · have := i4 y h; omega
        · rcases List.mem_singleton.1 h with rfl; simp only [splS]; omega
      · intro y hy; have := i4 y hy; omega
    · split
      · simp; omega
      · omega
def cloR (w : Int) : Rng := ⟨w.tmod 10, min2 11 (w.tmod 10 + (w.tdiv 16).tmod 4)⟩
def cloK (ws : List Int) (k : Nat) : List Rng := (List.range k).map fun (i : Nat) => cloR (wordM ws ((i : Int) + 3))
def cloN (ws : List Int) : Nat := (((wordM ws 0).tdiv 4).tmod 3).toNat
theorem cloK_succ (ws : List Int) (k : Nat) : cloK ws (k + 1) = cloK ws k ++ [cloR (wordM ws ((k : Int) + 3))] := by simp [cloK, List.range_succ]
@[simp] theorem cloK_len (ws : List Int) (k : Nat) : (cloK ws k).length = k := by simp [cloK]
theorem cloR_ok {w : Int} (h0 : 0 ≤ w) (h1 : w ≤ 65535) : (cloR w).days = true := by
  have a1 := wd h0 h1 (n := 10) (by omega)
  have a2 := wd h0 h1 (n := 16) (by omega)
  have a3 := wd a2.2.2.2.1 a2.2.2.2.2 (n := 4) (by omega)
  refine decide_eq_true ?_
  show 0 ≤ w.tmod 10 ∧ w.tmod 10 ≤ min2 11 (w.tmod 10 + (w.tdiv 16).tmod 4) ∧ min2 11 (w.tmod 10 + (w.tdiv 16).tmod 4) ≤ 11
  unfold min2
  split <;> omega
def divD (w : Int) : Dvd := ⟨w.tmod 12, min2 11 (w.tmod 12 + (w.tdiv 16).tmod 5), (w.tdiv 128).tmod 51⟩
def divK (ws : List Int) (k : Nat) : List Dvd := (List.range k).map fun (i : Nat) => divD (wordM ws ((i : Int) + 5))
def divN (ws : List Int) : Nat := (1 + ((wordM ws 0).tdiv 16).tmod 3).toNat
theorem divK_succ (ws : List Int) (k : Nat) : divK ws (k + 1) = divK ws k ++ [divD (wordM ws ((k : Int) + 5))] := by simp [divK, List.range_succ]
@[simp] theorem divK_len (ws : List Int) (k : Nat) : (divK ws k).length = k := by simp [divK]
theorem divD_ok {w : Int} (h0 : 0 ≤ w) (h1 : w ≤ 65535) : okDv (divD w) = true := by
  have a1 := wd h0 h1 (n := 12) (by omega)
  have a2 := wd h0 h1 (n := 16) (by omega)
  have a3 := wd a2.2.2.2.1 a2.2.2.2.2 (n := 5) (by omega)
  have a4 := wd h0 h1 (n := 128) (by omega)
  have a5 := wd a4.2.2.2.1 a4.2.2.2.2 (n := 51) (by omega)
  refine decide_eq_true ?_
  show 0 ≤ w.tmod 12 ∧ w.tmod 12 ≤ min2 11 (w.tmod 12 + (w.tdiv 16).tmod 5) ∧ min2 11 (w.tmod 12 + (w.tdiv 16).tmod 5) ≤ 11 ∧ 0 ≤ (w.tdiv 128).tmod 51 ∧ (w.tdiv 128).tmod 51 ≤ 50
  unfold min2
  split <;> omega
def dS (v : Int) : Int := v.tmod 12
def dD (v : Int) : Int := min2 11 (v.tmod 12 + (v.tdiv 16).tmod 4)
def dTrd (n w v : Int) : Trd := ⟨w.tmod n, (w.tmod n + 1 + (w.tdiv 128).tmod (n - 1)).tmod n, 1 + (w.tdiv 4).tmod 20, ⟨max2 0 (v.tmod 12 - (v.tdiv 64).tmod 2), min2 11 (v.tmod 12 + (v.tdiv 128).tmod 2)⟩,
  ⟨max2 0 (min2 11 (v.tmod 12 + (v.tdiv 16).tmod 4) - (v.tdiv 256).tmod 2), min2 11 (min2 11 (v.tmod 12 + (v.tdiv 16).tmod 4) + (v.tdiv 512).tmod 2)⟩⟩
def Cmp.more (c : Cmp) (x : Trd) : Cmp := { c with trades := c.trades ++ [x] }
def Tru.more (t : Tru) (s d : Int) : Tru := ⟨t.sold ++ [s], t.deliv ++ [d]⟩
def base (hl ws : List Int) : Cmp := ⟨hl.length, hl, [], divK ws (divN ws), (splK ws (splN ws)).2, cloK ws (cloN ws)⟩
def dealK (hl ws : List Int) : Nat → Cmp × Tru
  | 0 => (base hl ws, ⟨[], []⟩)
  | k + 1 => if truthB ((dealK hl ws k).1.more (dTrd hl.length (wordM ws (2 * (k : Int) + 8)) (wordM ws (2 * (k : Int) + 9)))) ((dealK hl ws k).2.more (dS (wordM ws (2 * (k : Int) + 9))) (dD (wordM ws (2 * (k : Int) + 9)))) = true
      then ((dealK hl ws k).1.more (dTrd hl.length (wordM ws (2 * (k : Int) + 8)) (wordM ws (2 * (k : Int) + 9))), (dealK hl ws k).2.more (dS (wordM ws (2 * (k : Int) + 9))) (dD (wordM ws (2 * (k : Int) + 9))))
      else dealK hl ws k
def dealN (hl : List Int) (m : Int) : Nat := if 1 < hl.length then (m.tmod 5).toNat else 0
def dealt (hl ws : List Int) (m : Int) : Cmp × Tru := dealK hl ws (dealN hl m)
def begunB (hl : List Int) : Bool := decide (hl.length ≤ 7) && (faultM ⟨hl.length, hl, [], [], [], []⟩ == 0)
theorem fault_of {c : Cmp} (h : 1 ≤ c.houses ∧ c.houses ≤ 4 ∧ (c.held.length : Int) = c.houses ∧ c.trades.length ≤ 4 ∧ c.divs.length ≤ 3 ∧ c.splits.length ≤ 2 ∧ c.closed.length ≤ 2) (h1 : c.held.all (Rng.has ⟨0, 100⟩) = true) (h2 : c.trades.all (okTr c.houses) = true) (h3 : c.divs.all okDv = true) (h4 : okSs (-1) c.splits = true) (h5 : c.closed.all Rng.days = true) : faultM c = 0 := by
  unfold faultM
  rw [if_neg (by omega), if_pos ⟨h.1, h.2.2.1, h1, h2, h3, h4, h5⟩]
theorem dTrd_ok {n w v : Int} (hn : 2 ≤ n) (hn2 : n ≤ 4) (w0 : 0 ≤ w) (w1 : w ≤ 65535) (v0 : 0 ≤ v) (v1 : v ≤ 65535) : okTr n (dTrd n w v) = true := by
  have a1 := wd w0 w1 (n := n) (by omega)
  have a2 := wd w0 w1 (n := 128) (by omega)
  have a3 := wd w0 w1 (n := 4) (by omega)
  have a4 := wd a3.2.2.2.1 a3.2.2.2.2 (n := 20) (by omega)
  have b1 := wd v0 v1 (n := 12) (by omega)
  have b2 := wd v0 v1 (n := 64) (by omega)
  have b3 := wd b2.2.2.2.1 b2.2.2.2.2 (n := 2) (by omega)
  have b4 := wd v0 v1 (n := 128) (by omega)
  have b5 := wd b4.2.2.2.1 b4.2.2.2.2 (n := 2) (by omega)
  have b6 := wd v0 v1 (n := 16) (by omega)
  have b7 := wd b6.2.2.2.1 b6.2.2.2.2 (n := 4) (by omega)
  have b8 := wd v0 v1 (n := 256) (by omega)
  have b9 := wd b8.2.2.2.1 b8.2.2.2.2 (n := 2) (by omega)
  have c1 := wd v0 v1 (n := 512) (by omega)
  have c2 := wd c1.2.2.2.1 c1.2.2.2.2 (n := 2) (by omega)
  have hq := wd a2.2.2.2.1 a2.2.2.2.2 (n := n - 1) (by omega)
  have hb : 0 ≤ (w.tmod n + 1 + (w.tdiv 128).tmod (n - 1)).tmod n ∧ (w.tmod n + 1 + (w.tdiv 128).tmod (n - 1)).tmod n < n ∧ w.tmod n ≠ (w.tmod n + 1 + (w.tdiv 128).tmod (n - 1)).tmod n := by
    generalize w.tmod n = s at *
    generalize (w.tdiv 128).tmod (n - 1) = q at *
    rw [Int.tmod_eq_emod_of_nonneg (by omega)]
    rcases (by omega : n = 2 ∨ n = 3 ∨ n = 4) with rfl | rfl | rfl <;> omega
  have e1 : (dTrd n w v).shares = 1 + (w.tdiv 4).tmod 20 := rfl
  unfold okTr
  rw [Bool.and_eq_true, Bool.and_eq_true]
  refine ⟨⟨decide_eq_true ⟨a1.1, a1.2.1, hb.1, hb.2.1, hb.2.2, by rw [e1]; omega, by rw [e1]; omega⟩, decide_eq_true ?_⟩, decide_eq_true ?_⟩
  · have m1 : (dTrd n w v).sold = ⟨max2 0 (v.tmod 12 - (v.tdiv 64).tmod 2), min2 11 (v.tmod 12 + (v.tdiv 128).tmod 2)⟩ := rfl
    rw [m1]
    simp only [max2, min2]; split <;> split <;> omega
  · have m1 : (dTrd n w v).deliv = ⟨max2 0 (min2 11 (v.tmod 12 + (v.tdiv 16).tmod 4) - (v.tdiv 256).tmod 2), min2 11 (min2 11 (v.tmod 12 + (v.tdiv 16).tmod 4) + (v.tdiv 512).tmod 2)⟩ := rfl
    rw [m1]
    have hm : 0 ≤ min2 11 (v.tmod 12 + (v.tdiv 16).tmod 4) ∧ min2 11 (v.tmod 12 + (v.tdiv 16).tmod 4) ≤ 11 := by unfold min2; split <;> omega
    generalize min2 11 (v.tmod 12 + (v.tdiv 16).tmod 4) = q at hm
    simp only [max2, min2]; split <;> split <;> omega
theorem begun_ok {hl : List Int} (h : begunB hl = true) : 1 ≤ hl.length ∧ hl.length ≤ 4 ∧ hl.all (Rng.has ⟨0, 100⟩) = true := by
  simp only [begunB, Bool.and_eq_true, beq_iff_eq] at h
  have := fault_ok h.2
  simp only at this
  exact ⟨by omega, by omega, this.2.1⟩
theorem base_ok {hl ws : List Int} (h : begunB hl = true) (hw : isWords ws) : faultM (base hl ws) = 0 := by
  have hb := begun_ok h
  have hwi := word_in hw 0 (by omega)
  have s1 := splK_ok hw (splN ws)
  have n1 := wd hwi.1 hwi.2 (n := 3) (by omega)
  have n2 := wd hwi.1 hwi.2 (n := 4) (by omega)
  have n3 := wd n2.2.2.2.1 n2.2.2.2.2 (n := 3) (by omega)
  have n4 := wd hwi.1 hwi.2 (n := 16) (by omega)
  have n5 := wd n4.2.2.2.1 n4.2.2.2.2 (n := 3) (by omega)
  refine fault_of (c := base hl ws) ⟨?_, ?_, rfl, ?_, ?_, ?_, ?_⟩ hb.2.2 rfl ?_ s1.2.2.1 ?_
  · show (1 : Int) ≤ (hl.length : Int); omega
  · show (hl.length : Int) ≤ 4; omega
  · show 0 ≤ 4; omega
  · show (divK ws (divN ws)).length ≤ 3; rw [divK_len, divN]; omega
  · have := s1.2.2.2.2
    show (splK ws (splN ws)).2.length ≤ 2
    have e : splN ws ≤ 2 := by rw [splN]; omega
    omega
  · show (cloK ws (cloN ws)).length ≤ 2; rw [cloK_len, cloN]; omega
  · show (divK ws (divN ws)).all okDv = true
    simp only [divK, List.all_map, List.all_eq_true]
    intro i _
    have := word_in hw ((i : Int) + 5) (by omega)
    exact divD_ok this.1 this.2
  · show (cloK ws (cloN ws)).all Rng.days = true
    simp only [cloK, List.all_map, List.all_eq_true]
    intro i _
    have := word_in hw ((i : Int) + 3) (by omega)
    exact cloR_ok this.1 this.2
theorem fault_more {c : Cmp} {x : Trd} (hf : faultM c = 0) (hl : c.trades.length ≤ 3) (hx : okTr c.houses x = true) : faultM (c.more x) = 0 := by
  have h := fault_ok hf
  refine fault_of (c := c.more x) ⟨h.1.1, h.1.2.1, h.1.2.2.1, ?_, h.1.2.2.2.2⟩ h.2.1 ?_ h.2.2.2.1 h.2.2.2.2.1 h.2.2.2.2.2
  · show (c.trades ++ [x]).length ≤ 4; simp; omega
  · show (c.trades ++ [x]).all (okTr c.houses) = true
    rw [List.all_append, h.2.2.1]; simp [hx]
structure DealOk (hl ws : List Int) (k : Nat) (c : Cmp) (t : Tru) : Prop where
  fault : faultM c = 0
  truth : truthB c t = true
  held : c.held = hl
  divs : c.divs = divK ws (divN ws)
  splits : c.splits = (splK ws (splN ws)).2
  closed : c.closed = cloK ws (cloN ws)
  len : c.trades.length ≤ k
theorem dealK_ok {hl ws : List Int} (h : begunB hl = true) (hw : isWords ws) : ∀ k, k ≤ 4 → (k = 0 ∨ 1 < hl.length) → DealOk hl ws k (dealK hl ws k).1 (dealK hl ws k).2
  | 0, _, _ => by
    have hf := base_ok h hw
    refine ⟨hf, ?_, rfl, rfl, rfl, rfl, Nat.zero_le _⟩
    have h1 : datedB (base hl ws) ⟨[], []⟩ = true := decide_eq_true ⟨rfl, rfl, fun k hk => by simp [base] at hk⟩
    have h2 : fitsB (base hl ws) ⟨[], []⟩ = true := by
      simp only [fitsB, decide_eq_true_eq]
      intro j _ i _
      exact (heldA_in hf (j : Nat) _ (Nat.le_refl _) i).1
    simp [dealK, truthB, h1, h2]
  | k + 1, hk, hn => by
    have ih := dealK_ok h hw k (by omega) (.inr (by omega))
    rw [dealK]
    split
    · rename_i ht
      have hw1 := word_in hw (2 * (k : Int) + 8) (by omega)
      have hw2 := word_in hw (2 * (k : Int) + 9) (by omega)
      have hb := begun_ok h
      have hs : (dealK hl ws k).1.houses = (hl.length : Int) := by rw [← (fault_ok ih.fault).1.2.2.1, ih.held]
      refine ⟨fault_more ih.fault (by have := ih.len; omega) ?_, ht, ih.held, ih.divs, ih.splits, ih.closed, ?_⟩
      · rw [hs]
        exact dTrd_ok (by omega) (by omega) hw1.1 hw1.2 hw2.1 hw2.2
      · show ((dealK hl ws k).1.trades ++ [_]).length ≤ k + 1
        have := ih.len
        simp; omega
    · exact ⟨ih.fault, ih.truth, ih.held, ih.divs, ih.splits, ih.closed, by have := ih.len; omega⟩
theorem dealN_le (hl : List Int) (m : Int) (h0 : 0 ≤ m) (h1 : m ≤ 255) : dealN hl m ≤ 4 ∧ (dealN hl m = 0 ∨ 1 < hl.length) := by
  unfold dealN
  have := wd h0 (by omega) (n := 5) (by omega)
  split
  · exact ⟨by omega, .inr (by assumption)⟩
  · exact ⟨by omega, .inl rfl⟩
theorem dealt_ok {hl ws : List Int} {m : Int} (h : begunB hl = true) (hw : isWords ws) (h0 : 0 ≤ m) (h1 : m ≤ 255) : DealOk hl ws 4 (dealt hl ws m).1 (dealt hl ws m).2 := by
  have hn := dealN_le hl m h0 h1
  have := dealK_ok h hw (dealN hl m) hn.1 hn.2
  exact ⟨this.fault, this.truth, this.held, this.divs, this.splits, this.closed, Nat.le_trans this.len hn.1⟩
end
end Go.Proofs.Ytdnefcjbcieecaa
namespace Go.Proofs.Ytdnefcjbcieecaa
open Go Go.Proofs
noncomputable section
theorem fin_CU (c : Cmp) (t : Tru) (h : Heap) : VLe (finX 0 (.tup [Cv c, Uv t]) h).1 (.tup [Cv c, Uv t]) := by
  simp [finX, rowsIn, rowsIn1, rowIn, frzRows, Cv, Uv, bel2, bel1, bel0]
  exact .refl _
theorem dC_more (c : Cmp) (x : Trd) : dC c.houses c.held.length (enc eI c.held) (0 + c.trades.length + 1) ([] ++ enc eT c.trades ++ eT x) c.divs.length (enc eV c.divs) c.splits.length (enc eS c.splits) c.closed.length (enc eR c.closed) = c.more x := by
  have := dec_snoc (sz := 7) (f := eT) (g := gT) (fun _ => rfl) (fun _ => rfl) c.trades x
  simp only [dC, dec_I, dec_V, dec_S, dec_R, this, Cmp.more]
theorem dU_more (t : Tru) (s d : Int) : dU (t.sold.length + 1) (enc eI t.sold ++ eI s) (t.deliv.length + 1) (enc eI t.deliv ++ eI d) = t.more s d := by
  have e1 := dec_snoc (sz := 1) (f := eI) (g := gI) (fun _ => rfl) (fun _ => rfl) t.sold s
  have e2 := dec_snoc (sz := 1) (f := eI) (g := gI) (fun _ => rfl) (fun _ => rfl) t.deliv d
  simp only [Nat.zero_add, List.nil_append] at e1 e2
  simp only [dU, e1, e2, Tru.more]
abbrev Q41 (c : Cmp) (t : Tru) : CExit → Env → Heap → Prop := retQ r41 fun v1 h1 => VLe (finX 0 v1 h1).1 (.tup [Cv c, Uv t])
abbrev R41 (c : Cmp) (t : Tru) : V → Heap → Prop := fun v1 h1 => VLe (finX 0 v1 h1).1 (.tup [Cv c, Uv t])
theorem Cbox_more (c : Cmp) (x : Trd) : Cbox (c.more x) = [V.d (D.int .i64 c.houses), V.d (D.sl false c.held.length (enc eI c.held)), V.d (D.sl false (0 + c.trades.length + 1) ([] ++ enc eT c.trades ++ eT x)), V.d (D.sl false c.divs.length (enc eV c.divs)), V.d (D.sl false c.splits.length (enc eS c.splits)), V.d (D.sl false c.closed.length (enc eR c.closed))] := by
  simp [Cbox, Cmp.more, enc_append, enc_one, vi]
theorem Ubox_more (t : Tru) (s d : Int) : Ubox (t.more s d) = [V.d (D.sl false (t.sold.length + 1) (enc eI t.sold ++ eI s)), V.d (D.sl false (t.deliv.length + 1) (enc eI t.deliv ++ eI d))] := by
  simp [Ubox, Tru.more, enc_append, enc_one]
set_option maxHeartbeats 4000000 in
set_option maxRecDepth 100000 in
theorem l41d (hl ws : List Int) (m : Int) (hb : begunB hl = true) (hw : isWords ws) (h0 : 0 ≤ m) (h1 : m ≤ 255) :
    lpS Try.prog G41 0 (CCode.at c41 [1,1,1,1,1,1,1,0,1,0,0]) [Fr.blk 6, Fr.seq (CCode.at c41 [1,1,1,1,1,1,1,1])] (Q41 (dealt hl ws m).1 (dealt hl ws m).2) (E41 hl ws m ++ [(16, .ptr 6 0 0), (17, vi 0)]) (H41d (base hl ws) ⟨[], []⟩) := by
  have hN := dealN_le hl m h0 h1
  have hbo := begun_ok hb
  have hm5 := wd h0 (by omega) (n := 5) (by omega)
  have hwr : IntKind.wrap .i64 m = m := wrap_i64 (by omega) (by omega)
  refine lp_count X41_ok (dealN hl m) (fun _ => True) (fun k => E41 hl ws m ++ [(16, .ptr 6 0 0), (17, vi k)]) (fun k => H41d (dealK hl ws k).1 (dealK hl ws k).2) rfl rfl trivial (fun k _ => ⟨rfl, rfl, rfl⟩) ?_
  intro k hk _ Q' hn he hr
  rw [b41d]
  have hcount : (k < dealN hl m ↔ ((k : Int) < m.tmod 5 ∧ 1 < hl.length)) ∧ (1 < hl.length ∨ k = 0) := by
    rcases Nat.lt_or_ge 1 hl.length with hlen | hlen
    · have eN : dealN hl m = (m.tmod 5).toNat := if_pos hlen
      rw [eN]
      exact ⟨⟨fun h => ⟨by omega, hlen⟩, fun h => by omega⟩, .inl hlen⟩
    · have eN : dealN hl m = 0 := if_neg (by omega)
      rw [eN] at hk ⊢
      exact ⟨⟨fun h => by omega, fun h => by omega⟩, .inr (by omega)⟩
  have ho := dealK_ok hb hw k (by omega) (by omega)
  have hend : ¬ k < dealN hl m → (dealK hl ws k) = dealt hl ws m := fun h => by
    have : k = dealN hl m := by omega
    rw [this]; rfl
  generalize hc : (dealK hl ws k).1 = c at *
  generalize ht : (dealK hl ws k).2 = t at *
  have hct : dealK hl ws k = (c, t) := by rw [← hc, ← ht]
  have hw1 := word_in hw (2 * (k : Int) + 8) (by omega)
  have hw2 := word_in hw (2 * (k : Int) + 9) (by omega)
  have hstep : dealK hl ws (k + 1) = if truthB (c.more (dTrd hl.length (wordM ws (2 * (k : Int) + 8)) (wordM ws (2 * (k : Int) + 9)))) (t.more (dS (wordM ws (2 * (k : Int) + 9))) (dD (wordM ws (2 * (k : Int) + 9)))) = true
      then (c.more (dTrd hl.length (wordM ws (2 * (k : Int) + 8)) (wordM ws (2 * (k : Int) + 9))), t.more (dS (wordM ws (2 * (k : Int) + 9))) (dD (wordM ws (2 * (k : Int) + 9)))) else (c, t) := by rw [dealK, hct]
  have hh : c.houses = (hl.length : Int) := by rw [← (fault_ok ho.fault).1.2.2.1, ho.held]
  simp only [hstep] at hn
  simp only [holds, Int.ofNat_eq_natCast, hwr, dec_W, true_and, and_true]
  generalize wordM ws (2 * (k : Int) + 8) = w at *
  generalize wordM ws (2 * (k : Int) + 9) = v at *
  have e70 : dC c.houses c.held.length (enc eI c.held) (0 + c.trades.length + 1) ([] ++ enc eT c.trades ++ [D.int .i64 (w.tmod hl.length), D.int .i64 ((w.tmod hl.length + 1 + (w.tdiv 128).tmod ((hl.length : Int) - 1)).tmod hl.length), D.int .i64 (1 + (w.tdiv 4).tmod 20), D.int .i64 (max2 0 (v.tmod 12 - (v.tdiv 64).tmod 2)), D.int .i64 (min2 11 (v.tmod 12 + (v.tdiv 128).tmod 2)), D.int .i64 (max2 0 (min2 11 (v.tmod 12 + (v.tdiv 16).tmod 4) - (v.tdiv 256).tmod 2)), D.int .i64 (min2 11 (min2 11 (v.tmod 12 + (v.tdiv 16).tmod 4) + (v.tdiv 512).tmod 2))]) c.divs.length (enc eV c.divs) c.splits.length (enc eS c.splits) c.closed.length (enc eR c.closed) = c.more (dTrd hl.length w v) := dC_more c (dTrd hl.length w v)
  have e71 : dU (t.sold.length + 1) (enc eI t.sold ++ [D.int .i64 (v.tmod 12)]) (t.deliv.length + 1) (enc eI t.deliv ++ [D.int .i64 (min2 11 (v.tmod 12 + (v.tdiv 16).tmod 4))]) = t.more (dS v) (dD v) := dU_more t (dS v) (dD v)
  have f1 := Cbox_more c (dTrd hl.length w v)
  have f2 := Ubox_more t (dS v) (dD v)
  have hY : truthB (c.more (dTrd hl.length w v)) (t.more (dS v) (dD v)) = true → k < dealN hl m → ∀ J, _ := fun h hlt J => by
    have := hn J hlt trivial
    rw [if_pos h] at this
    simp only [H41d, f1, f2] at this
    exact this
  have hNo : truthB (c.more (dTrd hl.length w v)) (t.more (dS v) (dD v)) = false → k < dealN hl m → ∀ J, _ := fun h hlt J => by
    have := hn J hlt trivial
    rw [if_neg (by rw [h]; decide)] at this
    exact this
  simp only [e70, e71]
  have hexit : ¬ k < dealN hl m → ∀ (u : Int) (v : Bool), Q' (.exit 6) (E41 hl ws m ++ [(16, .ptr 6 0 0), (17, vi u), (130, vb v)]) (H41d c t) := fun h u v => by
    have e := hend h
    rw [hct] at e
    refine he _ _ _ (ret_tree (R := R41 (dealt hl ws m).1 (dealt hl ws m).2) X41_ok (doneK_ok rfl) (x41d _ _ _ c t u v) ?_)
    simp only [holds, and_self, true_and]
    rw [← e]
    exact fin_CU c t _
  refine ⟨by decide, fun e1 => ⟨fun e2 => ?_, fun e2 => ?_⟩, fun e1 => ?_⟩
  · have hlen : 1 < hl.length := by have := of_decide_eq_true e2; omega
    have hlt : k < dealN hl m := hcount.1.2 ⟨of_decide_eq_true e1, hlen⟩
    have hY2 := fun h => hY h hlt
    have hN2 := fun h => hNo h hlt
    have hx : okTr c.houses (dTrd hl.length w v) = true := by rw [hh]; exact dTrd_ok (by omega) (by omega) hw1.1 hw1.2 hw2.1 hw2.2
    have hfm := fault_more ho.fault (by have := ho.len; omega) hx
    obtain ⟨l1, l2⟩ := dated_len (by have := ho.truth; simp only [truthB, Bool.and_eq_true] at this; exact this.1)
    have htl := ho.len
    have hCv : Cv (c.more (dTrd hl.length w v)) = V.agg (Cbox (c.more (dTrd hl.length w v))) := rfl
    have hUv : Uv (t.more (dS v) (dD v)) = V.agg (Ubox (t.more (dS v) (dD v))) := rfl
    rw [f1] at hCv
    rw [f2] at hUv
    have hk4 : (k : Int) ≤ 4 := by omega
    have hw3 := hw.1
    have hw4 := hw.2
    have htl4 : c.trades.length ≤ 4 := by omega
    have a1 := wd hw1.1 hw1.2 (n := hl.length) (by omega)
    have a2 := wd hw1.1 hw1.2 (n := 128) (by omega)
    have a3 := wd hw1.1 hw1.2 (n := 4) (by omega)
    have a4 := wd a3.2.2.2.1 a3.2.2.2.2 (n := 20) (by omega)
    have a5 := wd a2.2.2.2.1 a2.2.2.2.2 (n := (hl.length : Int) - 1) (by omega)
    have b1 := wd hw2.1 hw2.2 (n := 12) (by omega)
    have b2 := wd hw2.1 hw2.2 (n := 64) (by omega)
    have b3 := wd b2.2.2.2.1 b2.2.2.2.2 (n := 2) (by omega)
    have b4 := wd hw2.1 hw2.2 (n := 128) (by omega)
    have b5 := wd b4.2.2.2.1 b4.2.2.2.2 (n := 2) (by omega)
    have b6 := wd hw2.1 hw2.2 (n := 16) (by omega)
    have b7 := wd b6.2.2.2.1 b6.2.2.2.2 (n := 4) (by omega)
    have b8 := wd hw2.1 hw2.2 (n := 256) (by omega)
    have b9 := wd b8.2.2.2.1 b8.2.2.2.2 (n := 2) (by omega)
    have c1 := wd hw2.1 hw2.2 (n := 512) (by omega)
    have c2 := wd c1.2.2.2.1 c1.2.2.2.2 (n := 2) (by omega)
    have hm2 : 0 ≤ min2 11 (v.tmod 12 + (v.tdiv 16).tmod 4) ∧ min2 11 (v.tmod 12 + (v.tdiv 16).tmod 4) ≤ 11 := by unfold min2; split <;> omega
    have hsl : okL eI 1 gI t.sold.length (enc eI t.sold) := by rw [okL_I]; omega
    have hdl : okL eI 1 gI t.deliv.length (enc eI t.deliv) := by rw [okL_I]; omega
    have hT : (enc eT c.trades).length = c.trades.length * 7 := len_T _
    have hS1 : (enc eI t.sold).length = t.sold.length * 1 := len_I _
    have hS2 : (enc eI t.deliv).length = t.deliv.length * 1 := len_I _
    have hT2 : ([] ++ enc eT c.trades).length = (0 + c.trades.length) * 7 := by simp
    clear hn he hr hend hcount hstep hexit hY hNo e70 e71 f1 f2 hN
    repeat' (first | (refine And.intro ?_ ?_) | (refine fun (_ : _ = _) => ?_))
    all_goals first
      | omega
      | with_reducible assumption
      | with_reducible rfl
      | exact HLe.append _ [_]
      | exact hY2 (by assumption) _
      | exact hN2 (by assumption) _
      | (rw [dec_I]; done)
      | (show (_ : Nat) = _; rfl)
      | exact hCv
      | exact hUv
  · exact hexit (fun h => by have := (hcount.1.1 h).2; have := of_decide_eq_false e2; omega) _ _
  · exact hexit (fun h => by have := (hcount.1.1 h).1; have := of_decide_eq_false e1; omega) _ _
theorem l41c (hl ws : List Int) (m : Int) (hb : begunB hl = true) (hw : isWords ws) (h0 : 0 ≤ m) (h1 : m ≤ 255) (c : Cmp) (t : Tru)
    (hx : lpS Try.prog G41 0 (CCode.at c41 [1,1,1,1,1,1,1,0,1,0,0]) [Fr.blk 6, Fr.seq (CCode.at c41 [1,1,1,1,1,1,1,1])] (Q41 c t) (E41 hl ws m ++ [(16, .ptr 6 0 0), (17, vi 0)]) (H41d (base hl ws) ⟨[], []⟩)) :
    lpS Try.prog G41 0 (CCode.at c41 [1,1,1,1,1,0,1,0,0]) [Fr.blk 4, Fr.seq (CCode.at c41 [1,1,1,1,1,1])] (Q41 c t) (E41 hl ws m ++ [(14, vi 0)]) (H41c hl (splK ws (splN ws)).2 (cloK ws (cloN ws)) 0 []) := by
  have hz := word_in hw 0 (by omega)
  have z1 := wd hz.1 hz.2 (n := 16) (by omega)
  have z2 := wd z1.2.2.2.1 z1.2.2.2.2 (n := 3) (by omega)
  refine lp_count X41_ok (divN ws) (fun _ => True) (fun k => E41 hl ws m ++ [(14, vi k)]) (fun k => H41c hl (splK ws (splN ws)).2 (cloK ws (cloN ws)) (divK ws k).length (enc eV (divK ws k))) rfl rfl trivial (fun k _ => ⟨rfl, rfl, rfl⟩) ?_
  intro k hk _ Q' hn he hr
  rw [b41c]
  have hN : (divN ws : Int) = 1 + ((wordM ws 0).tdiv 16).tmod 3 := by unfold divN; omega
  have hwk := word_in hw ((k : Int) + 5) (by omega)
  simp only [holds, Int.ofNat_eq_natCast, dec_W, true_and, and_true, hw]
  have hn1 := fun h => hn [] h trivial
  simp only [divK_succ, H41c, enc_append, enc_one, List.length_append, List.length_cons, List.length_nil] at hn1
  generalize wordM ws ((k : Int) + 5) = w at *
  have a1 := wd hwk.1 hwk.2 (n := 12) (by omega)
  have a2 := wd hwk.1 hwk.2 (n := 16) (by omega)
  have a3 := wd a2.2.2.2.1 a2.2.2.2.2 (n := 5) (by omega)
  have a4 := wd hwk.1 hwk.2 (n := 128) (by omega)
  have hL : (enc eV (divK ws k)).length = (divK ws k).length * 3 := len_V _
  have hL2 : (divK ws k).length = k := divK_len ws k
  refine ⟨?_, ?_, ?_, ?_, ?_, fun e1 => ?_, fun e1 => ?_⟩
  · omega
  · omega
  · omega
  · omega
  · omega
  · have hlt : k < divN ws := by have := of_decide_eq_true e1; omega
    repeat' (refine And.intro ?_ ?_)
    all_goals first
      | omega
      | exact hn1 hlt
      | (show (_ : Nat) = _; rfl)
  · have hge : k = divN ws := by have := of_decide_eq_false e1; omega
    subst hge
    refine he _ _ _ (ret_tree (R := R41 c t) X41_ok (doneK_ok rfl) (x41c _ _ _ _ _ _ _ _ _) ?_)
    simp only [holds, true_and]
    refine LoopP.state (StLe.cells (id := 6) (cs' := Ubox ⟨[], []⟩) rfl (.cons .nilsF (.cons .nilsF .nil))) ?_
    refine LoopP.state (StLe.cells (id := 2) (cs' := Cbox (base hl ws)) rfl (.cons (.refl _) (.cons (.refl _) (.cons .nilsF (.cons (.refl _) (.cons (.refl _) (.cons (.refl _) .nil))))))) ?_
    exact hx
theorem l41b (hl ws : List Int) (m : Int) (hw : isWords ws) (c : Cmp) (t : Tru)
    (hx : lpS Try.prog G41 0 (CCode.at c41 [1,1,1,1,1,0,1,0,0]) [Fr.blk 4, Fr.seq (CCode.at c41 [1,1,1,1,1,1])] (Q41 c t) (E41 hl ws m ++ [(14, vi 0)]) (H41c hl (splK ws (splN ws)).2 (cloK ws (cloN ws)) 0 [])) :
    lpS Try.prog G41 0 (CCode.at c41 [1,1,1,1,0,1,0,0]) [Fr.blk 2, Fr.seq (CCode.at c41 [1,1,1,1,1])] (Q41 c t) (E41 hl ws m ++ [(12, vi 0)]) (H41b hl (splK ws (splN ws)).2 0 []) := by
  have hz := word_in hw 0 (by omega)
  have z1 := wd hz.1 hz.2 (n := 4) (by omega)
  have z2 := wd z1.2.2.2.1 z1.2.2.2.2 (n := 3) (by omega)
  refine lp_count X41_ok (cloN ws) (fun _ => True) (fun k => E41 hl ws m ++ [(12, vi k)]) (fun k => H41b hl (splK ws (splN ws)).2 (cloK ws k).length (enc eR (cloK ws k))) rfl rfl trivial (fun k _ => ⟨rfl, rfl, rfl⟩) ?_
  intro k hk _ Q' hn he hr
  rw [b41b]
  have hN : (cloN ws : Int) = ((wordM ws 0).tdiv 4).tmod 3 := by unfold cloN; omega
  have hwk := word_in hw ((k : Int) + 3) (by omega)
  simp only [holds, Int.ofNat_eq_natCast, dec_W, true_and, and_true, hw]
  have hn1 := fun h => hn [] h trivial
  simp only [cloK_succ, H41b, enc_append, enc_one, List.length_append, List.length_cons, List.length_nil] at hn1
  generalize wordM ws ((k : Int) + 3) = w at *
  have a1 := wd hwk.1 hwk.2 (n := 10) (by omega)
  have a2 := wd hwk.1 hwk.2 (n := 16) (by omega)
  have a3 := wd a2.2.2.2.1 a2.2.2.2.2 (n := 4) (by omega)
  have hL : (enc eR (cloK ws k)).length = (cloK ws k).length * 2 := len_R _
  have hL2 : (cloK ws k).length = k := cloK_len ws k
  refine ⟨?_, ?_, ?_, ?_, fun e1 => ?_, fun e1 => ?_⟩
  · omega
  · omega
  · omega
  · omega
  · have hlt : k < cloN ws := by have := of_decide_eq_true e1; omega
    repeat' (refine And.intro ?_ ?_)
    all_goals first
      | omega
      | exact hn1 hlt
      | (show (_ : Nat) = _; rfl)
  · have hge : k = cloN ws := by have := of_decide_eq_false e1; omega
    subst hge
    refine he _ _ _ (ret_tree (R := R41 c t) X41_ok (doneK_ok rfl) (x41b _ _ _ _ _ _ _ _) ?_)
    simp only [holds, true_and]
    exact LoopP.state (StLe.ghostBox (id := 2) (off := 3) 52 3 rfl rfl) hx
theorem l41a (hl ws : List Int) (m : Int) (hw : isWords ws) (c : Cmp) (t : Tru)
    (hx : lpS Try.prog G41 0 (CCode.at c41 [1,1,1,1,0,1,0,0]) [Fr.blk 2, Fr.seq (CCode.at c41 [1,1,1,1,1])] (Q41 c t) (E41 hl ws m ++ [(12, vi 0)]) (H41b hl (splK ws (splN ws)).2 0 [])) :
    lpS Try.prog G41 0 (CCode.at c41 [1,1,1,0,1,0,0]) [Fr.blk 0, Fr.seq (CCode.at c41 [1,1,1,1])] (Q41 c t) (E41 hl ws m ++ [(9, vi (-1)), (10, vi 0)]) (H41a hl 0 []) := by
  have hz := word_in hw 0 (by omega)
  have z1 := wd hz.1 hz.2 (n := 3) (by omega)
  refine lp_count X41_ok (splN ws) (fun _ => True) (fun k => E41 hl ws m ++ [(9, vi (splK ws k).1), (10, vi k)]) (fun k => H41a hl (splK ws k).2.length (enc eS (splK ws k).2)) rfl rfl trivial (fun k _ => ⟨rfl, rfl, rfl⟩) ?_
  intro k hk _ Q' hn he hr
  rw [b41a]
  have hN : (splN ws : Int) = (wordM ws 0).tmod 3 := by unfold splN; omega
  have hwk := word_in hw ((k : Int) + 1) (by omega)
  have hso := splK_ok hw k
  simp only [holds, Int.ofNat_eq_natCast, dec_W, true_and, and_true, hw]
  have hn1 := fun h => hn [] h trivial
  have hgo : k < splN ws → (splK ws k).1 + (1 + (wordM ws ((k : Int) + 1)).tmod 6) ≤ 11 → _ := fun h g => by
    have := hn1 h
    simp only [splK, if_pos g, H41a, enc_append, enc_one, List.length_append, List.length_cons, List.length_nil] at this
    exact this
  have hno : k < splN ws → ¬ (splK ws k).1 + (1 + (wordM ws ((k : Int) + 1)).tmod 6) ≤ 11 → _ := fun h g => by
    have := hn1 h
    simp only [splK, if_neg g, H41a] at this
    exact this
  generalize wordM ws ((k : Int) + 1) = w at *
  have a1 := wd hwk.1 hwk.2 (n := 6) (by omega)
  have a2 := wd hwk.1 hwk.2 (n := 8) (by omega)
  have a3 := wd a2.2.2.2.1 a2.2.2.2.2 (n := 6) (by omega)
  have a4 := wd hwk.1 hwk.2 (n := 64) (by omega)
  have a5 := wd a4.2.2.2.1 a4.2.2.2.2 (n := 4) (by omega)
  have hL : (enc eS (splK ws k).2).length = (splK ws k).2.length * 3 := len_S _
  have h2 : (splN ws : Int) ≤ 2 := by omega
  refine ⟨?_, ?_, fun e1 => ?_, fun e1 => ?_⟩
  · omega
  · omega
  · have hlt : k < splN ws := by have := of_decide_eq_true e1; omega
    repeat' (first | (refine And.intro ?_ ?_) | (refine fun (_ : _ = _) => ?_))
    all_goals first
      | omega
      | exact hgo hlt (of_decide_eq_true (by assumption))
      | exact hno hlt (of_decide_eq_false (by assumption))
      | (show (_ : Nat) = _; rfl)
  · have hge : k = splN ws := by have := of_decide_eq_false e1; omega
    subst hge
    refine he _ _ _ (ret_tree (R := R41 c t) X41_ok (doneK_ok rfl) (x41a _ _ _ _ _ _ _ _) ?_)
    simp only [holds, true_and]
    exact LoopP.state (StLe.ghostBox (id := 2) (off := 5) 73 2 rfl rfl) hx
theorem y41 (hl ws : List Int) (m : Int) (hb : begunB hl = true) (hw : isWords ws) (h0 : 0 ≤ m) (h1 : m ≤ 255) :
    Yields Try.prog 41 [vsl eI hl, vsl eW ws, .d (.int .u8 m)] (.tup [Cv (dealt hl ws m).1, Uv (dealt hl ws m).2]) := by
  have hbo := begun_ok hb
  refine q41.yieldsX X41_ok rfl rfl ?_ (w41 hl ws m) ?_
  · rfl
  simp only [holds, okL_I]
  exact ⟨⟨by omega, by omega⟩, LoopP.state (StLe.ghostBox (id := 2) (off := 4) 79 3 rfl rfl) (l41a hl ws m hw _ _ (l41b hl ws m hw _ _ (l41c hl ws m hb hw h0 h1 _ _ (l41d hl ws m hb hw h0 h1))))⟩
end
end Go.Proofs.Ytdnefcjbcieecaa
namespace Go.Proofs.Ytdnefcjbcieecaa
open Go Go.Proofs
noncomputable section
def X40 : Sx := mkX tab20
theorem X40_ok : SpOk Try.prog X40.sp := tab20_ok
theorem w40 (hl : List Int) : sx X40 c40 [] (doneF 0 r40) (envOf [vsl eI hl]) [] [] =
    Tr.br (decide (Int.ofNat (List.length hl) ≤ (7 : Int))) (Tr.need (Cv (dC (Int.ofNat (List.length hl)) (List.length hl) (enc eI hl) (0 : Nat) [] (0 : Nat) [] (0 : Nat) [] (0 : Nat) []) = V.agg [V.d (D.int .i64 (Int.ofNat (List.length hl))), V.d (D.sl false (List.length hl) (enc eI hl)), V.d (D.sl false (0) []), V.d (D.sl false (0) []), V.d (D.sl false (0) []), V.d (D.sl false (0) [])] ∧ True) (Tr.done (V.d (D.bool (faultM (dC (Int.ofNat (List.length hl)) (List.length hl) (enc eI hl) (0 : Nat) [] (0 : Nat) [] (0 : Nat) [] (0 : Nat) []) == (0 : Int)))) [])) (Tr.done (V.d (D.bool false)) []) := by kernel_rfl
theorem y40 (hl : List Int) : Yields Try.prog 40 [vsl eI hl] (vb (begunB hl)) := by
  refine q40.yields X40_ok rfl rfl rfl (w40 hl) ?_
  simp only [holds]
  have e : dC hl.length hl.length (enc eI hl) 0 [] 0 [] 0 [] 0 [] = ⟨hl.length, hl, [], [], [], []⟩ := by simp only [dC, dec_I]; rfl
  simp only [Int.ofNat_eq_natCast, e, and_true]
  refine ⟨fun h1 => ⟨rfl, .of_eq (congrArg vb ?_)⟩, fun h1 => .of_eq (congrArg vb ?_)⟩
  · have h1 : hl.length ≤ 7 := by have := of_decide_eq_true h1; omega
    simp [begunB, h1]
  · have h1 : ¬ hl.length ≤ 7 := by have := of_decide_eq_false h1; omega
    simp [begunB, h1]
def ent40 : Ent := fun args _ => match args with
  | [.d (.sl false n cs)] => some (enc eI (dec 1 gI n cs) = cs, vb (begunB (dec 1 gI n cs)), none)
  | _ => none
theorem ent40_ok : EntOk Try.prog 40 ent40 := by
  intro args h p v h' he hp
  unfold ent40 at he
  split at he
  · rename_i n cs
    cases he
    have e : V.d (.sl false n cs) = vsl eI (dec 1 gI n cs) := by unfold vsl dsl; rw [hp, dec_len]
    rw [e]; exact y40 _ h
  · cases he
def ent41 : Ent := fun args _ => match args with
  | [.d (.sl false n cs), .d (.sl false n2 ds), .d (.int .u8 m)] => some (okL eI 1 gI n cs ∧ enc eW (dec 1 gW n2 ds) = ds ∧ isWords (dec 1 gW n2 ds) ∧ begunB (dec 1 gI n cs) = true ∧ 0 ≤ m ∧ m ≤ 255, .tup [Cv (dealt (dec 1 gI n cs) (dec 1 gW n2 ds) m).1, Uv (dealt (dec 1 gI n cs) (dec 1 gW n2 ds) m).2], none)
  | _ => none
theorem ent41_ok : EntOk Try.prog 41 ent41 := by
  intro args h p v h' he hp
  unfold ent41 at he
  split at he
  · rename_i n cs n2 ds m
    cases he
    have e : V.d (.sl false n2 ds) = vsl eW (dec 1 gW n2 ds) := by unfold vsl dsl; rw [hp.2.1, dec_len]
    rw [okL_vsl hp.1, e]
    exact y41 _ _ _ hp.2.2.2.1 hp.2.2.1 hp.2.2.2.2.1 hp.2.2.2.2.2 h
  · cases he
def tab29 : Spec := (spAdd 41 ent41 (spAdd 40 ent40 (spAdd 28 ent28 (spAdd 27 ent27 (spAdd 26 ent26 (spAdd 25 ent25 tab27))))))
def X29d : Sx := mkX tab29
def HD (c : Cmp) (t : Tru) (d : Dvd) : Heap := [some (.box (Cbox c)), some (.box (Ubox t)), some (.box [vi d.ex, vi d.record, vi d.pence])]
def E11 (n : Int) (e l : Bool) (k : Nat) : Env := [(9, .ptr 0 0 0), (10, .ptr 1 0 0), (11, vi n), (12, .ptr 2 0 0), (13, vb e), (14, vb l), (15, vi k)]
theorem b11 (c : Cmp) (t : Tru) (d : Dvd) (n : Int) (e l : Bool) (k : Nat) : sx X29d (CCode.at c11 [1,1,1,1,1,1,0,1,0,0]) [] leafK (E11 n e l k) [] (HD c t d) =
    let x1_ := (List.length (Cmp.trades c))
    let x2_ := (decide (Int.ofNat k < Int.ofNat x1_))
    let x3_ := (List.length (Tru.deliv t))
    let x4_ := (List.length (Tru.sold t))
    let x5_ := ((0 : Int) ≤ Int.ofNat k ∧ Int.ofNat k < Int.ofNat x4_ ∧ okEl [0] (enc eI (Tru.sold t)) (1 : Nat) (Int.ofNat k))
    let x6_ := ((-9223372036854775808 : Int) ≤ Int.ofNat k + (1 : Int) ∧ Int.ofNat k + (1 : Int) ≤ (9223372036854775807 : Int))
    let x7_ := [some (Blk.box [V.d (D.int .i64 (Cmp.houses c)), V.d (D.sl false (List.length (Cmp.held c)) (enc eI (Cmp.held c))), V.d (D.sl false x1_ (enc eT (Cmp.trades c))), V.d (D.sl false (List.length (Cmp.divs c)) (enc eV (Cmp.divs c))), V.d (D.sl false (List.length (Cmp.splits c)) (enc eS (Cmp.splits c))), V.d (D.sl false (List.length (Cmp.closed c)) (enc eR (Cmp.closed c)))]), some (Blk.box [V.d (D.sl false x4_ (enc eI (Tru.sold t))), V.d (D.sl false x3_ (enc eI (Tru.deliv t)))]), some (Blk.box [V.d (D.int .i64 (Dvd.ex d)), V.d (D.int .i64 (Dvd.record d)), V.d (D.int .i64 (Dvd.pence d))])]
    Tr.br x2_ (Tr.br e (Tr.need ((0 : Int) ≤ Int.ofNat k ∧ Int.ofNat k < Int.ofNat x3_ ∧ okEl [0] (enc eI (Tru.deliv t)) (1 : Nat) (Int.ofNat k)) (Tr.need ((-9223372036854775808 : Int) ≤ Dvd.ex d - (1 : Int) ∧ Dvd.ex d - (1 : Int) ≤ (9223372036854775807 : Int)) (Tr.need (Cv (dCe c) = Cv c ∧ (-9223372036854775808 : Int) ≤ cI (enc eI (Tru.deliv t)) (1 : Nat) (Int.ofNat k) (0 : Nat) ∧ List.length (Cmp.closed (dCe c)) ≤ (140737488355328 : Nat)) (Tr.need True (Tr.br l (Tr.need x5_ (Tr.need x6_ (Tr.leaf CExit.normal [(9, V.ptr (0) (0) (0)), (10, V.ptr (1) (0) (0)), (11, V.d (D.int .i64 n)), (12, V.ptr (2) (0) (0)), (13, V.d (D.bool (inR (regR (Cmp.closed (dCe c)) (cI (enc eI (Tru.deliv t)) (1 : Nat) (Int.ofNat k) (0 : Nat))) (0 : Int) (Dvd.ex d - (1 : Int))))), (14, V.d (D.bool (decide (Dvd.record d < cI (enc eI (Tru.sold t)) (1 : Nat) (Int.ofNat k) (0 : Nat))))), (15, V.d (D.int .i64 (Int.ofNat k + (1 : Int))))] x7_))) (Tr.need x6_ (Tr.leaf CExit.normal [(9, V.ptr (0) (0) (0)), (10, V.ptr (1) (0) (0)), (11, V.d (D.int .i64 n)), (12, V.ptr (2) (0) (0)), (13, V.d (D.bool (inR (regR (Cmp.closed (dCe c)) (cI (enc eI (Tru.deliv t)) (1 : Nat) (Int.ofNat k) (0 : Nat))) (0 : Int) (Dvd.ex d - (1 : Int))))), (14, V.d (D.bool false)), (15, V.d (D.int .i64 (Int.ofNat k + (1 : Int))))] x7_))))))) (Tr.br l (Tr.need x5_ (Tr.need x6_ (Tr.leaf CExit.normal [(9, V.ptr (0) (0) (0)), (10, V.ptr (1) (0) (0)), (11, V.d (D.int .i64 n)), (12, V.ptr (2) (0) (0)), (13, V.d (D.bool false)), (14, V.d (D.bool (decide (Dvd.record d < cI (enc eI (Tru.sold t)) (1 : Nat) (Int.ofNat k) (0 : Nat))))), (15, V.d (D.int .i64 (Int.ofNat k + (1 : Int))))] x7_))) (Tr.need x6_ (Tr.leaf CExit.normal [(9, V.ptr (0) (0) (0)), (10, V.ptr (1) (0) (0)), (11, V.d (D.int .i64 n)), (12, V.ptr (2) (0) (0)), (13, V.d (D.bool false)), (14, V.d (D.bool false)), (15, V.d (D.int .i64 (Int.ofNat k + (1 : Int))))] x7_)))) (Tr.leaf (CExit.exit (0)) [(9, V.ptr (0) (0) (0)), (10, V.ptr (1) (0) (0)), (11, V.d (D.int .i64 n)), (12, V.ptr (2) (0) (0)), (13, V.d (D.bool e)), (14, V.d (D.bool l)), (15, V.d (D.int .i64 (Int.ofNat k))), (49, V.d (D.bool x2_))] x7_) := by kernel_rfl
theorem truth_ask {c : Cmp} {t : Tru} (hf : faultM c = 0) (ht : truthB c t = true) : askE c t = 0 := by
  simp only [truthB, Bool.and_eq_true] at ht
  simp [askE, hf, ht.1, ht.2]
end
end Go.Proofs.Ytdnefcjbcieecaa
namespace Go.Proofs.Ytdnefcjbcieecaa
open Go Go.Proofs
noncomputable section
def Cmp.only (c : Cmp) (r : Rng) : Cmp := { c with closed := [r] }
end
end Go.Proofs.Ytdnefcjbcieecaa
namespace Go.Proofs.Ytdnefcjbcieecaa
open Go Go.Proofs
noncomputable section
theorem q45 : FunIs Try.prog 45 G45 c45 r45 := ⟨Try.f45, Try.func45, k45, e45, by kernel_rfl, by kernel_rfl⟩
theorem q46 : FunIs Try.prog 46 G46 c46 r46 := ⟨Try.f46, Try.func46, k46, e46, by kernel_rfl, by kernel_rfl⟩
theorem q9 : FunIs Try.prog 9 G9 c9 r9 := ⟨Try.f9, Try.func9, k9, e9, by kernel_rfl, by kernel_rfl⟩
def tab46 : Spec := (spAdd 63 ent63 spNil)
theorem tab46_ok : SpOk Try.prog tab46 := (spAdd_ok ent63_ok (spNil_ok _))
def X46 : Sx := mkX tab46
theorem X46_ok : SpOk Try.prog X46.sp := tab46_ok
def E45 (l : List Int) (n : Int) (k : Nat) : Env := [(0, vsl eI l), (3, vi n), (4, vi k)]
theorem w45 (l : List Int) : sx X46 c45 [] (doneK r45) (envOf [vsl eI l]) [] [] =
    Tr.lp (CCode.at c45 [1, 1, 0, 1, 0, 0]) [Fr.blk (0), Fr.seq (CCode.at c45 [1, 1, 1])] [(0, V.d (D.sl false (List.length l) (enc eI l))), (3, V.d (D.int .i64 (0 : Int))), (4, V.d (D.int .i64 (0 : Int)))] [] := by kernel_rfl
theorem b45 (l : List Int) (n : Int) (k : Nat) : sx X46 (CCode.at c45 [1,1,0,1,0,0]) [] leafK (E45 l n k) [] [] =
    Tr.br (decide (Int.ofNat k < Int.ofNat (List.length l))) (Tr.need ((0 : Int) ≤ Int.ofNat k ∧ Int.ofNat k < Int.ofNat (List.length l) ∧ okEl [0] (enc eI l) (1 : Nat) (Int.ofNat k)) (Tr.need ((-9223372036854775808 : Int) ≤ n + cI (enc eI l) (1 : Nat) (Int.ofNat k) (0 : Nat) ∧ n + cI (enc eI l) (1 : Nat) (Int.ofNat k) (0 : Nat) ≤ (9223372036854775807 : Int)) (Tr.need ((-9223372036854775808 : Int) ≤ Int.ofNat k + (1 : Int) ∧ Int.ofNat k + (1 : Int) ≤ (9223372036854775807 : Int)) (Tr.leaf CExit.normal [(0, V.d (D.sl false (List.length l) (enc eI l))), (3, V.d (D.int .i64 (n + cI (enc eI l) (1 : Nat) (Int.ofNat k) (0 : Nat)))), (4, V.d (D.int .i64 (Int.ofNat k + (1 : Int))))] [])))) (Tr.leaf (CExit.exit (0)) [(0, V.d (D.sl false (List.length l) (enc eI l))), (3, V.d (D.int .i64 n)), (4, V.d (D.int .i64 (Int.ofNat k))), (8, V.d (D.bool (decide (Int.ofNat k < Int.ofNat (List.length l)))))] []) := by kernel_rfl
theorem x45 (u v w : V) (n : Int) : sS X46 (doneK r45) [Fr.blk 0, Fr.seq (CCode.at c45 [1,1,1])] (.exit 0) [(0, u), (3, vi n), (4, v), (8, w)] [] [] =
    Tr.done (V.d (D.int .i64 n)) [] := by kernel_rfl
def E46 (c : Cmp) (d n : Int) (k : Nat) : Env := [(1, vi d), (2, .rptr (Cds c) 0), (5, vi n), (6, vi k)]
theorem w46 (c : Cmp) (d : Int) : sx X46 c46 [] (doneK r46) (envOf [Cv c, vi d]) [] [] =
    Tr.lp (CCode.at c46 [1, 1, 0, 1, 0, 0]) [Fr.blk (0), Fr.seq (CCode.at c46 [1, 1, 1])] [(1, V.d (D.int .i64 d)), (2, V.rptr (Cds c) (0)), (5, V.d (D.int .i64 (0 : Int))), (6, V.d (D.int .i64 (0 : Int)))] [] := by kernel_rfl
theorem b46 (c : Cmp) (d n : Int) (k : Nat) : sx X46 (CCode.at c46 [1,1,0,1,0,0]) [] leafK (E46 c d n k) [] [] =
    let x1_ := (List.length (Cmp.held c))
    let x2_ := (decide (Int.ofNat k < Int.ofNat x1_))
    Tr.br x2_ (Tr.need ((0 : Int) ≤ Int.ofNat k ∧ Int.ofNat k < Int.ofNat x1_ ∧ okEl [0] (enc eI (Cmp.held c)) (1 : Nat) (Int.ofNat k)) (Tr.need (Cv (dCe c) = Cv c ∧ okSs (-1 : Int) (Cmp.splits (dCe c)) = true ∧ List.length (Cmp.splits (dCe c)) ≤ (2 : Nat) ∧ (0 : Int) ≤ cI (enc eI (Cmp.held c)) (1 : Nat) (Int.ofNat k) (0 : Nat) ∧ cI (enc eI (Cmp.held c)) (1 : Nat) (Int.ofNat k) (0 : Nat) ≤ (100 : Int) ∧ (-1000 : Int) ≤ (-1 : Int) ∧ (-1 : Int) ≤ (1000 : Int) ∧ d ≤ (1000 : Int)) (Tr.need ((-9223372036854775808 : Int) ≤ n + cI (enc eI (Cmp.held c)) (1 : Nat) (Int.ofNat k) (0 : Nat) * facM (Cmp.splits (dCe c)) (-1 : Int) d ∧ n + cI (enc eI (Cmp.held c)) (1 : Nat) (Int.ofNat k) (0 : Nat) * facM (Cmp.splits (dCe c)) (-1 : Int) d ≤ (9223372036854775807 : Int)) (Tr.need ((-9223372036854775808 : Int) ≤ Int.ofNat k + (1 : Int) ∧ Int.ofNat k + (1 : Int) ≤ (9223372036854775807 : Int)) (Tr.leaf CExit.normal [(1, V.d (D.int .i64 d)), (2, V.rptr (Cds c) (0)), (5, V.d (D.int .i64 (n + cI (enc eI (Cmp.held c)) (1 : Nat) (Int.ofNat k) (0 : Nat) * facM (Cmp.splits (dCe c)) (-1 : Int) d))), (6, V.d (D.int .i64 (Int.ofNat k + (1 : Int))))] []))))) (Tr.leaf (CExit.exit (0)) [(1, V.d (D.int .i64 d)), (2, V.rptr (Cds c) (0)), (5, V.d (D.int .i64 n)), (6, V.d (D.int .i64 (Int.ofNat k))), (11, V.d (D.bool x2_))] []) := by kernel_rfl
theorem x46 (u v w x : V) (n : Int) : sS X46 (doneK r46) [Fr.blk 0, Fr.seq (CCode.at c46 [1,1,1])] (.exit 0) [(1, u), (2, v), (5, vi n), (6, w), (11, x)] [] [] =
    Tr.done (V.d (D.int .i64 n)) [] := by kernel_rfl
def sumK (l : List Int) : Nat → Int
  | 0 => 0
  | k + 1 => sumK l k + lat l (k : Nat)
def sumI (l : List Int) : Int := sumK l l.length
theorem sumK_in {l : List Int} (hb : ∀ n ∈ l, -1000000000000 ≤ n ∧ n ≤ 1000000000000) : ∀ k, k ≤ l.length → -(1000000000000 * (k : Int)) ≤ sumK l k ∧ sumK l k ≤ 1000000000000 * (k : Int)
  | 0, _ => by simp [sumK]
  | k + 1, hk => by
    have ih := sumK_in hb k (by omega)
    have h := hb _ (lat_mem (show k < l.length by omega))
    rw [sumK]; omega
theorem y45 (l : List Int) (hl : l.length ≤ 1000) (hb : ∀ n ∈ l, -1000000000000 ≤ n ∧ n ≤ 1000000000000) : Yields Try.prog 45 [vsl eI l] (vi (sumI l)) := by
  refine q45.yieldsK X46_ok rfl rfl rfl (w45 l) ?_
  simp only [holds]
  refine lp_count X46_ok l.length (fun _ => True) (fun k => E45 l (sumK l k) k) (fun _ => []) rfl rfl trivial (fun k _ => ⟨rfl, rfl, rfl⟩) ?_
  intro k hk _ Q' hn he hr
  rw [b45]
  simp only [holds, Int.ofNat_eq_natCast, cI_I]
  refine ⟨fun e1 => ?_, fun e1 => ?_⟩
  · have hlt : k < l.length := by have := of_decide_eq_true e1; omega
    have h1 := sumK_in hb k hk
    have h := hb _ (lat_mem hlt)
    exact ⟨⟨by omega, by omega, ok_I (by simpa using hlt)⟩, ⟨by omega, by omega⟩, ⟨by omega, by omega⟩, hn [] hlt trivial⟩
  · have hge : k = l.length := by have := of_decide_eq_false e1; omega
    subst hge
    refine he _ _ _ (ret_tree X46_ok (doneK_ok rfl) (x45 _ _ _ _) ?_)
    simp only [holds]
    exact .refl _
def sumF (f : Nat → Int) : Nat → Int
  | 0 => 0
  | k + 1 => sumF f k + f k
theorem sumF_congr {f g : Nat → Int} : ∀ n, (∀ i, i < n → f i = g i) → sumF f n = sumF g n
  | 0, _ => rfl
  | n + 1, h => by rw [sumF, sumF, sumF_congr n fun i hi => h i (by omega), h n (by omega)]
theorem sumF_set (f : Nat → Int) (i : Nat) (x : Int) : ∀ n, sumF (setF f i x) n = if i < n then sumF f n - f i + x else sumF f n
  | 0 => rfl
  | n + 1 => by
    rw [sumF, sumF, sumF_set f i x n]
    by_cases h : i < n
    · rw [if_pos h, if_pos (by omega), setF, if_neg (by omega)]; omega
    · by_cases h2 : i = n
      · subst h2
        rw [if_neg h, if_pos (by omega), setF, if_pos rfl]; omega
      · rw [if_neg h, if_neg (by omega), setF, if_neg (by omega)]
theorem sumF_move (f : Nat → Int) {i j n : Nat} (u : Int) (hi : i < n) (hj : j < n) : sumF (moveF f i j u) n = sumF f n := by
  unfold moveF
  rw [sumF_set, if_pos hj, sumF_set, if_pos hi]; omega
theorem sum_rl (f : Nat → Int) (n : Nat) : ∀ k, k ≤ n → sumK (rl f n) k = sumF f k
  | 0, _ => rfl
  | k + 1, hk => by
    rw [sumK, sumF, sum_rl f n k (by omega)]
    congr 1
    have : k < n := by omega
    simp [lat, rl, this]
theorem sumI_rl (f : Nat → Int) (n : Nat) : sumI (rl f n) = sumF f n := by unfold sumI; rw [rl_len, sum_rl f n n (Nat.le_refl _)]
def allU (c : Cmp) (d : Int) : Int := sumF (fun h => lat c.held (h : Nat) * fac c (-1) d) c.held.length
theorem y46 (c : Cmp) (d : Int) (hf : faultM c = 0) (hd : d ≤ 1000) : Yields Try.prog 46 [Cv c, vi d] (vi (allU c d)) := by
  obtain ⟨⟨g1, g2, g3, g4, g5, g6, g7⟩, g8, g9, g10, g11, g12⟩ := fault_ok hf
  refine q46.yieldsK X46_ok rfl rfl rfl (w46 c d) ?_
  simp only [holds]
  refine lp_count X46_ok c.held.length (fun k => 0 ≤ sumF (fun h => lat c.held (h : Nat) * fac c (-1) d) k ∧ sumF (fun h => lat c.held (h : Nat) * fac c (-1) d) k ≤ 2592000 * (k : Int)) (fun k => E46 c d (sumF (fun h => lat c.held (h : Nat) * fac c (-1) d) k) k) (fun _ => []) rfl rfl ⟨by simp [sumF], by simp [sumF]⟩ (fun k _ => ⟨rfl, rfl, rfl⟩) ?_
  intro k hk hA Q' hn he hr
  rw [b46]
  simp only [holds, Int.ofNat_eq_natCast, cI_I, dCe, dC_enc, true_and]
  refine ⟨fun e1 => ?_, fun e1 => ?_⟩
  · have hlt : k < c.held.length := by have := of_decide_eq_true e1; omega
    have h1 := held_in hf hlt
    have h2 := fac_in hf (-1) d
    have h3 := mul_in h1.1 h1.2 h2.1 h2.2
    have ef : lat c.held (k : Nat) * facM c.splits (-1) d = lat c.held (k : Nat) * fac c (-1) d := rfl
    rw [ef]
    exact ⟨⟨by omega, by omega, ok_I (by simpa using hlt)⟩, ⟨g11, g6, by omega, by omega, by omega, by omega, hd⟩, ⟨by omega, by omega⟩, ⟨by omega, by omega⟩, hn [] hlt ⟨by rw [sumF]; omega, by rw [sumF]; omega⟩⟩
  · have hge : k = c.held.length := by have := of_decide_eq_false e1; omega
    subst hge
    refine he _ _ _ (ret_tree X46_ok (doneK_ok rfl) (x46 _ _ _ _ _) ?_)
    simp only [holds]
    exact .refl _
theorem held_sum {c : Cmp} (hf : faultM c = 0) (t : Tru) (d : Int) : ∀ k, k ≤ c.trades.length → sumF (heldT c t d k) c.held.length = allU c d
  | 0, _ => sumF_congr _ fun i hi => heldA_at c d _ i hi
  | k + 1, hk => by
    have ih := held_sum hf t d k (by omega)
    have ht := trade_in hf (show k < c.trades.length by omega)
    have hh := (fault_ok hf).1.2.2.1
    simp only [okTr, Bool.and_eq_true, decide_eq_true_eq] at ht
    rw [heldT]
    split
    · rw [sumF_move _ _ (by omega) (by omega)]; exact ih
    · exact ih
def ent45 : Ent := fun args _ => match args with
  | [.d (.sl false n cs)] => some (okL eI 1 gI n cs ∧ n ≤ 1000 ∧ (∀ x ∈ dec 1 gI n cs, -1000000000000 ≤ x ∧ x ≤ 1000000000000), vi (sumI (dec 1 gI n cs)), none)
  | _ => none
theorem ent45_ok : EntOk Try.prog 45 ent45 := by
  intro args h p v h' he hp
  unfold ent45 at he
  split at he
  · cases he; rw [okL_vsl hp.1]; exact y45 _ (by rw [dec_len]; exact hp.2.1) hp.2.2 h
  · cases he
def ent46 := entCI (fun c d => faultM c = 0 ∧ d ≤ 1000) (fun c d => vi (allU c d))
theorem ent46_ok : EntOk Try.prog 46 ent46 := entCI_ok fun c n h => y46 c n h.1 h.2
def ent19 := entCUI (fun _ _ _ => True) (fun c t d => .tup [vsl eI (wholeS c t d), vsl eI (wholeU c t d), vi (wholeE c t d)])
theorem ent19_ok : EntOk Try.prog 19 ent19 := entCUI_ok fun c t d _ => y19 c t d
def tab30 : Spec := (spAdd 46 ent46 (spAdd 45 ent45 (spAdd 41 ent41 (spAdd 40 ent40 (spAdd 28 ent28 (spAdd 27 ent27 (spAdd 25 ent25 (spAdd 21 ent21 (spAdd 20 ent20 (spAdd 19 ent19 (spAdd 18 ent18 spNil)))))))))))
theorem tab30_ok : SpOk Try.prog tab30 := (spAdd_ok ent46_ok (spAdd_ok ent45_ok (spAdd_ok ent41_ok (spAdd_ok ent40_ok (spAdd_ok ent28_ok (spAdd_ok ent27_ok (spAdd_ok ent25_ok (spAdd_ok ent21_ok (spAdd_ok ent20_ok (spAdd_ok ent19_ok (spAdd_ok ent18_ok (spNil_ok _))))))))))))
def X30 : Sx := mkX tab30
theorem X30_ok : SpOk Try.prog X30.sp := tab30_ok
theorem w9 (hl ws : List Int) (m j o u : Int) : sx X30 c9 [] (doneP r9) (envOf [vsl eI hl, vsl eW ws, .d (.int .u8 m), .d (.int .u8 j), .d (.int .u8 o), .d (.int .u8 u)]) [] [] =
    let x1_ := (dec (1 : Nat) gI (List.length hl) (enc eI hl))
    let x2_ := (dec (1 : Nat) gW (List.length ws) (enc eW ws))
    let x3_ := (Prod.fst (dealt x1_ x2_ m))
    let x4_ := (List.length (Cmp.divs x3_))
    let x5_ := (IntKind.wrap IntKind.i64 j)
    let x6_ := (Int.tmod x5_ (Int.ofNat x4_))
    let x7_ := (Cv (dCe x3_) = Cv x3_ ∧ small (dCe x3_))
    let x8_ := (Prod.snd (dealt x1_ x2_ m))
    let x9_ := (Uv (dUe x8_) = Uv x8_ ∧ List.length (Tru.sold (dUe x8_)) ≤ (1000000 : Nat) ∧ List.length (Tru.deliv (dUe x8_)) ≤ (1000000 : Nat))
    let x10_ := (Cv (dCe (dCe x3_)) = Cv (dCe x3_) ∧ Uv (dUe (dUe x8_)) = Uv (dUe x8_) ∧ True)
    let x11_ := (Int.tmod (IntKind.wrap IntKind.i64 o) (12 : Int))
    let x12_ := (cI (enc eV (Cmp.divs x3_)) (3 : Nat) x6_ (1))
    let x13_ := (wholeS (dCe (dCe x3_)) (dUe (dUe x8_)) x11_)
    let x14_ := (wholeU (dCe (dCe x3_)) (dUe (dUe x8_)) x11_)
    let x15_ := (wholeS (dCe (dCe x3_)) (dUe (dUe x8_)) x12_)
    let x16_ := (wholeU (dCe (dCe x3_)) (dUe (dUe x8_)) x12_)
    let x17_ := (sumL paidM (dCe (dCe x3_)) (dUe (dUe x8_)) x6_)
    Tr.need (enc eI x1_ = enc eI hl) (Tr.br (!begunB x1_) (Tr.need True (Tr.done (V.d (D.bool true)) [])) (Tr.need (okL eI (1 : Nat) gI (List.length hl) (enc eI hl) ∧ enc eW x2_ = enc eW ws ∧ isWords x2_ ∧ begunB x1_ = true ∧ (0 : Int) ≤ m ∧ m ≤ (255 : Int)) (Tr.need ((12 : Int) ≠ (0 : Int)) (Tr.need (Int.ofNat x4_ ≠ (0 : Int)) (Tr.need ((0 : Int) ≤ Int.tmod x5_ (Int.ofNat x4_) ∧ Int.tmod x5_ (Int.ofNat x4_) < Int.ofNat x4_ ∧ okEl [0, 0, 0] (enc eV (Cmp.divs x3_)) (3 : Nat) x6_) (Tr.need x7_ (Tr.need x9_ (Tr.need x10_ (Tr.need x7_ (Tr.need x9_ (Tr.need x10_ (Tr.need x7_ (Tr.need x9_ (Tr.need x10_ (Tr.br (wholeE (dCe (dCe x3_)) (dUe (dUe x8_)) x11_ != (0 : Int)) (Tr.done (V.d (D.bool false)) []) (Tr.br (wholeE (dCe (dCe x3_)) (dUe (dUe x8_)) x12_ != (0 : Int)) (Tr.done (V.d (D.bool false)) []) (Tr.br (sumE (dCe (dCe x3_)) (dUe (dUe x8_)) x6_ != (0 : Int)) (Tr.done (V.d (D.bool false)) []) (Tr.br (Int.ofNat (List.length x13_) != Int.ofNat (List.length hl)) (Tr.done (V.d (D.bool false)) []) (Tr.br (Int.ofNat (List.length x14_) != Int.ofNat (List.length hl)) (Tr.done (V.d (D.bool false)) []) (Tr.br (Int.ofNat (List.length x15_) != Int.ofNat (List.length hl)) (Tr.done (V.d (D.bool false)) []) (Tr.br (Int.ofNat (List.length x16_) != Int.ofNat (List.length hl)) (Tr.done (V.d (D.bool false)) []) (Tr.br (Int.ofNat (List.length x17_) != Int.ofNat (List.length hl)) (Tr.done (V.d (D.bool false)) []) (Tr.lp (CCode.at c9 [1, 1, 1, 1, 1, 1, 1, 1, 1, 1, 1, 0, 1, 0, 0]) [Fr.blk (0), Fr.seq (CCode.at c9 [1, 1, 1, 1, 1, 1, 1, 1, 1, 1, 1, 1])] [(5, V.d (D.int IntKind.u8 u)), (13, V.ptr (0) (0) (0)), (14, V.ptr (1) (0) (0)), (15, V.d (D.int .i64 x11_)), (16, V.d (D.int .i64 x6_)), (17, V.ptr (2) (0) (0)), (18, V.d (D.sl false (List.length x13_) (enc eI x13_))), (19, V.d (D.sl false (List.length x14_) (enc eI x14_))), (21, V.d (D.sl false (List.length x15_) (enc eI x15_))), (22, V.d (D.sl false (List.length x16_) (enc eI x16_))), (24, V.d (D.sl false (List.length x17_) (enc eI x17_))), (26, V.d (D.int .i64 (Int.ofNat (List.length hl)))), (27, V.d (D.int .i64 (0 : Int)))] [some (Blk.box [V.d (D.int .i64 (Cmp.houses x3_)), V.d (D.sl false (List.length (Cmp.held x3_)) (enc eI (Cmp.held x3_))), V.d (D.sl false (List.length (Cmp.trades x3_)) (enc eT (Cmp.trades x3_))), V.d (D.sl false x4_ (enc eV (Cmp.divs x3_))), V.d (D.sl false (List.length (Cmp.splits x3_)) (enc eS (Cmp.splits x3_))), V.d (D.sl false (List.length (Cmp.closed x3_)) (enc eR (Cmp.closed x3_)))]), some (Blk.box [V.d (D.sl false (List.length (Tru.sold x8_)) (enc eI (Tru.sold x8_))), V.d (D.sl false (List.length (Tru.deliv x8_)) (enc eI (Tru.deliv x8_)))]), some (Blk.box [V.d (D.int .i64 (cI (enc eV (Cmp.divs x3_)) (3 : Nat) x6_ (0 : Nat))), V.d (D.int .i64 x12_), V.d (D.int .i64 (cI (enc eV (Cmp.divs x3_)) (3 : Nat) x6_ (2)))])]))))))))))))))))))))))) := by kernel_rfl
def E9 (w dy kk : Int) (s v a b p : List Int) (n : Nat) : Env := [(5, .d (.int .u8 w)), (13, .ptr 0 0 0), (14, .ptr 1 0 0), (15, vi dy), (16, vi kk), (17, .ptr 2 0 0), (18, vsl eI s), (19, vsl eI v), (21, vsl eI a), (22, vsl eI b), (24, vsl eI p), (26, vi n)]
theorem b9 (w dy kk : Int) (s v a b p : List Int) (n : Nat) (c : Cmp) (t : Tru) (d : Dvd) (k : Nat) : sx X30 (CCode.at c9 [1,1,1,1,1,1,1,1,1,1,1,0,1,0,0]) [] leafK (E9 w dy kk s v a b p n ++ [(27, vi k)]) [] (HD c t d) =
    let x1_ := (decide (Int.ofNat k < Int.ofNat n))
    let x2_ := ((0 : Int) ≤ Int.ofNat k ∧ Int.ofNat k < Int.ofNat (List.length v) ∧ okEl [0] (enc eI v) (1 : Nat) (Int.ofNat k))
    let x3_ := [some (Blk.box [V.d (D.int .i64 (Cmp.houses c)), V.d (D.sl false (List.length (Cmp.held c)) (enc eI (Cmp.held c))), V.d (D.sl false (List.length (Cmp.trades c)) (enc eT (Cmp.trades c))), V.d (D.sl false (List.length (Cmp.divs c)) (enc eV (Cmp.divs c))), V.d (D.sl false (List.length (Cmp.splits c)) (enc eS (Cmp.splits c))), V.d (D.sl false (List.length (Cmp.closed c)) (enc eR (Cmp.closed c)))]), some (Blk.box [V.d (D.sl false (List.length (Tru.sold t)) (enc eI (Tru.sold t))), V.d (D.sl false (List.length (Tru.deliv t)) (enc eI (Tru.deliv t)))]), some (Blk.box [V.d (D.int .i64 (Dvd.ex d)), V.d (D.int .i64 (Dvd.record d)), V.d (D.int .i64 (Dvd.pence d))])]
    let x4_ := ((0 : Int) ≤ Int.ofNat k ∧ Int.ofNat k < Int.ofNat (List.length b) ∧ okEl [0] (enc eI b) (1 : Nat) (Int.ofNat k))
    let x5_ := ((720 : Int) * cI (enc eI a) (1 : Nat) (Int.ofNat k) (0 : Nat) + cI (enc eI b) (1 : Nat) (Int.ofNat k) (0 : Nat))
    Tr.br x1_ (Tr.need x2_ (Tr.br (decide (cI (enc eI v) (1 : Nat) (Int.ofNat k) (0 : Nat) < (0 : Int))) (Tr.leaf CExit.ret [(12, V.d (D.bool false))] x3_) (Tr.need x2_ (Tr.br (decide ((719 : Int) < cI (enc eI v) (1 : Nat) (Int.ofNat k) (0 : Nat))) (Tr.leaf CExit.ret [(12, V.d (D.bool false))] x3_) (Tr.need ((0 : Int) ≤ Int.ofNat k ∧ Int.ofNat k < Int.ofNat (List.length s) ∧ okEl [0] (enc eI s) (1 : Nat) (Int.ofNat k)) (Tr.br (decide (cI (enc eI s) (1 : Nat) (Int.ofNat k) (0 : Nat) < (0 : Int))) (Tr.leaf CExit.ret [(12, V.d (D.bool false))] x3_) (Tr.need x4_ (Tr.br (decide (cI (enc eI b) (1 : Nat) (Int.ofNat k) (0 : Nat) < (0 : Int))) (Tr.leaf CExit.ret [(12, V.d (D.bool false))] x3_) (Tr.need ((0 : Int) ≤ Int.ofNat k ∧ Int.ofNat k < Int.ofNat (List.length p) ∧ okEl [0] (enc eI p) (1 : Nat) (Int.ofNat k)) (Tr.need ((0 : Int) ≤ Int.ofNat k ∧ Int.ofNat k < Int.ofNat (List.length a) ∧ okEl [0] (enc eI a) (1 : Nat) (Int.ofNat k)) (Tr.need ((-9223372036854775808 : Int) ≤ (720 : Int) * cI (enc eI a) (1 : Nat) (Int.ofNat k) (0 : Nat) ∧ (720 : Int) * cI (enc eI a) (1 : Nat) (Int.ofNat k) (0 : Nat) ≤ (9223372036854775807 : Int)) (Tr.need x4_ (Tr.need ((-9223372036854775808 : Int) ≤ (720 : Int) * cI (enc eI a) (1 : Nat) (Int.ofNat k) (0 : Nat) + cI (enc eI b) (1 : Nat) (Int.ofNat k) (0 : Nat) ∧ (720 : Int) * cI (enc eI a) (1 : Nat) (Int.ofNat k) (0 : Nat) + cI (enc eI b) (1 : Nat) (Int.ofNat k) (0 : Nat) ≤ (9223372036854775807 : Int)) (Tr.need ((-9223372036854775808 : Int) ≤ Dvd.pence d * x5_ ∧ Dvd.pence d * x5_ ≤ (9223372036854775807 : Int)) (Tr.br (cI (enc eI p) (1 : Nat) (Int.ofNat k) (0 : Nat) != Dvd.pence d * x5_) (Tr.leaf CExit.ret [(12, V.d (D.bool false))] x3_) (Tr.need ((-9223372036854775808 : Int) ≤ Int.ofNat k + (1 : Int) ∧ Int.ofNat k + (1 : Int) ≤ (9223372036854775807 : Int)) (Tr.leaf CExit.normal [(5, V.d (D.int IntKind.u8 w)), (13, V.ptr (0) (0) (0)), (14, V.ptr (1) (0) (0)), (15, V.d (D.int .i64 dy)), (16, V.d (D.int .i64 kk)), (17, V.ptr (2) (0) (0)), (18, V.d (D.sl false (List.length s) (enc eI s))), (19, V.d (D.sl false (List.length v) (enc eI v))), (21, V.d (D.sl false (List.length a) (enc eI a))), (22, V.d (D.sl false (List.length b) (enc eI b))), (24, V.d (D.sl false (List.length p) (enc eI p))), (26, V.d (D.int .i64 (Int.ofNat n))), (27, V.d (D.int .i64 (Int.ofNat k + (1 : Int))))] x3_))))))))))))))))) (Tr.leaf (CExit.exit (0)) [(5, V.d (D.int IntKind.u8 w)), (13, V.ptr (0) (0) (0)), (14, V.ptr (1) (0) (0)), (15, V.d (D.int .i64 dy)), (16, V.d (D.int .i64 kk)), (17, V.ptr (2) (0) (0)), (18, V.d (D.sl false (List.length s) (enc eI s))), (19, V.d (D.sl false (List.length v) (enc eI v))), (21, V.d (D.sl false (List.length a) (enc eI a))), (22, V.d (D.sl false (List.length b) (enc eI b))), (24, V.d (D.sl false (List.length p) (enc eI p))), (26, V.d (D.int .i64 (Int.ofNat n))), (27, V.d (D.int .i64 (Int.ofNat k))), (133, V.d (D.bool x1_))] x3_) := by kernel_rfl
theorem x9 (w dy kk : Int) (s v a b p : List Int) (n : Nat) (c : Cmp) (t : Tru) (d : Dvd) (k : Int) (z : Bool) : sS X30 (doneP r9) [Fr.blk 0, Fr.seq (CCode.at c9 [1,1,1,1,1,1,1,1,1,1,1,1])] (.exit 0) (E9 w dy kk s v a b p n ++ [(27, vi k), (133, vb z)]) [] (HD c t d) =
    let x1_ := (dec (1 : Nat) gI (List.length s) (enc eI s))
    let x2_ := (dec (1 : Nat) gI (List.length v) (enc eI v))
    let x3_ := (IntKind.wrap IntKind.i64 w)
    let x4_ := (Cv (dCe c) = Cv c ∧ small (dCe c))
    let x5_ := (Uv (dUe t) = Uv t ∧ List.length (Tru.sold (dUe t)) ≤ (1000000 : Nat) ∧ List.length (Tru.deliv (dUe t)) ≤ (1000000 : Nat))
    let x6_ := (Cv (dCe (dCe c)) = Cv (dCe c) ∧ Uv (dUe (dUe t)) = Uv (dUe t) ∧ True)
    let x7_ := (List.length (Cmp.held c))
    let x8_ := (List.length (Cmp.trades c))
    let x9_ := (List.length (Cmp.divs c))
    let x10_ := ((1 : Int) + Int.tmod x3_ (4 : Int))
    let x11_ := [D.int .i64 dy, D.int .i64 x10_, D.int .i64 x10_]
    let x12_ := (List.length (Cmp.closed c))
    let x13_ := (dC (Cmp.houses c) x7_ (enc eI (Cmp.held c)) x8_ (enc eT (Cmp.trades c)) x9_ (enc eV (Cmp.divs c)) (1 : Nat) x11_ x12_ (enc eR (Cmp.closed c)))
    let x14_ := (sumE (dCe (dCe c)) (dUe (dUe t)) kk == (0 : Int))
    let x15_ := (sumL rightsM (dCe (dCe c)) (dUe (dUe t)) kk)
    let x16_ := (sumL rightsM (dCe x13_) (dUe (dUe t)) kk)
    let x17_ := (dec (1 : Nat) gI (List.length x15_) (enc eI x15_))
    Tr.need (okL eI (1 : Nat) gI (List.length s) (enc eI s) ∧ List.length s ≤ (1000 : Nat) ∧ ∀ (x : Int), x ∈ dec (1 : Nat) gI (List.length s) (enc eI s) → (-1000000000000 : Int) ≤ x ∧ x ≤ (1000000000000 : Int)) (Tr.need ((-9223372036854775808 : Int) ≤ (720 : Int) * sumI x1_ ∧ (720 : Int) * sumI x1_ ≤ (9223372036854775807 : Int)) (Tr.need (okL eI (1 : Nat) gI (List.length v) (enc eI v) ∧ List.length v ≤ (1000 : Nat) ∧ ∀ (x : Int), x ∈ dec (1 : Nat) gI (List.length v) (enc eI v) → (-1000000000000 : Int) ≤ x ∧ x ≤ (1000000000000 : Int)) (Tr.need ((-9223372036854775808 : Int) ≤ (720 : Int) * sumI x1_ + sumI x2_ ∧ (720 : Int) * sumI x1_ + sumI x2_ ≤ (9223372036854775807 : Int)) (Tr.need (Cv (dCe c) = Cv c ∧ faultM (dCe c) = (0 : Int) ∧ dy ≤ (1000 : Int)) (Tr.br ((720 : Int) * sumI x1_ + sumI x2_ != allU (dCe c) dy) (Tr.done (V.d (D.bool false)) []) (Tr.need ((4 : Int) ≠ (0 : Int)) (Tr.need ((-9223372036854775808 : Int) ≤ (1 : Int) + Int.tmod x3_ (4 : Int) ∧ (1 : Int) + Int.tmod x3_ (4 : Int) ≤ (9223372036854775807 : Int)) (Tr.br (Int.ofNat (List.length (Cmp.splits c)) == (0 : Int)) (Tr.need x4_ (Tr.need x5_ (Tr.need x6_ (Tr.need (Cv x13_ = V.agg [V.d (D.int .i64 (Cmp.houses c)), V.d (D.sl false x7_ (enc eI (Cmp.held c))), V.d (D.sl false x8_ (enc eT (Cmp.trades c))), V.d (D.sl false x9_ (enc eV (Cmp.divs c))), V.d (D.sl false (1) x11_), V.d (D.sl false x12_ (enc eR (Cmp.closed c)))] ∧ small x13_) (Tr.need x5_ (Tr.need (Cv (dCe x13_) = V.agg [V.d (D.int .i64 (Cmp.houses x13_)), V.d (D.sl false (List.length (Cmp.held x13_)) (enc eI (Cmp.held x13_))), V.d (D.sl false (List.length (Cmp.trades x13_)) (enc eT (Cmp.trades x13_))), V.d (D.sl false (List.length (Cmp.divs x13_)) (enc eV (Cmp.divs x13_))), V.d (D.sl false (1) (enc eS (Cmp.splits x13_))), V.d (D.sl false (List.length (Cmp.closed x13_)) (enc eR (Cmp.closed x13_)))] ∧ Uv (dUe (dUe t)) = Uv (dUe t) ∧ True) (Tr.br x14_ (Tr.br (sumE (dCe x13_) (dUe (dUe t)) kk == (0 : Int)) (Tr.need (okL eI (1 : Nat) gI (List.length x15_) (enc eI x15_) ∧ okL eI (1 : Nat) gI (List.length x16_) (enc eI x16_) ∧ List.length x17_ ≤ (1000000 : Nat) ∧ List.length (dec (1 : Nat) gI (List.length x16_) (enc eI x16_)) ≤ (1000000 : Nat)) (Tr.br (decide (dec (1 : Nat) gI (List.length x15_) (enc eI x15_) = dec (1 : Nat) gI (List.length x16_) (enc eI x16_))) (Tr.need True (Tr.done (V.d (D.bool true)) [])) (Tr.done (V.d (D.bool false)) []))) (Tr.done (V.d (D.bool false)) [])) (Tr.done (V.d (D.bool false)) [])))))))) (Tr.need x4_ (Tr.need x5_ (Tr.need x6_ (Tr.need x4_ (Tr.need x5_ (Tr.need x6_ (Tr.br x14_ (Tr.br x14_ (Tr.need (okL eI (1 : Nat) gI (List.length x15_) (enc eI x15_) ∧ okL eI (1 : Nat) gI (List.length x15_) (enc eI x15_) ∧ List.length x17_ ≤ (1000000 : Nat) ∧ List.length x17_ ≤ (1000000 : Nat)) (Tr.br (decide (dec (1 : Nat) gI (List.length x15_) (enc eI x15_) = dec (1 : Nat) gI (List.length x15_) (enc eI x15_))) (Tr.need True (Tr.done (V.d (D.bool true)) [])) (Tr.done (V.d (D.bool false)) []))) (Tr.done (V.d (D.bool false)) [])) (Tr.done (V.d (D.bool false)) [])))))))))))))))) := by kernel_rfl
end
end Go.Proofs.Ytdnefcjbcieecaa
namespace Go.Proofs.Ytdnefcjbcieecaa
open Go Go.Proofs
noncomputable section
def Cmp.split1 (c : Cmp) (d m : Int) : Cmp := { c with splits := [⟨d, m, m⟩] }
theorem dC_split1 (c : Cmp) (d m : Int) : dC c.houses c.held.length (enc eI c.held) c.trades.length (enc eT c.trades) c.divs.length (enc eV c.divs) 1 [D.int .i64 d, D.int .i64 m, D.int .i64 m] c.closed.length (enc eR c.closed) = c.split1 d m := by
  simp only [dC, dec_I, dec_T, dec_V, dec_R, Cmp.split1]; rfl
theorem Cv_split1 (c : Cmp) (d m : Int) : Cv (c.split1 d m) = V.agg [V.d (D.int .i64 c.houses), V.d (D.sl false c.held.length (enc eI c.held)), V.d (D.sl false c.trades.length (enc eT c.trades)), V.d (D.sl false c.divs.length (enc eV c.divs)), V.d (D.sl false 1 [D.int .i64 d, D.int .i64 m, D.int .i64 m]), V.d (D.sl false c.closed.length (enc eR c.closed))] := rfl
theorem fault_split1 {c : Cmp} {d m : Int} (hf : faultM c = 0) (hd : 0 ≤ d ∧ d ≤ 11) (hm : 1 ≤ m ∧ m ≤ 4) : faultM (c.split1 d m) = 0 := by
  have h := fault_ok hf
  refine fault_of (c := c.split1 d m) ⟨h.1.1, h.1.2.1, h.1.2.2.1, h.1.2.2.2.1, h.1.2.2.2.2.1, ?_, h.1.2.2.2.2.2.2⟩ h.2.1 h.2.2.1 h.2.2.2.1 ?_ h.2.2.2.2.2
  · show 1 ≤ 2; omega
  · show okSs (-1) [⟨d, m, m⟩] = true
    simp only [okSs, okSp, Bool.and_true, decide_eq_true_eq]; omega
theorem fac_split1 {c : Cmp} {d m : Int} (hs : c.splits = []) (hm : 1 ≤ m) (a b : Int) : fac (c.split1 d m) a b = fac c a b := by
  unfold fac
  rw [hs]
  show facM [⟨d, m, m⟩] a b = 720
  simp only [facM, List.foldl_cons, List.foldl_nil, facS]
  split
  · exact Int.mul_tdiv_cancel 720 (show m ≠ 0 by omega)
  · rfl
section
variable {c : Cmp} {d m : Int} (hs : c.splits = []) (hm : 1 ≤ m)
include hs hm
theorem heldA_split1 (n : Int) : ∀ k, heldA (c.split1 d m) n k = heldA c n k
  | 0 => rfl
  | k + 1 => by rw [heldA, heldA, heldA_split1 n k, fac_split1 hs hm]; rfl
theorem units_split1 (t : Tru) (n : Int) (k : Nat) : unitsT (c.split1 d m) t n k = unitsT c t n k := by
  unfold unitsT; rw [fac_split1 hs hm]; rfl
theorem heldT_split1 (t : Tru) (n : Int) : ∀ k, heldT (c.split1 d m) t n k = heldT c t n k
  | 0 => heldA_split1 hs hm n _
  | k + 1 => by
    rw [heldT, heldT, heldT_split1 t n k, units_split1 hs hm]
    by_cases h : isReg c t n k
    · rw [if_pos h, if_pos (show isReg (c.split1 d m) t n k from h)]; rfl
    · rw [if_neg h, if_neg (show ¬ isReg (c.split1 d m) t n k from h)]
theorem truth_split1 (t : Tru) (ht : truthB c t = true) : truthB (c.split1 d m) t = true := by
  simp only [truthB, Bool.and_eq_true] at ht ⊢
  refine ⟨ht.1, ?_⟩
  have h := ht.2
  simp only [fitsB, decide_eq_true_eq] at h ⊢
  intro j hj i hi
  have e : heldF (c.split1 d m) t j i = heldF c t j i := by
    unfold heldF
    exact congrFun (heldT_split1 hs hm t j _) i
  rw [e]; exact h j hj i hi
theorem rightR_split1 (t : Tru) (v : Dvd) (h : Nat) : ∀ k, rightR (c.split1 d m) t v h k = rightR c t v h k
  | 0 => by rw [rightR, rightR, fac_split1 hs hm]; rfl
  | k + 1 => by rw [rightR, rightR, rightR_split1 t v h k, units_split1 hs hm]; rfl
theorem rights_split1 (hf : faultM c = 0) (hd : 0 ≤ d ∧ d ≤ 11) (hm4 : m ≤ 4) (t : Tru) (v : Dvd) : rightsM (c.split1 d m) t v = rightsM c t v := by
  rw [← rights_eq hf, ← rights_eq (fault_split1 hf hd ⟨hm, hm4⟩)]
  have e : (c.split1 d m).held = c.held := rfl
  have e2 : (c.split1 d m).trades = c.trades := rfl
  rw [e]
  unfold refR rl
  exact List.map_congr_left fun i _ => by rw [e2, rightR_split1 hs hm]
end
theorem fits_at {c : Cmp} {t : Tru} (hf : faultM c = 0) (ht : truthB c t = true) {d : Int} (h0 : 0 ≤ d) (h1 : d ≤ 11) {i : Nat} (hi : i < c.held.length) : 0 ≤ heldF c t d i := by
  simp only [truthB, Bool.and_eq_true, fitsB, decide_eq_true_eq] at ht
  have hb := (fault_ok hf).1
  have := ht.2 d.toNat (by omega) i (by omega)
  have e : ((d.toNat : Nat) : Int) = d := by omega
  rw [e] at this
  exact this
theorem sumF_lin (f g : Nat → Int) : ∀ n, 720 * sumF f n + sumF g n = sumF (fun i => 720 * f i + g i) n
  | 0 => by simp [sumF]
  | n + 1 => by
    have ih := sumF_lin f g n
    simp only [sumF]
    omega
theorem refH_map (c : Cmp) (t : Tru) (d : Int) (f : Int → Int) : (refH c t d).map f = rl (fun i => f (heldF c t d i)) c.held.length := by
  simp only [refH, refK, rl, List.map_map]; rfl
theorem units_law {c : Cmp} {t : Tru} (hf : faultM c = 0) (ht : truthB c t = true) {d : Int} (h0 : 0 ≤ d) (h1 : d ≤ 11) : 720 * sumI ((refH c t d).map (·.tdiv 720)) + sumI ((refH c t d).map (·.tmod 720)) = allU c d := by
  rw [refH_map, refH_map, sumI_rl, sumI_rl, sumF_lin, ← held_sum hf t d _ (Nat.le_refl _)]
  refine sumF_congr _ fun i hi => ?_
  have h := fits_at hf ht h0 h1 hi
  show 720 * (heldF c t d i).tdiv 720 + (heldF c t d i).tmod 720 = heldF c t d i
  rw [Int.tdiv_eq_ediv_of_nonneg h, Int.tmod_eq_emod_of_nonneg h]
  omega
theorem map_in {c : Cmp} {t : Tru} (hf : faultM c = 0) (ht : truthB c t = true) {d : Int} (h0 : 0 ≤ d) (h1 : d ≤ 11) : (∀ x ∈ (refH c t d).map (·.tdiv 720), -1000000000000 ≤ x ∧ x ≤ 1000000000000) ∧ (∀ x ∈ (refH c t d).map (·.tmod 720), -1000000000000 ≤ x ∧ x ≤ 1000000000000) := by
  rw [refH_map, refH_map]
  constructor
  · intro x hx
    simp only [rl, List.mem_map, List.mem_range] at hx
    obtain ⟨i, hi, rfl⟩ := hx
    have h := fits_at hf ht h0 h1 hi
    have h2 := heldF_in hf t d i
    rw [Int.tdiv_eq_ediv_of_nonneg h]; omega
  · intro x hx
    simp only [rl, List.mem_map, List.mem_range] at hx
    obtain ⟨i, hi, rfl⟩ := hx
    have h := fits_at hf ht h0 h1 hi
    have h2 := heldF_in hf t d i
    rw [Int.tmod_eq_emod_of_nonneg h]; omega
theorem lat_map {l : List Int} (f : Int → Int) {k : Nat} (hk : k < l.length) : lat (l.map f) (k : Nat) = f (lat l (k : Nat)) := by
  simp [lat, hk]
theorem l9 (w dy kk : Int) (c : Cmp) (t : Tru) (d : Dvd) (s v a b p : List Int) (hf : faultM c = 0) (ht : truthB c t = true) (hdy : 0 ≤ dy ∧ dy ≤ 11) (hn : inR kk 0 (c.divs.length - 1) = true) (hd : lat c.divs kk = d) (hw : 0 ≤ w ∧ w ≤ 255)
    (hs : s = (refH c t dy).map (·.tdiv 720)) (hv : v = (refH c t dy).map (·.tmod 720)) (ha : a = (refH c t d.record).map (·.tdiv 720)) (hb : b = (refH c t d.record).map (·.tmod 720)) (hp : p = paidM c t d) :
    lpS Try.prog G9 0 (CCode.at c9 [1,1,1,1,1,1,1,1,1,1,1,0,1,0,0]) [Fr.blk 0, Fr.seq (CCode.at c9 [1,1,1,1,1,1,1,1,1,1,1,1])] (retQ r9 fun v _ => VLe v (vb true)) (E9 w dy kk s v a b p c.held.length ++ [(27, vi 0)]) (HD c t d) := by
  have hbs := (fault_ok hf).1
  have h3 : 0 ≤ kk ∧ kk < (c.divs.length : Int) := by simp only [inR, decide_eq_true_eq] at hn; omega
  have hdo : okDv d = true := by rw [← hd]; exact divs_ok hf h3.1 h3.2
  have hdv := div_in hdo
  have ls : s.length = c.held.length := by rw [hs]; simp [refH]
  have lv : v.length = c.held.length := by rw [hv]; simp [refH]
  have la : a.length = c.held.length := by rw [ha]; simp [refH]
  have lb : b.length = c.held.length := by rw [hb]; simp [refH]
  have lp : p.length = c.held.length := by rw [hp]; exact paidM_len _ _ _
  refine lp_count X30_ok c.held.length (fun _ => True) (fun k => E9 w dy kk s v a b p c.held.length ++ [(27, vi k)]) (fun _ => HD c t d) rfl rfl trivial (fun k _ => ⟨rfl, rfl, rfl⟩) ?_
  intro k hk _ Q' hn1 he hr
  rw [b9]
  simp only [holds, Int.ofNat_eq_natCast, cI_I]
  refine ⟨fun e1 => ?_, fun e1 => ?_⟩
  · have hlt : k < c.held.length := by have := of_decide_eq_true e1; omega
    have f1 := fits_at hf ht hdy.1 hdy.2 hlt
    have f2 := fits_at hf ht (show 0 ≤ d.record by omega) hdv.2.2.1 hlt
    have f3 := heldF_in hf t dy k
    have f4 := heldF_in hf t d.record k
    have e2 : lat s (k : Nat) = heldF c t dy k / 720 := by rw [hs, lat_map _ (by simpa [refH] using hlt), ← Int.tdiv_eq_ediv_of_nonneg f1]; simp [refH, refK, lat, hlt]
    have e3 : lat v (k : Nat) = heldF c t dy k % 720 := by rw [hv, lat_map _ (by simpa [refH] using hlt), ← Int.tmod_eq_emod_of_nonneg f1]; simp [refH, refK, lat, hlt]
    have e4 : lat a (k : Nat) = heldF c t d.record k / 720 := by rw [ha, lat_map _ (by simpa [refH] using hlt), ← Int.tdiv_eq_ediv_of_nonneg f2]; simp [refH, refK, lat, hlt]
    have e5 : lat b (k : Nat) = heldF c t d.record k % 720 := by rw [hb, lat_map _ (by simpa [refH] using hlt), ← Int.tmod_eq_emod_of_nonneg f2]; simp [refH, refK, lat, hlt]
    have e6 : lat p (k : Nat) = d.pence * heldF c t d.record k := by rw [hp, paidM, lat_map _ (by simpa [refH] using hlt)]; simp [refH, refK, lat, hlt]
    have e7 : 720 * (heldF c t d.record k / 720) + heldF c t d.record k % 720 = heldF c t d.record k := by omega
    have hpn := pence_in hdv.2.2.2.1 hdv.2.2.2.2 (n := heldF c t d.record k) (by omega)
    have o1 : okEl [0] (enc eI s) 1 (k : Nat) := ok_I (by omega)
    have o2 : okEl [0] (enc eI v) 1 (k : Nat) := ok_I (by omega)
    have o3 : okEl [0] (enc eI a) 1 (k : Nat) := ok_I (by omega)
    have o4 : okEl [0] (enc eI b) 1 (k : Nat) := ok_I (by omega)
    have o5 : okEl [0] (enc eI p) 1 (k : Nat) := ok_I (by omega)
    have hn2 := hn1 [] hlt trivial
    rw [e2, e3, e4, e5, e6, e7]
    refine ⟨⟨by omega, by omega, o2⟩, fun h => ?_, fun _ => ⟨⟨by omega, by omega, o2⟩, fun h => ?_, fun _ => ⟨⟨by omega, by omega, o1⟩, fun h => ?_, fun _ => ⟨⟨by omega, by omega, o4⟩, fun h => ?_, fun _ => ⟨⟨by omega, by omega, o5⟩, ⟨by omega, by omega, o3⟩, ⟨by omega, by omega⟩, ⟨by omega, by omega, o4⟩, ⟨by omega, by omega⟩, ⟨by omega, by omega⟩, fun h => ?_, fun _ => ⟨⟨by omega, by omega⟩, hn2⟩⟩⟩⟩⟩⟩
    · have := of_decide_eq_true h; omega
    · have := of_decide_eq_true h; omega
    · have := of_decide_eq_true h; omega
    · have := of_decide_eq_true h; omega
    · simp at h
  · have hge : k = c.held.length := by have := of_decide_eq_false e1; omega
    subst hge
    refine he _ _ _ (ret_tree (R := fun v _ => VLe v (vb true)) X30_ok (doneP_ok rfl) (x9 w dy kk s v a b p _ c t d _ _) ?_)
    have hao := truth_ask hf ht
    obtain ⟨_, hdt, _⟩ := askE_ok hao
    obtain ⟨l1, l2⟩ := dated_len hdt
    have hsm : small c := by unfold small; omega
    have hu : t.sold.length ≤ 1000000 ∧ t.deliv.length ≤ 1000000 := by omega
    have e0 : sumE c t kk = 0 := by simp [sumE, hao, hn]
    have el : sumL rightsM c t kk = rightsM c t d := by simp [sumL, e0, hd]
    have hwr : IntKind.wrap .i64 w = w := wrap_i64 (by omega) (by omega)
    have hq := wd hw.1 (show w ≤ 65535 by omega) (n := 4) (by omega)
    have hin := map_in hf ht hdy.1 hdy.2
    rw [← hs, ← hv] at hin
    have hlaw := units_law hf ht hdy.1 hdy.2
    rw [← hs, ← hv] at hlaw
    have hb1 := sumK_in hin.1 s.length (Nat.le_refl _)
    have hb2 := sumK_in hin.2 v.length (Nat.le_refl _)
    have hi1 := hin.1
    have hi2 := hin.2
    have hl1 : s.length ≤ 1000 := by omega
    have hl2 : v.length ≤ 1000 := by omega
    have hS : sumK s s.length = sumI s := rfl
    have hV : sumK v v.length = sumI v := rfl
    rw [hS] at hb1
    rw [hV] at hb2
    rw [hwr]
    generalize hm : 1 + w.tmod 4 = m at *
    simp only [holds, Int.ofNat_eq_natCast, okL_I, dec_I, dCe, dC_enc, dUe, dU_enc, true_and, and_true, hsm, hu, hf, e0, el, hl1, hl2, hlaw, bne_self_eq_false, Bool.false_eq_true, false_imp_iff, true_imp_iff, beq_self_eq_true, decide_true, Bool.true_eq_false]
    refine ⟨⟨by omega, hi1⟩, ⟨by omega, by omega⟩, ⟨by omega, hi2⟩, ⟨by omega, by omega⟩, by omega, by omega, ⟨by omega, by omega⟩, fun h => ?_, fun h => ?_⟩
    · have hsp : c.splits = [] := by
        have : (c.splits.length : Int) = 0 := by simpa using h
        exact List.length_eq_zero_iff.1 (by omega)
      have hm : 1 ≤ 1 + w.tmod 4 ∧ 1 + w.tmod 4 ≤ 4 := by omega
      have hsm1 : small (c.split1 dy (1 + w.tmod 4)) := by
        have e : (c.split1 dy (1 + w.tmod 4)).splits.length = 1 := rfl
        refine ⟨hsm.1, hsm.2.1, hsm.2.2.1, by rw [e]; omega, hsm.2.2.2.2⟩
      have hf1 := fault_split1 (m := 1 + w.tmod 4) hf hdy hm
      have ht1 := truth_split1 (d := dy) hsp hm.1 t ht
      have hao1 := truth_ask hf1 ht1
      have e01 : sumE (c.split1 dy (1 + w.tmod 4)) t kk = 0 := by
        have hn2 : inR kk 0 ((c.split1 dy (1 + w.tmod 4)).divs.length - 1) = true := hn
        simp [sumE, hao1, hn2]
      have el1 : sumL rightsM (c.split1 dy (1 + w.tmod 4)) t kk = rightsM c t d := by
        have e3 : lat (c.split1 dy (1 + w.tmod 4)).divs kk = d := hd
        simp only [sumL, e01, if_true, e3]
        exact rights_split1 hsp hm.1 hf hdy hm.2 t d
      have ec := Cv_split1 c dy (1 + w.tmod 4)
      have ec2 : Cv (c.split1 dy (1 + w.tmod 4)) = V.agg [V.d (D.int .i64 (c.split1 dy (1 + w.tmod 4)).houses), V.d (D.sl false (c.split1 dy (1 + w.tmod 4)).held.length (enc eI (c.split1 dy (1 + w.tmod 4)).held)), V.d (D.sl false (c.split1 dy (1 + w.tmod 4)).trades.length (enc eT (c.split1 dy (1 + w.tmod 4)).trades)), V.d (D.sl false (c.split1 dy (1 + w.tmod 4)).divs.length (enc eV (c.split1 dy (1 + w.tmod 4)).divs)), V.d (D.sl false 1 (enc eS (c.split1 dy (1 + w.tmod 4)).splits)), V.d (D.sl false (c.split1 dy (1 + w.tmod 4)).closed.length (enc eR (c.split1 dy (1 + w.tmod 4)).closed))] := rfl
      simp only [dC_split1, dC_enc, hsm1, e01, el1, beq_self_eq_true, decide_true, Bool.true_eq_false, false_imp_iff, true_imp_iff, and_true, true_and]
      refine ⟨ec, ec2, ⟨by rw [rightsM_len]; omega, by rw [rightsM_len]; omega, by rw [rightsM_len]; omega, by rw [rightsM_len]; omega⟩, .refl _⟩
    · exact ⟨⟨by rw [rightsM_len]; omega, by rw [rightsM_len]; omega, by rw [rightsM_len]; omega, by rw [rightsM_len]; omega⟩, .refl _⟩
theorem y9 (hl ws : List Int) (m j o u : Int) (hw : isWords ws) (h0 : 0 ≤ m) (h1 : m ≤ 255) (h2 : 0 ≤ j) (h3 : j ≤ 255) (h4 : 0 ≤ o) (h5 : o ≤ 255) (h6 : 0 ≤ u) (h7 : u ≤ 255) : Yields Try.prog 9 [vsl eI hl, vsl eW ws, .d (.int .u8 m), .d (.int .u8 j), .d (.int .u8 o), .d (.int .u8 u)] (vb true) := by
  refine q9.yieldsP X30_ok rfl rfl rfl (w9 hl ws m j o u) ?_
  simp only [holds, Int.ofNat_eq_natCast, okL_I, dec_I, dec_W, true_and, hw, cI_V0, cI_V1, cI_V2]
  refine ⟨fun _ => .refl _, fun hb => ?_⟩
  have hb : begunB hl = true := by simpa using hb
  have hL : hl.length ≤ 140737488355328 := by have := begun_ok hb; omega
  have ho := dealt_ok hb hw h0 h1
  have hwr : IntKind.wrap .i64 j = j := wrap_i64 (by omega) (by omega)
  have hwo : IntKind.wrap .i64 o = o := wrap_i64 (by omega) (by omega)
  generalize hc : (dealt hl ws m).1 = c at *
  generalize ht : (dealt hl ws m).2 = t at *
  rw [hwr, hwo]
  have hz := word_in hw 0 (by omega)
  have z1 := wd hz.1 hz.2 (n := 16) (by omega)
  have z2 := wd z1.2.2.2.1 z1.2.2.2.2 (n := 3) (by omega)
  have hdl : 0 < c.divs.length := by rw [ho.divs, divK_len, divN]; omega
  have hq := wd h2 (show j ≤ 65535 by omega) (n := c.divs.length) (by omega)
  have hr := wd h4 (show o ≤ 65535 by omega) (n := 12) (by omega)
  generalize hkk : j.tmod c.divs.length = kk at *
  generalize hdy : o.tmod 12 = dy at *
  have hf := ho.fault
  have hbs := (fault_ok hf).1
  have hao := truth_ask hf ho.truth
  obtain ⟨_, hdt, _⟩ := askE_ok hao
  obtain ⟨l1, l2⟩ := dated_len hdt
  have hsm : small c := by unfold small; omega
  have hu : t.sold.length ≤ 1000000 ∧ t.deliv.length ≤ 1000000 := by omega
  have hn : inR kk 0 (c.divs.length - 1) = true := by simp only [inR, decide_eq_true_eq]; omega
  have hdo : okDv (lat c.divs kk) = true := divs_ok hf hq.1 (by omega)
  have hdv := div_in hdo
  have e0 : sumE c t kk = 0 := by simp [sumE, hao, hn]
  have el : sumL paidM c t kk = paidM c t (lat c.divs kk) := by simp [sumL, e0]
  have i1 : isDay dy = true := by simp only [isDay, inR, Rng.has, decide_eq_true_eq]; omega
  have i2 : isDay (lat c.divs kk).record = true := by simp only [isDay, inR, Rng.has, decide_eq_true_eq]; omega
  have e1 : wholeE c t dy = 0 := by simp [wholeE, hao, i1]
  have e2 : wholeE c t (lat c.divs kk).record = 0 := by simp [wholeE, hao, i2]
  have hh : hl.length = c.held.length := by rw [← ho.held]
  have hl9 := l9 u dy kk c t (lat c.divs kk) (wholeS c t dy) (wholeU c t dy) (wholeS c t (lat c.divs kk).record) (wholeU c t (lat c.divs kk).record) (paidM c t (lat c.divs kk)) hf ho.truth (by omega) hn rfl ⟨h6, h7⟩ (by simp [wholeS, e1]) (by simp [wholeU, e1]) (by simp [wholeS, e2]) (by simp [wholeU, e2]) rfl
  have n1 : (wholeS c t dy).length = c.held.length := by simp [wholeS, e1, refH]
  have n2 : (wholeU c t dy).length = c.held.length := by simp [wholeU, e1, refH]
  have n3 : (wholeS c t (lat c.divs kk).record).length = c.held.length := by simp [wholeS, e2, refH]
  have n4 : (wholeU c t (lat c.divs kk).record).length = c.held.length := by simp [wholeU, e2, refH]
  simp only [dCe, dC_enc, dUe, dU_enc, true_and, and_true, hsm, hu, e0, e1, e2, el, hh, n1, n2, n3, n4, paidM_len, bne_self_eq_false, Bool.false_eq_true, false_imp_iff, true_imp_iff]
  simp only [E9, vsl, dsl, List.cons_append, List.nil_append, n1, n2, n3, n4, paidM_len] at hl9
  refine ⟨⟨by omega, hb, h0, h1⟩, by omega, by omega, ⟨by omega, by omega, ok_V (by omega)⟩, hl9⟩
end
end Go.Proofs.Ytdnefcjbcieecaa
namespace Go.Proofs.Ytdnefcjbcieecaa
open Go Go.ChangeShapes Go.WideShapes Go.ChangeAt Go.RowKit
def flatFs (g : TypeId → Option (List IntKind)) (cell : TypeId → Nat) : List Field → Nat → Option (List IntKind)
  | [], _ => some []
  | f :: fs, off => if f.offset = off then match g f.type, flatFs g cell fs (off + cell f.type) with
      | some a, some b => if a.length = cell f.type then some (a ++ b) else none
      | _, _ => none
    else none
def flatOf (P : Program) : Nat → TypeId → Option (List IntKind)
  | 0, _ => none
  | m + 1, T => match P.underlying T with
    | some (.int k) => some [k]
    | some (.struct fs) => match flatFs (flatOf P m) P.cellsOf fs.toList 0 with
      | some ks => if ks.length = P.cellsOf T then some ks else none
      | none => none
    | _ => none
section
variable {H : Type} {enc : TypeId × Value → H} {P : Program} {w : World} {base : Nat} {spare : Nat → Bool} {held : Bool}
def IntsIn (ks : List IntKind) (cs : List Value) (ns : List Int) : Prop :=
  ns.length = ks.length ∧ cs = List.zipWith Value.int ks ns ∧ ∀ (j : Nat) k n, ks[j]? = some k → ns[j]? = some n → (Lit.int k n).wf = true
theorem IntsIn.append {k1 k2 : List IntKind} {c1 c2 : List Value} {n1 n2 : List Int} (h1 : IntsIn k1 c1 n1) (h2 : IntsIn k2 c2 n2) : IntsIn (k1 ++ k2) (c1 ++ c2) (n1 ++ n2) := by
  obtain ⟨a1, b1, d1⟩ := h1
  obtain ⟨a2, b2, d2⟩ := h2
  refine ⟨by simp [a1, a2], by rw [b1, b2, List.zipWith_append a1.symm], fun j k n hk hn => ?_⟩
  by_cases hj : j < k1.length
  · rw [List.getElem?_append_left hj] at hk
    rw [List.getElem?_append_left (by omega)] at hn
    exact d1 j k n hk hn
  · rw [List.getElem?_append_right (by omega)] at hk
    rw [List.getElem?_append_right (by omega)] at hn
    rw [a1] at hn
    exact d2 _ k n hk hn
theorem flat_sound : ∀ (m : Nat) (T : TypeId) (ks : List IntKind), flatOf P m T = some ks → ∀ (fuel : Nat) (cs : List Value) (x : DataW H × List MemPlace), DataW.trod enc P w base spare held fuel T cs = some x → ∃ ns, IntsIn ks cs ns
  | 0, _, _, h => by cases h
  | m + 1, T, ks, h => by
    intro fuel cs x hx
    unfold flatOf at h
    split at h
    · rename_i k hu
      cases h
      obtain ⟨n, rfl, _, hw⟩ := DataW.trod_int hu hx
      exact ⟨[n], rfl, rfl, fun j k' n' hk hn => by
        cases j with
        | zero => cases hk; cases hn; exact hw
        | succ j => simp at hk⟩
    · rename_i fs hu
      split at h
      · rename_i ks' hks
        split at h
        · rename_i hlen
          cases h
          obtain ⟨xs, n, _, _, hcl, hxl, hf⟩ := DataW.trod_struct hu hx
          have key : ∀ (fl : List Field) (off i0 : Nat) (ks : List IntKind), (∀ (j : Nat) f, fl[j]? = some f → fs[i0 + j]? = some f) → fl.length + i0 = fs.size → flatFs (flatOf P m) P.cellsOf fl off = some ks → off + ks.length = cs.length → ∃ ns, IntsIn ks (cs.drop off) ns := by
            intro fl
            induction fl with
            | nil =>
              intro off i0 ks hg hl hk ho
              cases hk
              exact ⟨[], rfl, List.drop_eq_nil_of_le (by simp at ho; omega), fun j k n h => by simp at h⟩
            | cons f fl ih =>
              intro off i0 ks hg hl hk ho
              unfold flatFs at hk
              split at hk
              · rename_i hoff
                split at hk
                · rename_i a b ha hb
                  split at hk
                  · rename_i hal
                    cases hk
                    have hfi := hg 0 f rfl
                    have h1 := hf i0 f (by simpa using hfi)
                    have hlt : i0 < xs.length := by rw [hxl]; simp at hl; omega
                    rw [List.getElem?_eq_getElem hlt, hoff] at h1
                    obtain ⟨n1, hn1⟩ := flat_sound m f.type a ha n _ _ h1
                    obtain ⟨n2, hn2⟩ := ih (off + P.cellsOf f.type) (i0 + 1) b (fun j g hj => by have := hg (j + 1) g hj; rwa [show i0 + (j + 1) = i0 + 1 + j by omega] at this) (by simp at hl ⊢; omega) hb (by simp at ho; omega)
                    refine ⟨n1 ++ n2, ?_⟩
                    have e : cs.drop off = (cs.drop off).take (P.cellsOf f.type) ++ cs.drop (off + P.cellsOf f.type) := by rw [← List.drop_drop, List.take_append_drop]
                    rw [e]
                    exact hn1.append hn2
                  · cases hk
                · cases hk
              · cases hk
          obtain ⟨ns, hns⟩ := key fs.toList 0 0 ks (fun j f hj => by simpa using hj) (by simp) hks (by rw [hcl, hlen]; simp)
          exact ⟨ns, by simpa using hns⟩
        · cases h
      · cases h
    · cases h
def memOf (P : Program) (w : World) : Mem := { ro := fun b o => w.cell? ⟨b, o, none⟩, mu := fun _ => none, df := fun _ => False, cc := ccP P }
theorem sim_memOf (P : Program) (w : World) : Sim (memOf P w) [] w :=
  ⟨fun i blk h => by simp at h, fun i j bi bj ri rj b h => by simp at h, fun b o v h => ⟨h, fun ⟨i, _, _, h, _⟩ => by simp at h⟩, fun _ _ => rfl, fun _ h => h.elim⟩
def rowD (ks : List IntKind) (ns : List Int) : List D := List.zipWith D.int ks ns
theorem rowD_len {ks : List IntKind} {cs : List Value} {ns : List Int} (h : IntsIn ks cs ns) : (rowD ks ns).length = ks.length := by simp [rowD, h.1]
theorem slice_sound {T e : TypeId} {ks : List IntKind} {m : Nat} (hT : P.underlying T = some (.slice e)) (he : flatOf P m e = some ks) (hsz : P.cellsOf e = ks.length) (hpos : 0 < ks.length) {fuel : Nat} {cs : List Value} {x : DataW H × List MemPlace}
    (hx : DataW.trod enc P w base spare held fuel T cs = some x) :
    ∃ (rows : List (List Int)) (v : Value), cs = [v] ∧ RepD (memOf P w).ro (.sl false rows.length (rows.flatMap (rowD ks))) v ∧ rows.length ≤ maxLen ∧ ∀ r ∈ rows, r.length = ks.length ∧ ∀ (j : Nat) k n, ks[j]? = some k → r[j]? = some n → (Lit.int k n).wf = true := by
  rcases Go.Deep.open_slice hT hx with ⟨rfl, _⟩ | ⟨a, len, cap, q, n, Df, Pl, rfl, _, hle, hm, hq, _, hel⟩
  · refine ⟨[], _, rfl, ?_, Nat.zero_le _, fun r hr => by simp at hr⟩
    have := VLe.sl (n := 0) (cs := []) (memOf P w) _ (.d _ _ (rep_nil _))
    cases this with
    | d x v h => exact h
  · have hlq : len ≤ q := by rw [hq]; split <;> omega
    have hrow : ∀ i, i < len → ∃ ns, (∀ (j : Nat), j < ks.length → w.cell? ((a.add (i * ks.length)).add j) = (List.zipWith Value.int ks ns)[j]?) ∧ IntsIn ks (List.zipWith Value.int ks ns) ns := fun i hi => by
      obtain ⟨cs', h1, h2⟩ := hel i (by omega)
      obtain ⟨ns, hns⟩ := flat_sound m e ks he n cs' _ h2
      rw [hsz] at h1
      obtain ⟨_, hl, hc⟩ := World.cells?_some h1
      obtain ⟨h3, h4, h5⟩ := hns
      exact ⟨ns, fun j hj => by rw [← h4]; exact hc j hj, h3, rfl, h5⟩
    obtain ⟨f, hf⟩ : ∃ f : Nat → List Int, ∀ i, i < len → (∀ (j : Nat), j < ks.length → w.cell? ((a.add (i * ks.length)).add j) = (List.zipWith Value.int ks (f i))[j]?) ∧ IntsIn ks (List.zipWith Value.int ks (f i)) (f i) :=
      ⟨fun i => if h : i < len then Classical.choose (hrow i h) else [], fun i hi => by simp only [dif_pos hi]; exact Classical.choose_spec (hrow i hi)⟩
    have hrl : ∀ r ∈ (List.range len).map f, (rowD ks r).length = ks.length := fun r hr => by
      obtain ⟨i, hi, rfl⟩ := List.mem_map.1 hr
      exact rowD_len (hf i (List.mem_range.1 hi)).2
    have hget : ∀ (i j : Nat), i < len → j < ks.length → (((List.range len).map f).flatMap (rowD ks))[i * ks.length + j]? = (rowD ks (f i))[j]? := by
      have gen : ∀ (l : List (List Int)), (∀ r ∈ l, (rowD ks r).length = ks.length) → ∀ (i j : Nat), j < ks.length → (l.flatMap (rowD ks))[i * ks.length + j]? = (l[i]?).bind fun r => (rowD ks r)[j]? := by
        intro l
        induction l with
        | nil => intro _ i j _; simp
        | cons r l ih =>
          intro hl i j hj
          have h0 := hl r (by simp)
          cases i with
          | zero => rw [List.flatMap_cons, List.getElem?_append_left (by omega)]; simp
          | succ i =>
            rw [List.flatMap_cons, List.getElem?_append_right (by rw [h0, Nat.add_mul]; omega), h0]
            have : (i + 1) * ks.length + j - ks.length = i * ks.length + j := by rw [Nat.add_mul]; omega
            rw [this, ih (fun r hr => hl r (by simp [hr])) i j hj]
            rfl
      intro i j hi hj
      rw [gen _ hrl i j hj]
      simp [hi]
    have hlen : (((List.range len).map f).flatMap (rowD ks)).length = len * ks.length := by
      have gen : ∀ (l : List (List Int)), (∀ r ∈ l, (rowD ks r).length = ks.length) → (l.flatMap (rowD ks)).length = l.length * ks.length := by
        intro l
        induction l with
        | nil => intro _; simp
        | cons r l ih =>
          intro hl
          rw [List.flatMap_cons, List.length_append, hl r (by simp), ih (fun r hr => hl r (by simp [hr])), List.length_cons, Nat.add_mul]
          omega
      rw [gen _ hrl]; simp
    have hwf : ∀ r ∈ (List.range len).map f, r.length = ks.length ∧ ∀ (j : Nat) k n, ks[j]? = some k → r[j]? = some n → (Lit.int k n).wf = true := fun r hr => by
      obtain ⟨i, hi, rfl⟩ := List.mem_map.1 hr
      exact ⟨(hf i (List.mem_range.1 hi)).2.1, (hf i (List.mem_range.1 hi)).2.2.2⟩
    refine ⟨(List.range len).map f, _, rfl, ?_, by simp; omega, hwf⟩
    have hl2 : ((List.range len).map f).length = len := by simp
    rw [hl2]
    rcases Nat.eq_zero_or_pos len with h0 | h0
    · subst h0
      exact .sl false 0 cap _ (some a) 0 0 (fun _ => undef) hle hm (fun e => by cases e) (.inl (by simp)) (fun k hk => by simp at hk) (fun k c hc => by simp at hc)
    · -- the address is plain
      have hspot : a = ⟨a.block, a.off, none⟩ := by
        have h1 := (hf 0 h0).1 0 hpos
        have h2 := (hf 0 h0).2.1
        have h3 : (a.add (0 * ks.length)).add 0 = a := by simp [Addr.add]
        rw [h3] at h1
        have h4 : (List.zipWith Value.int ks (f 0))[0]? ≠ none := by
          intro e
          rw [List.getElem?_eq_none_iff, List.length_zipWith, h2, Nat.min_self] at e
          omega
        cases hs : a.spot with
        | none => cases a; simp_all
        | some s =>
          exfalso
          apply h4
          rw [← h1]
          unfold World.cell?
          split
          · simp [hs]
          · rfl
      have hadd : ∀ i j : Nat, (a.add (i * ks.length)).add j = ⟨a.block, a.off + (i * ks.length + j), none⟩ := fun i j => by
        rw [hspot]
        by_cases hi : i * ks.length = 0
        · by_cases hj : j = 0
          · simp [Addr.add, hi, hj]
          · simp [Addr.add, hi, hj]
        · by_cases hj : j = 0
          · simp [Addr.add, hi, hj]
          · simp [Addr.add, hi, hj]; omega
      have hsplit : ∀ k, k < len * ks.length → ∃ i j, i < len ∧ j < ks.length ∧ k = i * ks.length + j := fun k hk =>
        ⟨k / ks.length, k % ks.length, (Nat.div_lt_iff_lt_mul hpos).2 hk, Nat.mod_lt _ hpos, by rw [Nat.mul_comm]; exact (Nat.div_add_mod k ks.length).symm⟩
      refine .sl false len cap _ (some a) a.block a.off (fun k => (w.cell? ⟨a.block, a.off + k, none⟩).getD undef) hle hm (fun e => by cases e) (.inr (congrArg some hspot)) (fun k hk => ?_) (fun k c hc => ?_)
      · rw [hlen] at hk
        obtain ⟨i, j, hi, hj, rfl⟩ := hsplit k hk
        have h1 := (hf i hi).1 j hj
        rw [hadd] at h1
        show w.cell? _ = _
        rw [h1]
        have h2 := (hf i hi).2.1
        rw [List.getElem?_eq_getElem (by simp [h2]; omega)]
        rfl
      · have hk : k < len * ks.length := by rw [← hlen]; exact (List.getElem?_eq_some_iff.1 hc).1
        obtain ⟨i, j, hi, hj, rfl⟩ := hsplit k hk
        rw [hget i j hi hj] at hc
        have h1 := (hf i hi).1 j hj
        rw [hadd] at h1
        rw [h1]
        have h2 := (hf i hi).2.1
        have hk' : ks[j]? = some ks[j] := List.getElem?_eq_getElem hj
        have hn' : (f i)[j]? = some ((f i)[j]'(by omega)) := List.getElem?_eq_getElem (by omega)
        simp only [rowD, List.getElem?_zipWith, hk', hn', Option.map_some, Option.bind_some, Option.some.injEq] at hc ⊢
        subst hc
        exact .int _ _
end
theorem rows1 {rows : List (List Int)} (h : ∀ r ∈ rows, r.length = 1) : ∃ l : List Int, l.length = rows.length ∧ rows.flatMap (rowD [.i64]) = Go.Proofs.Ytdnefcjbcieecaa.enc eI l := by
  induction rows with
  | nil => exact ⟨[], rfl, rfl⟩
  | cons r rows ih =>
    obtain ⟨l, h1, h2⟩ := ih fun r hr => h r (by simp [hr])
    match r, h r (by simp) with
    | [a], _ => exact ⟨a :: l, by simp [h1], by rw [List.flatMap_cons, h2]; rfl⟩
theorem trodAll_old {H : Type} {enc : TypeId × Value → H} {P : Program} {W W' : World} {T : TypeId → Prop} (K : Kids P T) (hz : ∀ t e, T t → P.underlying t = some (.slice e) → 0 < P.cellsOf e) {ts : List TypeId} (hT : ∀ t ∈ ts, T t)
    {vs : List Value} {ds : List (DataW H)} {ps : List MemPlace} (h : DataW.TrodAll enc P W 0 (fun _ => true) true ts vs ds ps) (hold : ∀ b, b < W.heap.size → W'.heap[b]? = W.heap[b]?) :
    DataW.TrodAll enc P W' 0 (fun b => decide (b < W.heap.size)) true ts vs ds ps := by
  have hlt := h.lt
  have h2 := h.respare (spare' := fun b => decide (b < W.heap.size)) K hz hT (fun p hp => decide_eq_true (hlt p hp))
  have hsame : ∀ p ∈ ps, W.sameAt W' p := fun p hp => by
    have := hold _ (hlt p hp)
    cases p with
    | cell b off =>
      have this : W'.heap[b]? = W.heap[b]? := this
      show W'.cell? _ = W.cell? _
      unfold World.cell?
      rw [this]
    | map b => exact this
  clear h hlt
  revert vs ds ps
  induction ts with
  | nil => intro vs ds ps h _; cases vs <;> cases ds <;> first | exact h | exact h.elim
  | cons t ts ih =>
    intro vs ds ps h hs
    cases vs with
    | nil => exact h.elim
    | cons v vs => cases ds with
      | nil => exact h.elim
      | cons d ds =>
        obtain ⟨p, q, ⟨n, h1⟩, h2, rfl⟩ := h
        exact ⟨p, q, ⟨n, DataW.trod_carry n _ _ _ h1 fun x hx => hs x (List.mem_append_left _ hx)⟩, ih (fun t ht => hT t (by simp [ht])) h2 (fun x hx => hs x (List.mem_append_right _ hx)), rfl⟩
theorem calls_true {P : Program} {g : Nat} {vs : List V} {b : Bool} (hy : Yields P g vs (vb b)) (w : World) {args : List Value} (hr : RepL (memOf P w) vs args) :
    Calls P g args.toArray w fun e w' => e = .returned (.bool b) ∧ w'.os = w.os ∧ w'.tape = w.tape ∧ w'.output = w.output ∧ w.heap.size ≤ w'.heap.size ∧ ∀ b, b < w.heap.size → w'.heap[b]? = w.heap[b]? := by
  refine ((hy []).2 (memOf P w) w args rfl (sim_memOf P w) hr).mono ?_
  rintro e w' ⟨cv, v, h2, M', rfl, hp, hv, rfl, rfl⟩
  have hv : RepV M' (.d (.bool b)) cv := hv
  exact ⟨by rw [hv.boolI], hp.os, hp.tape, hp.output, hp.size, fun b hb => hp.keep b hb (fun ⟨i, blk, r, hi, _⟩ => by simp at hi)⟩
end Go.Proofs.Ytdnefcjbcieecaa
namespace Go.Proofs.Ytdnefcjbcieecaa
open Go Go.ChangeShapes Go.WideShapes Go.ChangeAt Go.RowKit
def fieldAt (P : Program) (T : TypeId) (i : Nat) : Option (TypeId × Nat × Nat) := match P.underlying T with
  | some (.struct fs) => (fs[i]?).map fun f => (f.type, f.offset, P.cellsOf f.type)
  | _ => none
def isSlice (P : Program) (T e : TypeId) : Bool := match P.underlying T with
  | some (.slice t) => t == e
  | _ => false
noncomputable def isIntT (P : Program) (T : TypeId) : Nat := match P.underlying T with
  | some (.int k) => kn k + 1
  | _ => 0
theorem isSlice_eq {P : Program} {T e : TypeId} (h : isSlice P T e = true) : P.underlying T = some (.slice e) := by
  unfold isSlice at h
  split at h
  · rename_i hu; rw [hu, eq_of_beq h]
  · cases h
theorem isIntT_eq {P : Program} {T : TypeId} {k : IntKind} (h : isIntT P T = kn k + 1) : P.underlying T = some (.int k) := by
  unfold isIntT at h
  split at h
  · rename_i k' hu
    rw [hu]
    have h2 : kn k' = kn k := by omega
    have h3 : k' = k := kn_inj (by rw [h2]; exact Nat.beq_refl _)
    rw [h3]
  · omega
section
variable {H : Type} {enc : TypeId × Value → H} {w : World} {spare : Nat → Bool} {held : Bool}
theorem int_sound {P : Program} {T : TypeId} {k : IntKind} {fuel : Nat} {cs : List Value} {x : DataW H × List MemPlace} (hT : isIntT P T = kn k + 1) (hx : DataW.trod enc P w 0 spare held fuel T cs = some x) :
    ∃ n, cs = [.int k n] ∧ (Lit.int k n).wf = true := by
  obtain ⟨n, h1, _, h2⟩ := DataW.trod_int (isIntT_eq hT) hx
  exact ⟨n, h1, h2⟩
theorem listI_sound {fuel : Nat} {cs : List Value} {x : DataW H × List MemPlace} (hx : DataW.trod enc Try.prog w 0 spare held fuel 22 cs = some x) :
    ∃ (l : List Int) (v : Value), cs = [v] ∧ RepD (memOf Try.prog w).ro (dsl eI l) v ∧ l.length ≤ maxLen := by
  obtain ⟨rows, v, h1, h2, h3, h4⟩ := slice_sound (ks := [.i64]) (m := 3) (isSlice_eq (e := 3) (by kernel_rfl)) (by kernel_rfl) (by kernel_rfl) (by decide) hx
  obtain ⟨l, hl, he⟩ := rows1 fun r hr => (h4 r hr).1
  exact ⟨l, v, h1, by unfold dsl; rw [hl, ← he]; exact h2, by omega⟩
end
theorem keptBut_of_old {w w' : World} {may : MemPlace → Prop} (h1 : w'.os = w.os) (h2 : w'.output = w.output) (h3 : ∀ b, b < w.heap.size → w'.heap[b]? = w.heap[b]?) : w.keptBut w' may := by
  refine ⟨h1, h2, fun i hi => ?_⟩
  rw [h3 i hi]
  split
  · rename_i c t fr c' t' fr' e1 e2
    rw [e1] at e2; cases e2
    exact ⟨rfl, rfl, rfl, fun _ _ => rfl⟩
  · rename_i es k es' k' e1 e2
    rw [e1] at e2; cases e2
    exact .inr ⟨rfl, rfl⟩
  · rfl
theorem ownsNothing : ownKnob Try.prog.godebug = none := by kernel_rfl
theorem try_laid : laidOutB Try.prog = true := by kernel_rfl
theorem repL_nil (M : Mem) : RepL M [] [] := ⟨rfl, fun k v c h => by simp at h⟩
theorem repL_cons {M : Mem} {v : V} {c : Value} {vs : List V} {cs : List Value} (h : RepV M v c) (hs : RepL M vs cs) : RepL M (v :: vs) (c :: cs) := by
  refine ⟨by simp [hs.1], fun k a b ha hb => ?_⟩
  cases k with
  | zero => cases ha; cases hb; exact h
  | succ k => exact hs.2 k a b (by simpa using ha) (by simpa using hb)
theorem try_kids : Kids Try.prog (· < Try.prog.types.size) := kids_rows try_laid (by kernel_rfl)
theorem try_full : ∀ t e, t < Try.prog.types.size → Try.prog.underlying t = some (.slice e) → 0 < Try.prog.cellsOf e := slices_full_of Try.prog (by kernel_rfl)
theorem it5 : isIntT Try.prog 5 = kn .u8 + 1 := by kernel_rfl
theorem is22 : isSlice Try.prog 22 3 = true := by kernel_rfl
section
variable {H : Type} {enc : TypeId × Value → H} {W : World} {base : Nat}
set_option maxRecDepth 100000 in
theorem arg_u8 {v : Value} {d : DataW H} {p : List MemPlace} (hok : Value.okWide Try.prog W .any base 5 v) (ht : DataW.Trod enc Try.prog W 0 (fun _ => true) true 5 v d p) : ∃ n : Int, RepV (memOf Try.prog W) (.d (.int .u8 n)) v ∧ 0 ≤ n ∧ n ≤ 255 := by
  obtain ⟨n, rfl⟩ := okWide_int (isIntT_eq it5) hok
  obtain ⟨fuel, hx⟩ := ht
  obtain ⟨m, h1, h2⟩ := int_sound it5 hx
  cases h1
  exact ⟨n, .d _ _ (.int _ _), bounds_u8 h2⟩
set_option maxRecDepth 100000 in
theorem arg_ints {v : Value} {d : DataW H} {p : List MemPlace} (hok : Value.okWide Try.prog W .any base 22 v) (ht : DataW.Trod enc Try.prog W 0 (fun _ => true) true 22 v d p) : ∃ l : List Int, RepV (memOf Try.prog W) (vsl eI l) v ∧ l.length ≤ maxLen := by
  obtain ⟨a, len, cap, rfl⟩ := okWide_slice (isSlice_eq is22) hok
  obtain ⟨fuel, hx⟩ := ht
  obtain ⟨l, v, h1, h2, h3⟩ := listI_sound hx
  cases h1
  exact ⟨l, .d _ _ h2, h3⟩
end
end Go.Proofs.Ytdnefcjbcieecaa
namespace Go.Proofs.Ytdnefcjbcieecaa
open Go Go.ChangeShapes Go.WideShapes Go.ChangeAt Go.RowKit
theorem bounds_u16 {n : Int} (h : (Lit.int .u16 n).wf = true) : 0 ≤ n ∧ n ≤ 65535 := by
  simp [Lit.wf, IntKind.min, IntKind.max, IntKind.signed, IntKind.bits] at h
  omega
theorem rows1W {rows : List (List Int)} (h : ∀ r ∈ rows, r.length = 1 ∧ ∀ (j : Nat) k n, ([IntKind.u16] : List IntKind)[j]? = some k → r[j]? = some n → (Lit.int k n).wf = true) : ∃ l : List Int, l.length = rows.length ∧ rows.flatMap (rowD [.u16]) = Go.Proofs.Ytdnefcjbcieecaa.enc eW l ∧ ∀ w ∈ l, 0 ≤ w ∧ w ≤ 65535 := by
  induction rows with
  | nil => exact ⟨[], rfl, rfl, fun w hw => by simp at hw⟩
  | cons r rows ih =>
    obtain ⟨l, h1, h2, h3⟩ := ih fun r hr => h r (by simp [hr])
    have hr := h r (by simp)
    match r, hr.1, hr.2 with
    | [a], _, hw =>
      refine ⟨a :: l, by simp [h1], by rw [List.flatMap_cons, h2]; rfl, fun w hm => ?_⟩
      rcases List.mem_cons.1 hm with rfl | hm
      · exact bounds_u16 (hw 0 .u16 _ rfl rfl)
      · exact h3 w hm
section
variable {H : Type} {enc : TypeId × Value → H} {w : World} {spare : Nat → Bool} {held : Bool}
theorem listW_sound {fuel : Nat} {cs : List Value} {x : DataW H × List MemPlace} (hx : DataW.trod enc Try.prog w 0 spare held fuel 66 cs = some x) :
    ∃ (l : List Int) (v : Value), cs = [v] ∧ RepD (memOf Try.prog w).ro (dsl eW l) v ∧ isWords l := by
  obtain ⟨rows, v, h1, h2, h3, h4⟩ := slice_sound (ks := [.u16]) (m := 3) (isSlice_eq (e := 144) (by kernel_rfl)) (by kernel_rfl) (by kernel_rfl) (by decide) hx
  obtain ⟨l, hl, he, hb⟩ := rows1W h4
  exact ⟨l, v, h1, by unfold dsl; rw [hl, ← he]; exact h2, Nat.zero_le _, hb⟩
end
theorem is66 : isSlice Try.prog 66 144 = true := by kernel_rfl
section
variable {H : Type} {enc : TypeId × Value → H} {W : World} {base : Nat}
set_option maxRecDepth 100000 in
theorem arg_words {v : Value} {d : DataW H} {p : List MemPlace} (hok : Value.okWide Try.prog W .any base 66 v) (ht : DataW.Trod enc Try.prog W 0 (fun _ => true) true 66 v d p) : ∃ l : List Int, RepV (memOf Try.prog W) (vsl eW l) v ∧ isWords l := by
  obtain ⟨a, len, cap, rfl⟩ := okWide_slice (isSlice_eq is66) hok
  obtain ⟨fuel, hx⟩ := ht
  obtain ⟨l, v, h1, h2, h3⟩ := listW_sound hx
  cases h1
  exact ⟨l, .d _ _ h2, h3⟩
end
end Go.Proofs.Ytdnefcjbcieecaa
