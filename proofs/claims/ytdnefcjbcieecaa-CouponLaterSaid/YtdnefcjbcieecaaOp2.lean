/- slices.IndexFunc and slices.ContainsFunc. -/
import Derived.Test.YtdnefcjbcieecaaOp1
import Derived.Test.YtdnefcjbcieecaaCode4
set_option linter.unusedVariables false
set_option linter.unusedSimpArgs false
namespace Go.Proofs.Ytdnefcjbcieecaa
open Go Go.Proofs
noncomputable section
def XB (t : Nat) : Sx := { sp := spNil, md := fun k => bif Nat.beq k t then 1 else 0, sh := shI }
theorem XB_ok (t : Nat) : SpOk Try.prog (XB t).sp := spNil_ok _
def XI (t : Nat) : Sx := { sp := spNil, md := fun k => bif Nat.beq k t then 2 else 0, sh := shI }
theorem XI_ok (t : Nat) : SpOk Try.prog (XI t).sp := spNil_ok _
theorem q114 : FunIs Try.prog 114 G114 c114 r114 := ⟨Try.f114, Try.func114, k114, e114, by kernel_rfl, by kernel_rfl⟩
theorem q115 : FunIs Try.prog 115 G115 c115 r115 := ⟨Try.f115, Try.func115, k115, e115, by kernel_rfl, by kernel_rfl⟩
theorem q116 : FunIs Try.prog 116 G116 c116 r116 := ⟨Try.f116, Try.func116, k116, e116, by kernel_rfl, by kernel_rfl⟩
theorem q117 : FunIs Try.prog 117 G117 c117 r117 := ⟨Try.f117, Try.func117, k117, e117, by kernel_rfl, by kernel_rfl⟩
theorem q120 : FunIs Try.prog 120 G120 c120 r120 := ⟨Try.f120, Try.func120, k120, e120, by kernel_rfl, by kernel_rfl⟩
theorem q98 : FunIs Try.prog 98 G98 c98 r98 := ⟨Try.f98, Try.func98, k98, e98, by kernel_rfl, by kernel_rfl⟩
theorem q102 : FunIs Try.prog 102 G102 c102 r102 := ⟨Try.f102, Try.func102, k102, e102, by kernel_rfl, by kernel_rfl⟩
theorem q104 : FunIs Try.prog 104 G104 c104 r104 := ⟨Try.f104, Try.func104, k104, e104, by kernel_rfl, by kernel_rfl⟩
theorem q106 : FunIs Try.prog 106 G106 c106 r106 := ⟨Try.f106, Try.func106, k106, e106, by kernel_rfl, by kernel_rfl⟩
theorem q118 : FunIs Try.prog 118 G118 c118 r118 := ⟨Try.f118, Try.func118, k118, e118, by kernel_rfl, by kernel_rfl⟩
/-- How a search ends: the first number at which p holds, and what the heap is behind it. -/
def Found (N : Nat) (p : Nat → Bool) (H : Nat → Heap) (yes : Nat → V) (no : V) (v : V) (h' : Heap) : Prop :=
  ∃ m, m ≤ N ∧ (∀ j, j < m → p j = false) ∧ ((m = N ∧ v = no ∧ h' = H m) ∨ (m < N ∧ p m = true ∧ v = yes m ∧ h' = H (m + 1)))

theorem w115 (l : List Int) (g : Nat) (a c : List V) (h : Heap) : sx (XB 16) c115 [] (doneK r115) (envOf [vsl eI l, .fn (.func g) a c]) [] h =
    Tr.lp (CCode.at c115 [(1 : Nat), (0 : Nat), (1 : Nat), (0 : Nat), (0 : Nat)]) [Fr.blk (0), Fr.seq (CCode.at c115 [(1 : Nat), (1 : Nat)])] [(0, V.d (D.sl false (List.length l) (enc eI l))), (1, V.fn (Fn.func g) a c), (7, V.d (D.int IntKind.i64 (Int.ofNat (List.length l)))), (8, V.d (D.int IntKind.i64 (0 : Int)))] h := by kernel_rfl

def E115 (l : List Int) (g : Nat) (a c : List V) (k : Nat) : Env := [(0, vsl eI l), (1, .fn (.func g) a c), (7, vi l.length), (8, vi k)]
def S115 : List Fr := [Fr.blk 0, Fr.seq (CCode.at c115 [1, 1])]
theorem b115 (l : List Int) (g : Nat) (a c : List V) (h : Heap) (k : Nat) : sx (XB 16) (CCode.at c115 [1,0,1,0,0]) [] leafK (E115 l g a c k) [] h =
    Tr.br (decide (Int.ofNat k < Int.ofNat (List.length l))) (Tr.need ((0 : Int) ≤ Int.ofNat k ∧ Int.ofNat k < Int.ofNat (List.length l) ∧ okEl [0] (enc eI l) (1 : Nat) (Int.ofNat k)) (Tr.clB false (V.fn (Fn.func g) a c) [V.d (D.int IntKind.i64 (cI (enc eI l) (1 : Nat) (Int.ofNat k) (0 : Nat)))] h fun b h' => Tr.br b (Tr.leaf CExit.ret [(4, V.d (D.int IntKind.i64 (Int.ofNat k)))] h') (Tr.need ((-9223372036854775808 : Int) ≤ Int.ofNat k + (1 : Int) ∧ Int.ofNat k + (1 : Int) ≤ (9223372036854775807 : Int)) (Tr.leaf CExit.normal [(0, V.d (D.sl false (List.length l) (enc eI l))), (1, V.fn (Fn.func g) a c), (7, V.d (D.int IntKind.i64 (Int.ofNat (List.length l)))), (8, V.d (D.int IntKind.i64 (Int.ofNat k + (1 : Int))))] h')))) (Tr.leaf (CExit.exit (0)) [(0, V.d (D.sl false (List.length l) (enc eI l))), (1, V.fn (Fn.func g) a c), (7, V.d (D.int IntKind.i64 (Int.ofNat (List.length l)))), (8, V.d (D.int IntKind.i64 (Int.ofNat k))), (9, V.d (D.bool (decide (Int.ofNat k < Int.ofNat (List.length l)))))] h) := by kernel_rfl

theorem x115 (env : Env) (h : Heap) : sS (XB 16) (doneK r115) S115 (.exit 0) env [] h =
    Tr.done (V.d (D.int IntKind.i64 (-1 : Int))) h := by kernel_rfl

theorem t115 (k : Int) (h : Heap) : sS (XB 16) (doneK r115) S115 .ret [(4, .d (.int .i64 k))] [] h =
    Tr.done (V.d (D.int IntKind.i64 k)) h := by kernel_rfl

theorem i115 (l : List Int) (g : Nat) (a c : List V) (H : Nat → Heap) (p : Nat → Bool) (hl : l.length ≤ 140737488355328) (hH : ∀ k, (H k).length = (H 0).length ∧ (H k).all (blkBel (H 0).length) = true)
    (hb : bel2 (H 0).length (.fn (.func g) a c) = true) (hf : ∀ k : Nat, k < l.length → (∀ j, j < k → p j = false) → callV Try.prog (.fn (.func g) a c) [vi (lat l k)] (H k) fun v h' => v = vb (p k) ∧ h' = H (k + 1)) :
    ACalls Try.prog 115 [vsl eI l, .fn (.func g) a c] (H 0) (Found l.length p H (fun m => vi m) (vi (-1))) := by
  refine q115.calls (XB_ok 16) (h := H 0) rfl (w115 l g a c (H 0)) ?_
  simp only [holds]
  refine lp_count (XB_ok 16) l.length (fun k => ∀ j, j < k → p j = false) (E115 l g a c) H rfl rfl (fun j hj => by omega) (fun k _ => ⟨(hH k).1, ?_, (hH k).2⟩) ?_
  · show (true && (_ && (true && (true && true)))) = true
    simpa using hb
  intro k hk hA Q' hn he hr
  rw [b115]
  simp only [holds]
  refine ⟨fun h1 => ?_, fun h1 => ?_⟩
  · have hlt : k < l.length := by have := of_decide_eq_true h1; simp only [Int.ofNat_eq_natCast] at this; omega
    refine ⟨⟨by simp, by simpa using hlt, ok_I (by simpa using hlt)⟩, ?_⟩
    have := hf k hlt hA
    simp only [Int.ofNat_eq_natCast, cI_I]
    refine callV_holds ?_ this
    rintro v h' ⟨rfl, rfl⟩
    refine ⟨p k, rfl, fun e => (by cases e), fun hp => ?_, fun hp => ?_⟩
    · refine hr _ _ (ret_tree (XB_ok 16) (doneK_ok rfl) (t115 (k : Int) (H (k + 1))) ?_)
      simp only [holds]
      exact ⟨k, hk, hA, .inr ⟨hlt, hp, rfl, rfl⟩⟩
    · refine ⟨⟨by omega, by omega⟩, ?_⟩
      have := hn [] hlt (fun j hj => by
        rcases Nat.lt_or_ge j k with h | h
        · exact hA j h
        · have : j = k := by omega
          rw [this]; exact hp)
      rw [List.append_nil] at this
      exact this
  · have hge : k = l.length := by have := of_decide_eq_false h1; simp only [Int.ofNat_eq_natCast] at this; omega
    refine he _ _ _ (ret_tree (XB_ok 16) (doneK_ok rfl) (x115 _ (H k)) ?_)
    simp only [holds]
    exact ⟨k, hk, hA, .inl ⟨hge, rfl, rfl⟩⟩
theorem w102 (l : List Int) (g : Nat) (a c : List V) (h : Heap) : sx (XI 7) c102 [] (doneK r102) (envOf [vsl eI l, .fn (.func g) a c]) [] h =
    Tr.clI false (V.d (D.fn (Fn.func (115)))) [V.d (D.sl false (List.length l) (enc eI l)), V.fn (Fn.func g) a c] h fun b h' => Tr.done (V.d (D.bool (decide ((0 : Int) ≤ b)))) h' := by kernel_rfl

theorem i102 (l : List Int) (g : Nat) (a c : List V) (H : Nat → Heap) (p : Nat → Bool) (hl : l.length ≤ 140737488355328) (hH : ∀ k, (H k).length = (H 0).length ∧ (H k).all (blkBel (H 0).length) = true)
    (hb : bel2 (H 0).length (.fn (.func g) a c) = true) (hf : ∀ k : Nat, k < l.length → (∀ j, j < k → p j = false) → callV Try.prog (.fn (.func g) a c) [vi (lat l k)] (H k) fun v h' => v = vb (p k) ∧ h' = H (k + 1)) :
    ACalls Try.prog 102 [vsl eI l, .fn (.func g) a c] (H 0) (Found l.length p H (fun _ => vb true) (vb false)) := by
  refine q102.calls (XI_ok 7) (h := H 0) rfl (w102 l g a c (H 0)) ?_
  simp only [holds]
  refine callV_holds ?_ (i115 l g a c H p hl hH hb hf)
  rintro v h' ⟨m, hm, hA, ⟨h1, rfl, rfl⟩ | ⟨h1, h2, rfl, rfl⟩⟩
  · exact ⟨_, rfl, fun e => (by cases e), m, hm, hA, .inl ⟨h1, rfl, rfl⟩⟩
  · refine ⟨_, rfl, fun e => (by cases e), m, hm, hA, .inr ⟨h1, h2, ?_, rfl⟩⟩
    have : decide ((0 : Int) ≤ (m : Int)) = true := by simp
    exact congrArg (fun b => V.d (.bool b)) this

theorem w114 (l : List Rng) (g : Nat) (a c : List V) (h : Heap) : sx (XB 16) c114 [] (doneK r114) (envOf [vsl eR l, .fn (.func g) a c]) [] h =
    Tr.lp (CCode.at c114 [(1 : Nat), (0 : Nat), (1 : Nat), (0 : Nat), (0 : Nat)]) [Fr.blk (0), Fr.seq (CCode.at c114 [(1 : Nat), (1 : Nat)])] [(0, V.d (D.sl false (List.length l) (enc eR l))), (1, V.fn (Fn.func g) a c), (7, V.d (D.int IntKind.i64 (Int.ofNat (List.length l)))), (8, V.d (D.int IntKind.i64 (0 : Int)))] h := by kernel_rfl

def E114 (l : List Rng) (g : Nat) (a c : List V) (k : Nat) : Env := [(0, vsl eR l), (1, .fn (.func g) a c), (7, vi l.length), (8, vi k)]
def S114 : List Fr := [Fr.blk 0, Fr.seq (CCode.at c114 [1, 1])]
theorem b114 (l : List Rng) (g : Nat) (a c : List V) (h : Heap) (k : Nat) : sx (XB 16) (CCode.at c114 [1,0,1,0,0]) [] leafK (E114 l g a c k) [] h =
    Tr.br (decide (Int.ofNat k < Int.ofNat (List.length l))) (Tr.need ((0 : Int) ≤ Int.ofNat k ∧ Int.ofNat k < Int.ofNat (List.length l) ∧ okEl [0, 0] (enc eR l) (2 : Nat) (Int.ofNat k)) (Tr.clB false (V.fn (Fn.func g) a c) [V.agg [V.d (D.int IntKind.i64 (cI (enc eR l) (2 : Nat) (Int.ofNat k) (0 : Nat))), V.d (D.int IntKind.i64 (cI (enc eR l) (2 : Nat) (Int.ofNat k) (1)))]] h fun b h' => Tr.br b (Tr.leaf CExit.ret [(4, V.d (D.int IntKind.i64 (Int.ofNat k)))] h') (Tr.need ((-9223372036854775808 : Int) ≤ Int.ofNat k + (1 : Int) ∧ Int.ofNat k + (1 : Int) ≤ (9223372036854775807 : Int)) (Tr.leaf CExit.normal [(0, V.d (D.sl false (List.length l) (enc eR l))), (1, V.fn (Fn.func g) a c), (7, V.d (D.int IntKind.i64 (Int.ofNat (List.length l)))), (8, V.d (D.int IntKind.i64 (Int.ofNat k + (1 : Int))))] h')))) (Tr.leaf (CExit.exit (0)) [(0, V.d (D.sl false (List.length l) (enc eR l))), (1, V.fn (Fn.func g) a c), (7, V.d (D.int IntKind.i64 (Int.ofNat (List.length l)))), (8, V.d (D.int IntKind.i64 (Int.ofNat k))), (9, V.d (D.bool (decide (Int.ofNat k < Int.ofNat (List.length l)))))] h) := by kernel_rfl

theorem x114 (env : Env) (h : Heap) : sS (XB 16) (doneK r114) S114 (.exit 0) env [] h =
    Tr.done (V.d (D.int IntKind.i64 (-1 : Int))) h := by kernel_rfl

theorem t114 (k : Int) (h : Heap) : sS (XB 16) (doneK r114) S114 .ret [(4, .d (.int .i64 k))] [] h =
    Tr.done (V.d (D.int IntKind.i64 k)) h := by kernel_rfl

theorem i114 (l : List Rng) (g : Nat) (a c : List V) (H : Nat → Heap) (p : Nat → Bool) (hl : l.length ≤ 140737488355328) (hH : ∀ k, (H k).length = (H 0).length ∧ (H k).all (blkBel (H 0).length) = true)
    (hb : bel2 (H 0).length (.fn (.func g) a c) = true) (hf : ∀ k : Nat, k < l.length → (∀ j, j < k → p j = false) → callV Try.prog (.fn (.func g) a c) [Rv (lat l k)] (H k) fun v h' => v = vb (p k) ∧ h' = H (k + 1)) :
    ACalls Try.prog 114 [vsl eR l, .fn (.func g) a c] (H 0) (Found l.length p H (fun m => vi m) (vi (-1))) := by
  refine q114.calls (XB_ok 16) (h := H 0) rfl (w114 l g a c (H 0)) ?_
  simp only [holds]
  refine lp_count (XB_ok 16) l.length (fun k => ∀ j, j < k → p j = false) (E114 l g a c) H rfl rfl (fun j hj => by omega) (fun k _ => ⟨(hH k).1, ?_, (hH k).2⟩) ?_
  · show (true && (_ && (true && (true && true)))) = true
    simpa using hb
  intro k hk hA Q' hn he hr
  rw [b114]
  simp only [holds]
  refine ⟨fun h1 => ?_, fun h1 => ?_⟩
  · have hlt : k < l.length := by have := of_decide_eq_true h1; simp only [Int.ofNat_eq_natCast] at this; omega
    refine ⟨⟨by simp, by simpa using hlt, ok_R (by simpa using hlt)⟩, ?_⟩
    have := hf k hlt hA
    simp only [Int.ofNat_eq_natCast, cI_R0, cI_R1]
    refine callV_holds ?_ this
    rintro v h' ⟨rfl, rfl⟩
    refine ⟨p k, rfl, fun e => (by cases e), fun hp => ?_, fun hp => ?_⟩
    · refine hr _ _ (ret_tree (XB_ok 16) (doneK_ok rfl) (t114 (k : Int) (H (k + 1))) ?_)
      simp only [holds]
      exact ⟨k, hk, hA, .inr ⟨hlt, hp, rfl, rfl⟩⟩
    · refine ⟨⟨by omega, by omega⟩, ?_⟩
      have := hn [] hlt (fun j hj => by
        rcases Nat.lt_or_ge j k with h | h
        · exact hA j h
        · have : j = k := by omega
          rw [this]; exact hp)
      rw [List.append_nil] at this
      exact this
  · have hge : k = l.length := by have := of_decide_eq_false h1; simp only [Int.ofNat_eq_natCast] at this; omega
    refine he _ _ _ (ret_tree (XB_ok 16) (doneK_ok rfl) (x114 _ (H k)) ?_)
    simp only [holds]
    exact ⟨k, hk, hA, .inl ⟨hge, rfl, rfl⟩⟩
theorem w98 (l : List Rng) (g : Nat) (a c : List V) (h : Heap) : sx (XI 7) c98 [] (doneK r98) (envOf [vsl eR l, .fn (.func g) a c]) [] h =
    Tr.clI false (V.d (D.fn (Fn.func (114)))) [V.d (D.sl false (List.length l) (enc eR l)), V.fn (Fn.func g) a c] h fun b h' => Tr.done (V.d (D.bool (decide ((0 : Int) ≤ b)))) h' := by kernel_rfl

theorem i98 (l : List Rng) (g : Nat) (a c : List V) (H : Nat → Heap) (p : Nat → Bool) (hl : l.length ≤ 140737488355328) (hH : ∀ k, (H k).length = (H 0).length ∧ (H k).all (blkBel (H 0).length) = true)
    (hb : bel2 (H 0).length (.fn (.func g) a c) = true) (hf : ∀ k : Nat, k < l.length → (∀ j, j < k → p j = false) → callV Try.prog (.fn (.func g) a c) [Rv (lat l k)] (H k) fun v h' => v = vb (p k) ∧ h' = H (k + 1)) :
    ACalls Try.prog 98 [vsl eR l, .fn (.func g) a c] (H 0) (Found l.length p H (fun _ => vb true) (vb false)) := by
  refine q98.calls (XI_ok 7) (h := H 0) rfl (w98 l g a c (H 0)) ?_
  simp only [holds]
  refine callV_holds ?_ (i114 l g a c H p hl hH hb hf)
  rintro v h' ⟨m, hm, hA, ⟨h1, rfl, rfl⟩ | ⟨h1, h2, rfl, rfl⟩⟩
  · exact ⟨_, rfl, fun e => (by cases e), m, hm, hA, .inl ⟨h1, rfl, rfl⟩⟩
  · refine ⟨_, rfl, fun e => (by cases e), m, hm, hA, .inr ⟨h1, h2, ?_, rfl⟩⟩
    have : decide ((0 : Int) ≤ (m : Int)) = true := by simp
    exact congrArg (fun b => V.d (.bool b)) this

theorem w116 (l : List Trd) (g : Nat) (a c : List V) (h : Heap) : sx (XB 16) c116 [] (doneK r116) (envOf [vsl eT l, .fn (.func g) a c]) [] h =
    Tr.lp (CCode.at c116 [(1 : Nat), (0 : Nat), (1 : Nat), (0 : Nat), (0 : Nat)]) [Fr.blk (0), Fr.seq (CCode.at c116 [(1 : Nat), (1 : Nat)])] [(0, V.d (D.sl false (List.length l) (enc eT l))), (1, V.fn (Fn.func g) a c), (7, V.d (D.int IntKind.i64 (Int.ofNat (List.length l)))), (8, V.d (D.int IntKind.i64 (0 : Int)))] h := by kernel_rfl

def E116 (l : List Trd) (g : Nat) (a c : List V) (k : Nat) : Env := [(0, vsl eT l), (1, .fn (.func g) a c), (7, vi l.length), (8, vi k)]
def S116 : List Fr := [Fr.blk 0, Fr.seq (CCode.at c116 [1, 1])]
theorem b116 (l : List Trd) (g : Nat) (a c : List V) (h : Heap) (k : Nat) : sx (XB 16) (CCode.at c116 [1,0,1,0,0]) [] leafK (E116 l g a c k) [] h =
    Tr.br (decide (Int.ofNat k < Int.ofNat (List.length l))) (Tr.need ((0 : Int) ≤ Int.ofNat k ∧ Int.ofNat k < Int.ofNat (List.length l) ∧ okEl [0, 0, 0, 0, 0, 0, 0] (enc eT l) (7 : Nat) (Int.ofNat k)) (Tr.clB false (V.fn (Fn.func g) a c) [V.agg [V.d (D.int IntKind.i64 (cI (enc eT l) (7 : Nat) (Int.ofNat k) (0 : Nat))), V.d (D.int IntKind.i64 (cI (enc eT l) (7 : Nat) (Int.ofNat k) (1))), V.d (D.int IntKind.i64 (cI (enc eT l) (7 : Nat) (Int.ofNat k) (2))), V.d (D.int IntKind.i64 (cI (enc eT l) (7 : Nat) (Int.ofNat k) (3))), V.d (D.int IntKind.i64 (cI (enc eT l) (7 : Nat) (Int.ofNat k) (4))), V.d (D.int IntKind.i64 (cI (enc eT l) (7 : Nat) (Int.ofNat k) (5))), V.d (D.int IntKind.i64 (cI (enc eT l) (7 : Nat) (Int.ofNat k) (6)))]] h fun b h' => Tr.br b (Tr.leaf CExit.ret [(4, V.d (D.int IntKind.i64 (Int.ofNat k)))] h') (Tr.need ((-9223372036854775808 : Int) ≤ Int.ofNat k + (1 : Int) ∧ Int.ofNat k + (1 : Int) ≤ (9223372036854775807 : Int)) (Tr.leaf CExit.normal [(0, V.d (D.sl false (List.length l) (enc eT l))), (1, V.fn (Fn.func g) a c), (7, V.d (D.int IntKind.i64 (Int.ofNat (List.length l)))), (8, V.d (D.int IntKind.i64 (Int.ofNat k + (1 : Int))))] h')))) (Tr.leaf (CExit.exit (0)) [(0, V.d (D.sl false (List.length l) (enc eT l))), (1, V.fn (Fn.func g) a c), (7, V.d (D.int IntKind.i64 (Int.ofNat (List.length l)))), (8, V.d (D.int IntKind.i64 (Int.ofNat k))), (9, V.d (D.bool (decide (Int.ofNat k < Int.ofNat (List.length l)))))] h) := by kernel_rfl

theorem x116 (env : Env) (h : Heap) : sS (XB 16) (doneK r116) S116 (.exit 0) env [] h =
    Tr.done (V.d (D.int IntKind.i64 (-1 : Int))) h := by kernel_rfl

theorem t116 (k : Int) (h : Heap) : sS (XB 16) (doneK r116) S116 .ret [(4, .d (.int .i64 k))] [] h =
    Tr.done (V.d (D.int IntKind.i64 k)) h := by kernel_rfl

theorem i116 (l : List Trd) (g : Nat) (a c : List V) (H : Nat → Heap) (p : Nat → Bool) (hl : l.length ≤ 140737488355328) (hH : ∀ k, (H k).length = (H 0).length ∧ (H k).all (blkBel (H 0).length) = true)
    (hb : bel2 (H 0).length (.fn (.func g) a c) = true) (hf : ∀ k : Nat, k < l.length → (∀ j, j < k → p j = false) → callV Try.prog (.fn (.func g) a c) [Tv (lat l k)] (H k) fun v h' => v = vb (p k) ∧ h' = H (k + 1)) :
    ACalls Try.prog 116 [vsl eT l, .fn (.func g) a c] (H 0) (Found l.length p H (fun m => vi m) (vi (-1))) := by
  refine q116.calls (XB_ok 16) (h := H 0) rfl (w116 l g a c (H 0)) ?_
  simp only [holds]
  refine lp_count (XB_ok 16) l.length (fun k => ∀ j, j < k → p j = false) (E116 l g a c) H rfl rfl (fun j hj => by omega) (fun k _ => ⟨(hH k).1, ?_, (hH k).2⟩) ?_
  · show (true && (_ && (true && (true && true)))) = true
    simpa using hb
  intro k hk hA Q' hn he hr
  rw [b116]
  simp only [holds]
  refine ⟨fun h1 => ?_, fun h1 => ?_⟩
  · have hlt : k < l.length := by have := of_decide_eq_true h1; simp only [Int.ofNat_eq_natCast] at this; omega
    refine ⟨⟨by simp, by simpa using hlt, ok_T (by simpa using hlt)⟩, ?_⟩
    have := hf k hlt hA
    simp only [Int.ofNat_eq_natCast, cI_T0, cI_T1, cI_T2, cI_T3, cI_T4, cI_T5, cI_T6]
    refine callV_holds ?_ this
    rintro v h' ⟨rfl, rfl⟩
    refine ⟨p k, rfl, fun e => (by cases e), fun hp => ?_, fun hp => ?_⟩
    · refine hr _ _ (ret_tree (XB_ok 16) (doneK_ok rfl) (t116 (k : Int) (H (k + 1))) ?_)
      simp only [holds]
      exact ⟨k, hk, hA, .inr ⟨hlt, hp, rfl, rfl⟩⟩
    · refine ⟨⟨by omega, by omega⟩, ?_⟩
      have := hn [] hlt (fun j hj => by
        rcases Nat.lt_or_ge j k with h | h
        · exact hA j h
        · have : j = k := by omega
          rw [this]; exact hp)
      rw [List.append_nil] at this
      exact this
  · have hge : k = l.length := by have := of_decide_eq_false h1; simp only [Int.ofNat_eq_natCast] at this; omega
    refine he _ _ _ (ret_tree (XB_ok 16) (doneK_ok rfl) (x116 _ (H k)) ?_)
    simp only [holds]
    exact ⟨k, hk, hA, .inl ⟨hge, rfl, rfl⟩⟩
theorem w104 (l : List Trd) (g : Nat) (a c : List V) (h : Heap) : sx (XI 7) c104 [] (doneK r104) (envOf [vsl eT l, .fn (.func g) a c]) [] h =
    Tr.clI false (V.d (D.fn (Fn.func (116)))) [V.d (D.sl false (List.length l) (enc eT l)), V.fn (Fn.func g) a c] h fun b h' => Tr.done (V.d (D.bool (decide ((0 : Int) ≤ b)))) h' := by kernel_rfl

theorem i104 (l : List Trd) (g : Nat) (a c : List V) (H : Nat → Heap) (p : Nat → Bool) (hl : l.length ≤ 140737488355328) (hH : ∀ k, (H k).length = (H 0).length ∧ (H k).all (blkBel (H 0).length) = true)
    (hb : bel2 (H 0).length (.fn (.func g) a c) = true) (hf : ∀ k : Nat, k < l.length → (∀ j, j < k → p j = false) → callV Try.prog (.fn (.func g) a c) [Tv (lat l k)] (H k) fun v h' => v = vb (p k) ∧ h' = H (k + 1)) :
    ACalls Try.prog 104 [vsl eT l, .fn (.func g) a c] (H 0) (Found l.length p H (fun _ => vb true) (vb false)) := by
  refine q104.calls (XI_ok 7) (h := H 0) rfl (w104 l g a c (H 0)) ?_
  simp only [holds]
  refine callV_holds ?_ (i116 l g a c H p hl hH hb hf)
  rintro v h' ⟨m, hm, hA, ⟨h1, rfl, rfl⟩ | ⟨h1, h2, rfl, rfl⟩⟩
  · exact ⟨_, rfl, fun e => (by cases e), m, hm, hA, .inl ⟨h1, rfl, rfl⟩⟩
  · refine ⟨_, rfl, fun e => (by cases e), m, hm, hA, .inr ⟨h1, h2, ?_, rfl⟩⟩
    have : decide ((0 : Int) ≤ (m : Int)) = true := by simp
    exact congrArg (fun b => V.d (.bool b)) this

theorem w117 (l : List Dvd) (g : Nat) (a c : List V) (h : Heap) : sx (XB 16) c117 [] (doneK r117) (envOf [vsl eV l, .fn (.func g) a c]) [] h =
    Tr.lp (CCode.at c117 [(1 : Nat), (0 : Nat), (1 : Nat), (0 : Nat), (0 : Nat)]) [Fr.blk (0), Fr.seq (CCode.at c117 [(1 : Nat), (1 : Nat)])] [(0, V.d (D.sl false (List.length l) (enc eV l))), (1, V.fn (Fn.func g) a c), (7, V.d (D.int IntKind.i64 (Int.ofNat (List.length l)))), (8, V.d (D.int IntKind.i64 (0 : Int)))] h := by kernel_rfl

def E117 (l : List Dvd) (g : Nat) (a c : List V) (k : Nat) : Env := [(0, vsl eV l), (1, .fn (.func g) a c), (7, vi l.length), (8, vi k)]
def S117 : List Fr := [Fr.blk 0, Fr.seq (CCode.at c117 [1, 1])]
theorem b117 (l : List Dvd) (g : Nat) (a c : List V) (h : Heap) (k : Nat) : sx (XB 16) (CCode.at c117 [1,0,1,0,0]) [] leafK (E117 l g a c k) [] h =
    Tr.br (decide (Int.ofNat k < Int.ofNat (List.length l))) (Tr.need ((0 : Int) ≤ Int.ofNat k ∧ Int.ofNat k < Int.ofNat (List.length l) ∧ okEl [0, 0, 0] (enc eV l) (3 : Nat) (Int.ofNat k)) (Tr.clB false (V.fn (Fn.func g) a c) [V.agg [V.d (D.int IntKind.i64 (cI (enc eV l) (3 : Nat) (Int.ofNat k) (0 : Nat))), V.d (D.int IntKind.i64 (cI (enc eV l) (3 : Nat) (Int.ofNat k) (1))), V.d (D.int IntKind.i64 (cI (enc eV l) (3 : Nat) (Int.ofNat k) (2)))]] h fun b h' => Tr.br b (Tr.leaf CExit.ret [(4, V.d (D.int IntKind.i64 (Int.ofNat k)))] h') (Tr.need ((-9223372036854775808 : Int) ≤ Int.ofNat k + (1 : Int) ∧ Int.ofNat k + (1 : Int) ≤ (9223372036854775807 : Int)) (Tr.leaf CExit.normal [(0, V.d (D.sl false (List.length l) (enc eV l))), (1, V.fn (Fn.func g) a c), (7, V.d (D.int IntKind.i64 (Int.ofNat (List.length l)))), (8, V.d (D.int IntKind.i64 (Int.ofNat k + (1 : Int))))] h')))) (Tr.leaf (CExit.exit (0)) [(0, V.d (D.sl false (List.length l) (enc eV l))), (1, V.fn (Fn.func g) a c), (7, V.d (D.int IntKind.i64 (Int.ofNat (List.length l)))), (8, V.d (D.int IntKind.i64 (Int.ofNat k))), (9, V.d (D.bool (decide (Int.ofNat k < Int.ofNat (List.length l)))))] h) := by kernel_rfl

theorem x117 (env : Env) (h : Heap) : sS (XB 16) (doneK r117) S117 (.exit 0) env [] h =
    Tr.done (V.d (D.int IntKind.i64 (-1 : Int))) h := by kernel_rfl

theorem t117 (k : Int) (h : Heap) : sS (XB 16) (doneK r117) S117 .ret [(4, .d (.int .i64 k))] [] h =
    Tr.done (V.d (D.int IntKind.i64 k)) h := by kernel_rfl

theorem i117 (l : List Dvd) (g : Nat) (a c : List V) (H : Nat → Heap) (p : Nat → Bool) (hl : l.length ≤ 140737488355328) (hH : ∀ k, (H k).length = (H 0).length ∧ (H k).all (blkBel (H 0).length) = true)
    (hb : bel2 (H 0).length (.fn (.func g) a c) = true) (hf : ∀ k : Nat, k < l.length → (∀ j, j < k → p j = false) → callV Try.prog (.fn (.func g) a c) [Dv (lat l k)] (H k) fun v h' => v = vb (p k) ∧ h' = H (k + 1)) :
    ACalls Try.prog 117 [vsl eV l, .fn (.func g) a c] (H 0) (Found l.length p H (fun m => vi m) (vi (-1))) := by
  refine q117.calls (XB_ok 16) (h := H 0) rfl (w117 l g a c (H 0)) ?_
  simp only [holds]
  refine lp_count (XB_ok 16) l.length (fun k => ∀ j, j < k → p j = false) (E117 l g a c) H rfl rfl (fun j hj => by omega) (fun k _ => ⟨(hH k).1, ?_, (hH k).2⟩) ?_
  · show (true && (_ && (true && (true && true)))) = true
    simpa using hb
  intro k hk hA Q' hn he hr
  rw [b117]
  simp only [holds]
  refine ⟨fun h1 => ?_, fun h1 => ?_⟩
  · have hlt : k < l.length := by have := of_decide_eq_true h1; simp only [Int.ofNat_eq_natCast] at this; omega
    refine ⟨⟨by simp, by simpa using hlt, ok_V (by simpa using hlt)⟩, ?_⟩
    have := hf k hlt hA
    simp only [Int.ofNat_eq_natCast, cI_V0, cI_V1, cI_V2]
    refine callV_holds ?_ this
    rintro v h' ⟨rfl, rfl⟩
    refine ⟨p k, rfl, fun e => (by cases e), fun hp => ?_, fun hp => ?_⟩
    · refine hr _ _ (ret_tree (XB_ok 16) (doneK_ok rfl) (t117 (k : Int) (H (k + 1))) ?_)
      simp only [holds]
      exact ⟨k, hk, hA, .inr ⟨hlt, hp, rfl, rfl⟩⟩
    · refine ⟨⟨by omega, by omega⟩, ?_⟩
      have := hn [] hlt (fun j hj => by
        rcases Nat.lt_or_ge j k with h | h
        · exact hA j h
        · have : j = k := by omega
          rw [this]; exact hp)
      rw [List.append_nil] at this
      exact this
  · have hge : k = l.length := by have := of_decide_eq_false h1; simp only [Int.ofNat_eq_natCast] at this; omega
    refine he _ _ _ (ret_tree (XB_ok 16) (doneK_ok rfl) (x117 _ (H k)) ?_)
    simp only [holds]
    exact ⟨k, hk, hA, .inl ⟨hge, rfl, rfl⟩⟩
theorem w106 (l : List Dvd) (g : Nat) (a c : List V) (h : Heap) : sx (XI 7) c106 [] (doneK r106) (envOf [vsl eV l, .fn (.func g) a c]) [] h =
    Tr.clI false (V.d (D.fn (Fn.func (117)))) [V.d (D.sl false (List.length l) (enc eV l)), V.fn (Fn.func g) a c] h fun b h' => Tr.done (V.d (D.bool (decide ((0 : Int) ≤ b)))) h' := by kernel_rfl

theorem i106 (l : List Dvd) (g : Nat) (a c : List V) (H : Nat → Heap) (p : Nat → Bool) (hl : l.length ≤ 140737488355328) (hH : ∀ k, (H k).length = (H 0).length ∧ (H k).all (blkBel (H 0).length) = true)
    (hb : bel2 (H 0).length (.fn (.func g) a c) = true) (hf : ∀ k : Nat, k < l.length → (∀ j, j < k → p j = false) → callV Try.prog (.fn (.func g) a c) [Dv (lat l k)] (H k) fun v h' => v = vb (p k) ∧ h' = H (k + 1)) :
    ACalls Try.prog 106 [vsl eV l, .fn (.func g) a c] (H 0) (Found l.length p H (fun _ => vb true) (vb false)) := by
  refine q106.calls (XI_ok 7) (h := H 0) rfl (w106 l g a c (H 0)) ?_
  simp only [holds]
  refine callV_holds ?_ (i117 l g a c H p hl hH hb hf)
  rintro v h' ⟨m, hm, hA, ⟨h1, rfl, rfl⟩ | ⟨h1, h2, rfl, rfl⟩⟩
  · exact ⟨_, rfl, fun e => (by cases e), m, hm, hA, .inl ⟨h1, rfl, rfl⟩⟩
  · refine ⟨_, rfl, fun e => (by cases e), m, hm, hA, .inr ⟨h1, h2, ?_, rfl⟩⟩
    have : decide ((0 : Int) ≤ (m : Int)) = true := by simp
    exact congrArg (fun b => V.d (.bool b)) this

theorem w120 (l : List Spl) (g : Nat) (a c : List V) (h : Heap) : sx (XB 16) c120 [] (doneK r120) (envOf [vsl eS l, .fn (.func g) a c]) [] h =
    Tr.lp (CCode.at c120 [(1 : Nat), (0 : Nat), (1 : Nat), (0 : Nat), (0 : Nat)]) [Fr.blk (0), Fr.seq (CCode.at c120 [(1 : Nat), (1 : Nat)])] [(0, V.d (D.sl false (List.length l) (enc eS l))), (1, V.fn (Fn.func g) a c), (7, V.d (D.int IntKind.i64 (Int.ofNat (List.length l)))), (8, V.d (D.int IntKind.i64 (0 : Int)))] h := by kernel_rfl

def E120 (l : List Spl) (g : Nat) (a c : List V) (k : Nat) : Env := [(0, vsl eS l), (1, .fn (.func g) a c), (7, vi l.length), (8, vi k)]
def S120 : List Fr := [Fr.blk 0, Fr.seq (CCode.at c120 [1, 1])]
theorem b120 (l : List Spl) (g : Nat) (a c : List V) (h : Heap) (k : Nat) : sx (XB 16) (CCode.at c120 [1,0,1,0,0]) [] leafK (E120 l g a c k) [] h =
    Tr.br (decide (Int.ofNat k < Int.ofNat (List.length l))) (Tr.need ((0 : Int) ≤ Int.ofNat k ∧ Int.ofNat k < Int.ofNat (List.length l) ∧ okEl [0, 0, 0] (enc eS l) (3 : Nat) (Int.ofNat k)) (Tr.clB false (V.fn (Fn.func g) a c) [V.agg [V.d (D.int IntKind.i64 (cI (enc eS l) (3 : Nat) (Int.ofNat k) (0 : Nat))), V.d (D.int IntKind.i64 (cI (enc eS l) (3 : Nat) (Int.ofNat k) (1))), V.d (D.int IntKind.i64 (cI (enc eS l) (3 : Nat) (Int.ofNat k) (2)))]] h fun b h' => Tr.br b (Tr.leaf CExit.ret [(4, V.d (D.int IntKind.i64 (Int.ofNat k)))] h') (Tr.need ((-9223372036854775808 : Int) ≤ Int.ofNat k + (1 : Int) ∧ Int.ofNat k + (1 : Int) ≤ (9223372036854775807 : Int)) (Tr.leaf CExit.normal [(0, V.d (D.sl false (List.length l) (enc eS l))), (1, V.fn (Fn.func g) a c), (7, V.d (D.int IntKind.i64 (Int.ofNat (List.length l)))), (8, V.d (D.int IntKind.i64 (Int.ofNat k + (1 : Int))))] h')))) (Tr.leaf (CExit.exit (0)) [(0, V.d (D.sl false (List.length l) (enc eS l))), (1, V.fn (Fn.func g) a c), (7, V.d (D.int IntKind.i64 (Int.ofNat (List.length l)))), (8, V.d (D.int IntKind.i64 (Int.ofNat k))), (9, V.d (D.bool (decide (Int.ofNat k < Int.ofNat (List.length l)))))] h) := by kernel_rfl

theorem x120 (env : Env) (h : Heap) : sS (XB 16) (doneK r120) S120 (.exit 0) env [] h =
    Tr.done (V.d (D.int IntKind.i64 (-1 : Int))) h := by kernel_rfl

theorem t120 (k : Int) (h : Heap) : sS (XB 16) (doneK r120) S120 .ret [(4, .d (.int .i64 k))] [] h =
    Tr.done (V.d (D.int IntKind.i64 k)) h := by kernel_rfl

theorem i120 (l : List Spl) (g : Nat) (a c : List V) (H : Nat → Heap) (p : Nat → Bool) (hl : l.length ≤ 140737488355328) (hH : ∀ k, (H k).length = (H 0).length ∧ (H k).all (blkBel (H 0).length) = true)
    (hb : bel2 (H 0).length (.fn (.func g) a c) = true) (hf : ∀ k : Nat, k < l.length → (∀ j, j < k → p j = false) → callV Try.prog (.fn (.func g) a c) [Sv (lat l k)] (H k) fun v h' => v = vb (p k) ∧ h' = H (k + 1)) :
    ACalls Try.prog 120 [vsl eS l, .fn (.func g) a c] (H 0) (Found l.length p H (fun m => vi m) (vi (-1))) := by
  refine q120.calls (XB_ok 16) (h := H 0) rfl (w120 l g a c (H 0)) ?_
  simp only [holds]
  refine lp_count (XB_ok 16) l.length (fun k => ∀ j, j < k → p j = false) (E120 l g a c) H rfl rfl (fun j hj => by omega) (fun k _ => ⟨(hH k).1, ?_, (hH k).2⟩) ?_
  · show (true && (_ && (true && (true && true)))) = true
    simpa using hb
  intro k hk hA Q' hn he hr
  rw [b120]
  simp only [holds]
  refine ⟨fun h1 => ?_, fun h1 => ?_⟩
  · have hlt : k < l.length := by have := of_decide_eq_true h1; simp only [Int.ofNat_eq_natCast] at this; omega
    refine ⟨⟨by simp, by simpa using hlt, ok_S (by simpa using hlt)⟩, ?_⟩
    have := hf k hlt hA
    simp only [Int.ofNat_eq_natCast, cI_S0, cI_S1, cI_S2]
    refine callV_holds ?_ this
    rintro v h' ⟨rfl, rfl⟩
    refine ⟨p k, rfl, fun e => (by cases e), fun hp => ?_, fun hp => ?_⟩
    · refine hr _ _ (ret_tree (XB_ok 16) (doneK_ok rfl) (t120 (k : Int) (H (k + 1))) ?_)
      simp only [holds]
      exact ⟨k, hk, hA, .inr ⟨hlt, hp, rfl, rfl⟩⟩
    · refine ⟨⟨by omega, by omega⟩, ?_⟩
      have := hn [] hlt (fun j hj => by
        rcases Nat.lt_or_ge j k with h | h
        · exact hA j h
        · have : j = k := by omega
          rw [this]; exact hp)
      rw [List.append_nil] at this
      exact this
  · have hge : k = l.length := by have := of_decide_eq_false h1; simp only [Int.ofNat_eq_natCast] at this; omega
    refine he _ _ _ (ret_tree (XB_ok 16) (doneK_ok rfl) (x120 _ (H k)) ?_)
    simp only [holds]
    exact ⟨k, hk, hA, .inl ⟨hge, rfl, rfl⟩⟩
theorem w118 (l : List Spl) (g : Nat) (a c : List V) (h : Heap) : sx (XI 7) c118 [] (doneK r118) (envOf [vsl eS l, .fn (.func g) a c]) [] h =
    Tr.clI false (V.d (D.fn (Fn.func (120)))) [V.d (D.sl false (List.length l) (enc eS l)), V.fn (Fn.func g) a c] h fun b h' => Tr.done (V.d (D.bool (decide ((0 : Int) ≤ b)))) h' := by kernel_rfl

theorem i118 (l : List Spl) (g : Nat) (a c : List V) (H : Nat → Heap) (p : Nat → Bool) (hl : l.length ≤ 140737488355328) (hH : ∀ k, (H k).length = (H 0).length ∧ (H k).all (blkBel (H 0).length) = true)
    (hb : bel2 (H 0).length (.fn (.func g) a c) = true) (hf : ∀ k : Nat, k < l.length → (∀ j, j < k → p j = false) → callV Try.prog (.fn (.func g) a c) [Sv (lat l k)] (H k) fun v h' => v = vb (p k) ∧ h' = H (k + 1)) :
    ACalls Try.prog 118 [vsl eS l, .fn (.func g) a c] (H 0) (Found l.length p H (fun _ => vb true) (vb false)) := by
  refine q118.calls (XI_ok 7) (h := H 0) rfl (w118 l g a c (H 0)) ?_
  simp only [holds]
  refine callV_holds ?_ (i120 l g a c H p hl hH hb hf)
  rintro v h' ⟨m, hm, hA, ⟨h1, rfl, rfl⟩ | ⟨h1, h2, rfl, rfl⟩⟩
  · exact ⟨_, rfl, fun e => (by cases e), m, hm, hA, .inl ⟨h1, rfl, rfl⟩⟩
  · refine ⟨_, rfl, fun e => (by cases e), m, hm, hA, .inr ⟨h1, h2, ?_, rfl⟩⟩
    have : decide ((0 : Int) ≤ (m : Int)) = true := by simp
    exact congrArg (fun b => V.d (.bool b)) this
end
end Go.Proofs.Ytdnefcjbcieecaa
