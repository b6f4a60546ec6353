/- A part of the proof. -/
import Derived.Test.YtdnefcjbcieecaaPart7
import Derived.Test.YtdnefcjbcieecaaProg
import Derived.KernelRfl
set_option linter.unusedVariables false
set_option linter.unusedSimpArgs false
namespace Go.Proofs.Ytdnefcjbcieecaa
open Go Go.Proofs
noncomputable section
def XB (t : Nat) : Sx := { sp := spNil, md := fun k => bif Nat.beq k t then 1 else 0, sh := shI }
theorem XB_ok (t : Nat) : SpOk Try.prog (XB t).sp := spNil_ok _
def XI (t : Nat) : Sx := { sp := spNil, md := fun k => bif Nat.beq k t then 2 else 0, sh := shI }
theorem XI_ok (t : Nat) : SpOk Try.prog (XI t).sp := spNil_ok _
theorem q114 : FunIs Try.prog 114 G114 c114 r114 := ⟨Try.f114, Try.func114, k114, e114, by kernel_rfl, by kernel_rfl⟩
theorem q115 : FunIs Try.prog 115 G115 c115 r115 := ⟨Try.f115, Try.func115, k115, e115, by kernel_rfl, by kernel_rfl⟩
theorem q116 : FunIs Try.prog 116 G116 c116 r116 := ⟨Try.f116, Try.func116, k116, e116, by kernel_rfl, by kernel_rfl⟩
theorem q117 : FunIs Try.prog 117 G117 c117 r117 := ⟨Try.f117, Try.func117, k117, e117, by kernel_rfl, by kernel_rfl⟩
theorem q120 : FunIs Try.prog 120 G120 c120 r120 := ⟨Try.f120, Try.func120, k120, e120, by kernel_rfl, by kernel_rfl⟩
theorem q98 : FunIs Try.prog 98 G98 c98 r98 := ⟨Try.f98, Try.func98, k98, e98, by kernel_rfl, by kernel_rfl⟩
theorem q102 : FunIs Try.prog 102 G102 c102 r102 := ⟨Try.f102, Try.func102, k102, e102, by kernel_rfl, by kernel_rfl⟩
theorem q104 : FunIs Try.prog 104 G104 c104 r104 := ⟨Try.f104, Try.func104, k104, e104, by kernel_rfl, by kernel_rfl⟩
theorem q106 : FunIs Try.prog 106 G106 c106 r106 := ⟨Try.f106, Try.func106, k106, e106, by kernel_rfl, by kernel_rfl⟩
theorem q118 : FunIs Try.prog 118 G118 c118 r118 := ⟨Try.f118, Try.func118, k118, e118, by kernel_rfl, by kernel_rfl⟩
def Found (N : Nat) (p : Nat → Bool) (H : Nat → Heap) (yes : Nat → V) (no : V) (v : V) (h' : Heap) : Prop :=
  ∃ m, m ≤ N ∧ (∀ j, j < m → p j = false) ∧ ((m = N ∧ v = no ∧ h' = H m) ∨ (m < N ∧ p m = true ∧ v = yes m ∧ h' = H (m + 1)))
theorem w115 (l : List Int) (g : Nat) (a c : List V) (h : Heap) : sx (XB 16) c115 [] (doneK r115) (envOf [vsl eI l, .fn (.func g) a c]) [] h =
    Tr.lp (CCode.at c115 [(1 : Nat), (0 : Nat), (1 : Nat), (0 : Nat), (0 : Nat)]) [Fr.blk (0), Fr.seq (CCode.at c115 [(1 : Nat), (1 : Nat)])] [(0, V.d (D.sl false (List.length l) (enc eI l))), (1, V.fn (Fn.func g) a c), (7, V.d (D.int IntKind.i64 (Int.ofNat (List.length l)))), (8, V.d (D.int IntKind.i64 (0 : Int)))] h := by kernel_rfl
def E115 (l : List Int) (g : Nat) (a c : List V) (k : Nat) : Env := [(0, vsl eI l), (1, .fn (.func g) a c), (7, vi l.length), (8, vi k)]
def S115 : List Fr := [Fr.blk 0, Fr.seq (CCode.at c115 [1, 1])]
theorem b115 (l : List Int) (g : Nat) (a c : List V) (h : Heap) (k : Nat) : sx (XB 16) (CCode.at c115 [1,0,1,0,0]) [] leafK (E115 l g a c k) [] h =
    Tr.br (decide (Int.ofNat k < Int.ofNat (List.length l))) (Tr.need ((0 : Int) ≤ Int.ofNat k ∧ Int.ofNat k < Int.ofNat (List.length l) ∧ okEl [0] (enc eI l) (1 : Nat) (Int.ofNat k)) (Tr.clB false (V.fn (Fn.func g) a c) [V.d (D.int IntKind.i64 (cI (enc eI l) (1 : Nat) (Int.ofNat k) (0 : Nat)))] h fun b h' => Tr.br b (Tr.leaf CExit.ret [(4, V.d (D.int IntKind.i64 (Int.ofNat k)))] h') (Tr.need ((-9223372036854775808 : Int) ≤ Int.ofNat k + (1 : Int) ∧ Int.ofNat k + (1 : Int) ≤ (9223372036854775807 : Int)) (Tr.leaf CExit.normal [(0, V.d (D.sl false (List.length l) (enc eI l))), (1, V.fn (Fn.func g) a c), (7, V.d (D.int IntKind.i64 (Int.ofNat (List.length l)))), (8, V.d (D.int IntKind.i64 (Int.ofNat k + (1 : Int))))] h')))) (Tr.leaf (CExit.exit (0)) [(0, V.d (D.sl false (List.length l) (enc eI l))), (1, V.fn (Fn.func g) a c), (7, V.d (D.int IntKind.i64 (Int.ofNat (List.length l)))), (8, V.d (D.int IntKind.i64 (Int.ofNat k))), (9, V.d (D.bool (decide (Int.ofNat k < Int.ofNat (List.length l)))))] h) := by kernel_rfl
theorem x115 (env : Env) (h : Heap) : sS (XB 16) (doneK r115) S115 (.exit 0) env [] h =
    Tr.done (V.d (D.int IntKind.i64 (-1 : Int))) h := by kernel_rfl
theorem t115 (k : Int) (h : Heap) : sS (XB 16) (doneK r115) S115 .ret [(4, .d (.int .i64 k))] [] h =
    Tr.done (V.d (D.int IntKind.i64 k)) h := by kernel_rfl
theorem i115 (l : List Int) (g : Nat) (a c : List V) (H : Nat → Heap) (p : Nat → Bool) (hl : l.length ≤ 140737488355328) (hH : ∀ k, (H k).length = (H 0).length ∧ (H k).all (blkBel (H 0).length) = true)
    (hb : bel2 (H 0).length (.fn (.func g) a c) = true) (hf : ∀ k : Nat, k < l.length → (∀ j, j < k → p j = false) → callV Try.prog (.fn (.func g) a c) [vi (lat l k)] (H k) fun v h' => v = vb (p k) ∧ h' = H (k + 1)) :
    ACalls Try.prog 115 [vsl eI l, .fn (.func g) a c] (H 0) (Found l.length p H (fun m => vi m) (vi (-1))) := by
  refine q115.calls (XB_ok 16) (h := H 0) rfl (w115 l g a c (H 0)) ?_
  simp only [holds]
  refine lp_count (XB_ok 16) l.length (fun k => ∀ j, j < k → p j = false) (E115 l g a c) H rfl rfl (fun j hj => by omega) (fun k _ => ⟨(hH k).1, ?_, (hH k).2⟩) ?_
  · show (true && (_ && (true && (true && true)))) = true
    simpa using hb
  intro k hk hA Q' hn he hr
  rw [b115]
  simp only [holds]
  refine ⟨fun h1 => ?_, fun h1 => ?_⟩
  · have hlt : k < l.length := by have := of_decide_eq_true h1; simp only [Int.ofNat_eq_natCast] at this; omega
    refine ⟨⟨by simp, by simpa using hlt, ok_I (by simpa using hlt)⟩, ?_⟩
    have := hf k hlt hA
    simp only [Int.ofNat_eq_natCast, cI_I]
    refine callV_holds ?_ this
    rintro v h' ⟨rfl, rfl⟩
    refine ⟨p k, rfl, fun e => (by cases e), fun hp => ?_, fun hp => ?_⟩
    · refine hr _ _ (ret_tree (XB_ok 16) (doneK_ok rfl) (t115 (k : Int) (H (k + 1))) ?_)
      simp only [holds]
      exact ⟨k, hk, hA, .inr ⟨hlt, hp, rfl, rfl⟩⟩
    · refine ⟨⟨by omega, by omega⟩, ?_⟩
      have := hn [] hlt (fun j hj => by
        rcases Nat.lt_or_ge j k with h | h
        · exact hA j h
        · have : j = k := by omega
          rw [this]; exact hp)
      rw [List.append_nil] at this
      exact this
  · have hge : k = l.length := by have := of_decide_eq_false h1; simp only [Int.ofNat_eq_natCast] at this; omega
    refine he _ _ _ (ret_tree (XB_ok 16) (doneK_ok rfl) (x115 _ (H k)) ?_)
    simp only [holds]
    exact ⟨k, hk, hA, .inl ⟨hge, rfl, rfl⟩⟩
theorem w102 (l : List Int) (g : Nat) (a c : List V) (h : Heap) : sx (XI 7) c102 [] (doneK r102) (envOf [vsl eI l, .fn (.func g) a c]) [] h =
    Tr.clI false (V.d (D.fn (Fn.func (115)))) [V.d (D.sl false (List.length l) (enc eI l)), V.fn (Fn.func g) a c] h fun b h' => Tr.done (V.d (D.bool (decide ((0 : Int) ≤ b)))) h' := by kernel_rfl
theorem i102 (l : List Int) (g : Nat) (a c : List V) (H : Nat → Heap) (p : Nat → Bool) (hl : l.length ≤ 140737488355328) (hH : ∀ k, (H k).length = (H 0).length ∧ (H k).all (blkBel (H 0).length) = true)
    (hb : bel2 (H 0).length (.fn (.func g) a c) = true) (hf : ∀ k : Nat, k < l.length → (∀ j, j < k → p j = false) → callV Try.prog (.fn (.func g) a c) [vi (lat l k)] (H k) fun v h' => v = vb (p k) ∧ h' = H (k + 1)) :
    ACalls Try.prog 102 [vsl eI l, .fn (.func g) a c] (H 0) (Found l.length p H (fun _ => vb true) (vb false)) := by
  refine q102.calls (XI_ok 7) (h := H 0) rfl (w102 l g a c (H 0)) ?_
  simp only [holds]
  refine callV_holds ?_ (i115 l g a c H p hl hH hb hf)
  rintro v h' ⟨m, hm, hA, ⟨h1, rfl, rfl⟩ | ⟨h1, h2, rfl, rfl⟩⟩
  · exact ⟨_, rfl, fun e => (by cases e), m, hm, hA, .inl ⟨h1, rfl, rfl⟩⟩
  · refine ⟨_, rfl, fun e => (by cases e), m, hm, hA, .inr ⟨h1, h2, ?_, rfl⟩⟩
    have : decide ((0 : Int) ≤ (m : Int)) = true := by simp
    exact congrArg (fun b => V.d (.bool b)) this
theorem w114 (l : List Rng) (g : Nat) (a c : List V) (h : Heap) : sx (XB 16) c114 [] (doneK r114) (envOf [vsl eR l, .fn (.func g) a c]) [] h =
    Tr.lp (CCode.at c114 [(1 : Nat), (0 : Nat), (1 : Nat), (0 : Nat), (0 : Nat)]) [Fr.blk (0), Fr.seq (CCode.at c114 [(1 : Nat), (1 : Nat)])] [(0, V.d (D.sl false (List.length l) (enc eR l))), (1, V.fn (Fn.func g) a c), (7, V.d (D.int IntKind.i64 (Int.ofNat (List.length l)))), (8, V.d (D.int IntKind.i64 (0 : Int)))] h := by kernel_rfl
def E114 (l : List Rng) (g : Nat) (a c : List V) (k : Nat) : Env := [(0, vsl eR l), (1, .fn (.func g) a c), (7, vi l.length), (8, vi k)]
def S114 : List Fr := [Fr.blk 0, Fr.seq (CCode.at c114 [1, 1])]
theorem b114 (l : List Rng) (g : Nat) (a c : List V) (h : Heap) (k : Nat) : sx (XB 16) (CCode.at c114 [1,0,1,0,0]) [] leafK (E114 l g a c k) [] h =
    Tr.br (decide (Int.ofNat k < Int.ofNat (List.length l))) (Tr.need ((0 : Int) ≤ Int.ofNat k ∧ Int.ofNat k < Int.ofNat (List.length l) ∧ okEl [0, 0] (enc eR l) (2 : Nat) (Int.ofNat k)) (Tr.clB false (V.fn (Fn.func g) a c) [V.agg [V.d (D.int IntKind.i64 (cI (enc eR l) (2 : Nat) (Int.ofNat k) (0 : Nat))), V.d (D.int IntKind.i64 (cI (enc eR l) (2 : Nat) (Int.ofNat k) (1)))]] h fun b h' => Tr.br b (Tr.leaf CExit.ret [(4, V.d (D.int IntKind.i64 (Int.ofNat k)))] h') (Tr.need ((-9223372036854775808 : Int) ≤ Int.ofNat k + (1 : Int) ∧ Int.ofNat k + (1 : Int) ≤ (9223372036854775807 : Int)) (Tr.leaf CExit.normal [(0, V.d (D.sl false (List.length l) (enc eR l))), (1, V.fn (Fn.func g) a c), (7, V.d (D.int IntKind.i64 (Int.ofNat (List.length l)))), (8, V.d (D.int IntKind.i64 (Int.ofNat k + (1 : Int))))] h')))) (Tr.leaf (CExit.exit (0)) [(0, V.d (D.sl false (List.length l) (enc eR l))), (1, V.fn (Fn.func g) a c), (7, V.d (D.int IntKind.i64 (Int.ofNat (List.length l)))), (8, V.d (D.int IntKind.i64 (Int.ofNat k))), (9, V.d (D.bool (decide (Int.ofNat k < Int.ofNat (List.length l)))))] h) := by kernel_rfl
theorem x114 (env : Env) (h : Heap) : sS (XB 16) (doneK r114) S114 (.exit 0) env [] h =
    Tr.done (V.d (D.int IntKind.i64 (-1 : Int))) h := by kernel_rfl
theorem t114 (k : Int) (h : Heap) : sS (XB 16) (doneK r114) S114 .ret [(4, .d (.int .i64 k))] [] h =
    Tr.done (V.d (D.int IntKind.i64 k)) h := by kernel_rfl
theorem i114 (l : List Rng) (g : Nat) (a c : List V) (H : Nat → Heap) (p : Nat → Bool) (hl : l.length ≤ 140737488355328) (hH : ∀ k, (H k).length = (H 0).length ∧ (H k).all (blkBel (H 0).length) = true)
    (hb : bel2 (H 0).length (.fn (.func g) a c) = true) (hf : ∀ k : Nat, k < l.length → (∀ j, j < k → p j = false) → callV Try.prog (.fn (.func g) a c) [Rv (lat l k)] (H k) fun v h' => v = vb (p k) ∧ h' = H (k + 1)) :
    ACalls Try.prog 114 [vsl eR l, .fn (.func g) a c] (H 0) (Found l.length p H (fun m => vi m) (vi (-1))) := by
  refine q114.calls (XB_ok 16) (h := H 0) rfl (w114 l g a c (H 0)) ?_
  simp only [holds]
  refine lp_count (XB_ok 16) l.length (fun k => ∀ j, j < k → p j = false) (E114 l g a c) H rfl rfl (fun j hj => by omega) (fun k _ => ⟨(hH k).1, ?_, (hH k).2⟩) ?_
  · show (true && (_ && (true && (true && true)))) = true
    simpa using hb
  intro k hk hA Q' hn he hr
  rw [b114]
  simp only [holds]
  refine ⟨fun h1 => ?_, fun h1 => ?_⟩
  · have hlt : k < l.length := by have := of_decide_eq_true h1; simp only [Int.ofNat_eq_natCast] at this; omega
    refine ⟨⟨by simp, by simpa using hlt, ok_R (by simpa using hlt)⟩, ?_⟩
    have := hf k hlt hA
    simp only [Int.ofNat_eq_natCast, cI_R0, cI_R1]
    refine callV_holds ?_ this
    rintro v h' ⟨rfl, rfl⟩
    refine ⟨p k, rfl, fun e => (by cases e), fun hp => ?_, fun hp => ?_⟩
    · refine hr _ _ (ret_tree (XB_ok 16) (doneK_ok rfl) (t114 (k : Int) (H (k + 1))) ?_)
      simp only [holds]
      exact ⟨k, hk, hA, .inr ⟨hlt, hp, rfl, rfl⟩⟩
    · refine ⟨⟨by omega, by omega⟩, ?_⟩
      have := hn [] hlt (fun j hj => by
        rcases Nat.lt_or_ge j k with h | h
        · exact hA j h
        · have : j = k := by omega
          rw [this]; exact hp)
      rw [List.append_nil] at this
      exact this
  · have hge : k = l.length := by have := of_decide_eq_false h1; simp only [Int.ofNat_eq_natCast] at this; omega
    refine he _ _ _ (ret_tree (XB_ok 16) (doneK_ok rfl) (x114 _ (H k)) ?_)
    simp only [holds]
    exact ⟨k, hk, hA, .inl ⟨hge, rfl, rfl⟩⟩
theorem w98 (l : List Rng) (g : Nat) (a c : List V) (h : Heap) : sx (XI 7) c98 [] (doneK r98) (envOf [vsl eR l, .fn (.func g) a c]) [] h =
    Tr.clI false (V.d (D.fn (Fn.func (114)))) [V.d (D.sl false (List.length l) (enc eR l)), V.fn (Fn.func g) a c] h fun b h' => Tr.done (V.d (D.bool (decide ((0 : Int) ≤ b)))) h' := by kernel_rfl
theorem i98 (l : List Rng) (g : Nat) (a c : List V) (H : Nat → Heap) (p : Nat → Bool) (hl : l.length ≤ 140737488355328) (hH : ∀ k, (H k).length = (H 0).length ∧ (H k).all (blkBel (H 0).length) = true)
    (hb : bel2 (H 0).length (.fn (.func g) a c) = true) (hf : ∀ k : Nat, k < l.length → (∀ j, j < k → p j = false) → callV Try.prog (.fn (.func g) a c) [Rv (lat l k)] (H k) fun v h' => v = vb (p k) ∧ h' = H (k + 1)) :
    ACalls Try.prog 98 [vsl eR l, .fn (.func g) a c] (H 0) (Found l.length p H (fun _ => vb true) (vb false)) := by
  refine q98.calls (XI_ok 7) (h := H 0) rfl (w98 l g a c (H 0)) ?_
  simp only [holds]
  refine callV_holds ?_ (i114 l g a c H p hl hH hb hf)
  rintro v h' ⟨m, hm, hA, ⟨h1, rfl, rfl⟩ | ⟨h1, h2, rfl, rfl⟩⟩
  · exact ⟨_, rfl, fun e => (by cases e), m, hm, hA, .inl ⟨h1, rfl, rfl⟩⟩
  · refine ⟨_, rfl, fun e => (by cases e), m, hm, hA, .inr ⟨h1, h2, ?_, rfl⟩⟩
    have : decide ((0 : Int) ≤ (m : Int)) = true := by simp
    exact congrArg (fun b => V.d (.bool b)) this
theorem w116 (l : List Trd) (g : Nat) (a c : List V) (h : Heap) : sx (XB 16) c116 [] (doneK r116) (envOf [vsl eT l, .fn (.func g) a c]) [] h =
    Tr.lp (CCode.at c116 [(1 : Nat), (0 : Nat), (1 : Nat), (0 : Nat), (0 : Nat)]) [Fr.blk (0), Fr.seq (CCode.at c116 [(1 : Nat), (1 : Nat)])] [(0, V.d (D.sl false (List.length l) (enc eT l))), (1, V.fn (Fn.func g) a c), (7, V.d (D.int IntKind.i64 (Int.ofNat (List.length l)))), (8, V.d (D.int IntKind.i64 (0 : Int)))] h := by kernel_rfl
def E116 (l : List Trd) (g : Nat) (a c : List V) (k : Nat) : Env := [(0, vsl eT l), (1, .fn (.func g) a c), (7, vi l.length), (8, vi k)]
def S116 : List Fr := [Fr.blk 0, Fr.seq (CCode.at c116 [1, 1])]
theorem b116 (l : List Trd) (g : Nat) (a c : List V) (h : Heap) (k : Nat) : sx (XB 16) (CCode.at c116 [1,0,1,0,0]) [] leafK (E116 l g a c k) [] h =
    Tr.br (decide (Int.ofNat k < Int.ofNat (List.length l))) (Tr.need ((0 : Int) ≤ Int.ofNat k ∧ Int.ofNat k < Int.ofNat (List.length l) ∧ okEl [0, 0, 0, 0, 0, 0, 0] (enc eT l) (7 : Nat) (Int.ofNat k)) (Tr.clB false (V.fn (Fn.func g) a c) [V.agg [V.d (D.int IntKind.i64 (cI (enc eT l) (7 : Nat) (Int.ofNat k) (0 : Nat))), V.d (D.int IntKind.i64 (cI (enc eT l) (7 : Nat) (Int.ofNat k) (1))), V.d (D.int IntKind.i64 (cI (enc eT l) (7 : Nat) (Int.ofNat k) (2))), V.d (D.int IntKind.i64 (cI (enc eT l) (7 : Nat) (Int.ofNat k) (3))), V.d (D.int IntKind.i64 (cI (enc eT l) (7 : Nat) (Int.ofNat k) (4))), V.d (D.int IntKind.i64 (cI (enc eT l) (7 : Nat) (Int.ofNat k) (5))), V.d (D.int IntKind.i64 (cI (enc eT l) (7 : Nat) (Int.ofNat k) (6)))]] h fun b h' => Tr.br b (Tr.leaf CExit.ret [(4, V.d (D.int IntKind.i64 (Int.ofNat k)))] h') (Tr.need ((-9223372036854775808 : Int) ≤ Int.ofNat k + (1 : Int) ∧ Int.ofNat k + (1 : Int) ≤ (9223372036854775807 : Int)) (Tr.leaf CExit.normal [(0, V.d (D.sl false (List.length l) (enc eT l))), (1, V.fn (Fn.func g) a c), (7, V.d (D.int IntKind.i64 (Int.ofNat (List.length l)))), (8, V.d (D.int IntKind.i64 (Int.ofNat k + (1 : Int))))] h')))) (Tr.leaf (CExit.exit (0)) [(0, V.d (D.sl false (List.length l) (enc eT l))), (1, V.fn (Fn.func g) a c), (7, V.d (D.int IntKind.i64 (Int.ofNat (List.length l)))), (8, V.d (D.int IntKind.i64 (Int.ofNat k))), (9, V.d (D.bool (decide (Int.ofNat k < Int.ofNat (List.length l)))))] h) := by kernel_rfl
theorem x116 (env : Env) (h : Heap) : sS (XB 16) (doneK r116) S116 (.exit 0) env [] h =
    Tr.done (V.d (D.int IntKind.i64 (-1 : Int))) h := by kernel_rfl
theorem t116 (k : Int) (h : Heap) : sS (XB 16) (doneK r116) S116 .ret [(4, .d (.int .i64 k))] [] h =
    Tr.done (V.d (D.int IntKind.i64 k)) h := by kernel_rfl
theorem i116 (l : List Trd) (g : Nat) (a c : List V) (H : Nat → Heap) (p : Nat → Bool) (hl : l.length ≤ 140737488355328) (hH : ∀ k, (H k).length = (H 0).length ∧ (H k).all (blkBel (H 0).length) = true)
    (hb : bel2 (H 0).length (.fn (.func g) a c) = true) (hf : ∀ k : Nat, k < l.length → (∀ j, j < k → p j = false) → callV Try.prog (.fn (.func g) a c) [Tv (lat l k)] (H k) fun v h' => v = vb (p k) ∧ h' = H (k + 1)) :
    ACalls Try.prog 116 [vsl eT l, .fn (.func g) a c] (H 0) (Found l.length p H (fun m => vi m) (vi (-1))) := by
  refine q116.calls (XB_ok 16) (h := H 0) rfl (w116 l g a c (H 0)) ?_
  simp only [holds]
  refine lp_count (XB_ok 16) l.length (fun k => ∀ j, j < k → p j = false) (E116 l g a c) H rfl rfl (fun j hj => by omega) (fun k _ => ⟨(hH k).1, ?_, (hH k).2⟩) ?_
  · show (true && (_ && (true && (true && true)))) = true
    simpa using hb
  intro k hk hA Q' hn he hr
  rw [b116]
  simp only [holds]
  refine ⟨fun h1 => ?_, fun h1 => ?_⟩
  · have hlt : k < l.length := by have := of_decide_eq_true h1; simp only [Int.ofNat_eq_natCast] at this; omega
    refine ⟨⟨by simp, by simpa using hlt, ok_T (by simpa using hlt)⟩, ?_⟩
    have := hf k hlt hA
    simp only [Int.ofNat_eq_natCast, cI_T0, cI_T1, cI_T2, cI_T3, cI_T4, cI_T5, cI_T6]
    refine callV_holds ?_ this
    rintro v h' ⟨rfl, rfl⟩
    refine ⟨p k, rfl, fun e => (by cases e), fun hp => ?_, fun hp => ?_⟩
    · refine hr _ _ (ret_tree (XB_ok 16) (doneK_ok rfl) (t116 (k : Int) (H (k + 1))) ?_)
      simp only [holds]
      exact ⟨k, hk, hA, .inr ⟨hlt, hp, rfl, rfl⟩⟩
    · refine ⟨⟨by omega, by omega⟩, ?_⟩
      have := hn [] hlt (fun j hj => by
        rcases Nat.lt_or_ge j k with h | h
        · exact hA j h
        · have : j = k := by omega
          rw [this]; exact hp)
      rw [List.append_nil] at this
      exact this
  · have hge : k = l.length := by have := of_decide_eq_false h1; simp only [Int.ofNat_eq_natCast] at this; omega
    refine he _ _ _ (ret_tree (XB_ok 16) (doneK_ok rfl) (x116 _ (H k)) ?_)
    simp only [holds]
    exact ⟨k, hk, hA, .inl ⟨hge, rfl, rfl⟩⟩
theorem w104 (l : List Trd) (g : Nat) (a c : List V) (h : Heap) : sx (XI 7) c104 [] (doneK r104) (envOf [vsl eT l, .fn (.func g) a c]) [] h =
    Tr.clI false (V.d (D.fn (Fn.func (116)))) [V.d (D.sl false (List.length l) (enc eT l)), V.fn (Fn.func g) a c] h fun b h' => Tr.done (V.d (D.bool (decide ((0 : Int) ≤ b)))) h' := by kernel_rfl
theorem i104 (l : List Trd) (g : Nat) (a c : List V) (H : Nat → Heap) (p : Nat → Bool) (hl : l.length ≤ 140737488355328) (hH : ∀ k, (H k).length = (H 0).length ∧ (H k).all (blkBel (H 0).length) = true)
    (hb : bel2 (H 0).length (.fn (.func g) a c) = true) (hf : ∀ k : Nat, k < l.length → (∀ j, j < k → p j = false) → callV Try.prog (.fn (.func g) a c) [Tv (lat l k)] (H k) fun v h' => v = vb (p k) ∧ h' = H (k + 1)) :
    ACalls Try.prog 104 [vsl eT l, .fn (.func g) a c] (H 0) (Found l.length p H (fun _ => vb true) (vb false)) := by
  refine q104.calls (XI_ok 7) (h := H 0) rfl (w104 l g a c (H 0)) ?_
  simp only [holds]
  refine callV_holds ?_ (i116 l g a c H p hl hH hb hf)
  rintro v h' ⟨m, hm, hA, ⟨h1, rfl, rfl⟩ | ⟨h1, h2, rfl, rfl⟩⟩
  · exact ⟨_, rfl, fun e => (by cases e), m, hm, hA, .inl ⟨h1, rfl, rfl⟩⟩
  · refine ⟨_, rfl, fun e => (by cases e), m, hm, hA, .inr ⟨h1, h2, ?_, rfl⟩⟩
    have : decide ((0 : Int) ≤ (m : Int)) = true := by simp
    exact congrArg (fun b => V.d (.bool b)) this
theorem w117 (l : List Dvd) (g : Nat) (a c : List V) (h : Heap) : sx (XB 16) c117 [] (doneK r117) (envOf [vsl eV l, .fn (.func g) a c]) [] h =
    Tr.lp (CCode.at c117 [(1 : Nat), (0 : Nat), (1 : Nat), (0 : Nat), (0 : Nat)]) [Fr.blk (0), Fr.seq (CCode.at c117 [(1 : Nat), (1 : Nat)])] [(0, V.d (D.sl false (List.length l) (enc eV l))), (1, V.fn (Fn.func g) a c), (7, V.d (D.int IntKind.i64 (Int.ofNat (List.length l)))), (8, V.d (D.int IntKind.i64 (0 : Int)))] h := by kernel_rfl
def E117 (l : List Dvd) (g : Nat) (a c : List V) (k : Nat) : Env := [(0, vsl eV l), (1, .fn (.func g) a c), (7, vi l.length), (8, vi k)]
def S117 : List Fr := [Fr.blk 0, Fr.seq (CCode.at c117 [1, 1])]
theorem b117 (l : List Dvd) (g : Nat) (a c : List V) (h : Heap) (k : Nat) : sx (XB 16) (CCode.at c117 [1,0,1,0,0]) [] leafK (E117 l g a c k) [] h =
    Tr.br (decide (Int.ofNat k < Int.ofNat (List.length l))) (Tr.need ((0 : Int) ≤ Int.ofNat k ∧ Int.ofNat k < Int.ofNat (List.length l) ∧ okEl [0, 0, 0] (enc eV l) (3 : Nat) (Int.ofNat k)) (Tr.clB false (V.fn (Fn.func g) a c) [V.agg [V.d (D.int IntKind.i64 (cI (enc eV l) (3 : Nat) (Int.ofNat k) (0 : Nat))), V.d (D.int IntKind.i64 (cI (enc eV l) (3 : Nat) (Int.ofNat k) (1))), V.d (D.int IntKind.i64 (cI (enc eV l) (3 : Nat) (Int.ofNat k) (2)))]] h fun b h' => Tr.br b (Tr.leaf CExit.ret [(4, V.d (D.int IntKind.i64 (Int.ofNat k)))] h') (Tr.need ((-9223372036854775808 : Int) ≤ Int.ofNat k + (1 : Int) ∧ Int.ofNat k + (1 : Int) ≤ (9223372036854775807 : Int)) (Tr.leaf CExit.normal [(0, V.d (D.sl false (List.length l) (enc eV l))), (1, V.fn (Fn.func g) a c), (7, V.d (D.int IntKind.i64 (Int.ofNat (List.length l)))), (8, V.d (D.int IntKind.i64 (Int.ofNat k + (1 : Int))))] h')))) (Tr.leaf (CExit.exit (0)) [(0, V.d (D.sl false (List.length l) (enc eV l))), (1, V.fn (Fn.func g) a c), (7, V.d (D.int IntKind.i64 (Int.ofNat (List.length l)))), (8, V.d (D.int IntKind.i64 (Int.ofNat k))), (9, V.d (D.bool (decide (Int.ofNat k < Int.ofNat (List.length l)))))] h) := by kernel_rfl
theorem x117 (env : Env) (h : Heap) : sS (XB 16) (doneK r117) S117 (.exit 0) env [] h =
    Tr.done (V.d (D.int IntKind.i64 (-1 : Int))) h := by kernel_rfl
theorem t117 (k : Int) (h : Heap) : sS (XB 16) (doneK r117) S117 .ret [(4, .d (.int .i64 k))] [] h =
    Tr.done (V.d (D.int IntKind.i64 k)) h := by kernel_rfl
theorem i117 (l : List Dvd) (g : Nat) (a c : List V) (H : Nat → Heap) (p : Nat → Bool) (hl : l.length ≤ 140737488355328) (hH : ∀ k, (H k).length = (H 0).length ∧ (H k).all (blkBel (H 0).length) = true)
    (hb : bel2 (H 0).length (.fn (.func g) a c) = true) (hf : ∀ k : Nat, k < l.length → (∀ j, j < k → p j = false) → callV Try.prog (.fn (.func g) a c) [Dv (lat l k)] (H k) fun v h' => v = vb (p k) ∧ h' = H (k + 1)) :
    ACalls Try.prog 117 [vsl eV l, .fn (.func g) a c] (H 0) (Found l.length p H (fun m => vi m) (vi (-1))) := by
  refine q117.calls (XB_ok 16) (h := H 0) rfl (w117 l g a c (H 0)) ?_
  simp only [holds]
  refine lp_count (XB_ok 16) l.length (fun k => ∀ j, j < k → p j = false) (E117 l g a c) H rfl rfl (fun j hj => by omega) (fun k _ => ⟨(hH k).1, ?_, (hH k).2⟩) ?_
  · show (true && (_ && (true && (true && true)))) = true
    simpa using hb
  intro k hk hA Q' hn he hr
  rw [b117]
  simp only [holds]
  refine ⟨fun h1 => ?_, fun h1 => ?_⟩
  · have hlt : k < l.length := by have := of_decide_eq_true h1; simp only [Int.ofNat_eq_natCast] at this; omega
    refine ⟨⟨by simp, by simpa using hlt, ok_V (by simpa using hlt)⟩, ?_⟩
    have := hf k hlt hA
    simp only [Int.ofNat_eq_natCast, cI_V0, cI_V1, cI_V2]
    refine callV_holds ?_ this
    rintro v h' ⟨rfl, rfl⟩
    refine ⟨p k, rfl, fun e => (by cases e), fun hp => ?_, fun hp => ?_⟩
    · refine hr _ _ (ret_tree (XB_ok 16) (doneK_ok rfl) (t117 (k : Int) (H (k + 1))) ?_)
      simp only [holds]
      exact ⟨k, hk, hA, .inr ⟨hlt, hp, rfl, rfl⟩⟩
    · refine ⟨⟨by omega, by omega⟩, ?_⟩
      have := hn [] hlt (fun j hj => by
        rcases Nat.lt_or_ge j k with h | h
        · exact hA j h
        · have : j = k := by omega
          rw [this]; exact hp)
      rw [List.append_nil] at this
      exact this
  · have hge : k = l.length := by have := of_decide_eq_false h1; simp only [Int.ofNat_eq_natCast] at this; omega
    refine he _ _ _ (ret_tree (XB_ok 16) (doneK_ok rfl) (x117 _ (H k)) ?_)
    simp only [holds]
    exact ⟨k, hk, hA, .inl ⟨hge, rfl, rfl⟩⟩
theorem w106 (l : List Dvd) (g : Nat) (a c : List V) (h : Heap) : sx (XI 7) c106 [] (doneK r106) (envOf [vsl eV l, .fn (.func g) a c]) [] h =
    Tr.clI false (V.d (D.fn (Fn.func (117)))) [V.d (D.sl false (List.length l) (enc eV l)), V.fn (Fn.func g) a c] h fun b h' => Tr.done (V.d (D.bool (decide ((0 : Int) ≤ b)))) h' := by kernel_rfl
theorem i106 (l : List Dvd) (g : Nat) (a c : List V) (H : Nat → Heap) (p : Nat → Bool) (hl : l.length ≤ 140737488355328) (hH : ∀ k, (H k).length = (H 0).length ∧ (H k).all (blkBel (H 0).length) = true)
    (hb : bel2 (H 0).length (.fn (.func g) a c) = true) (hf : ∀ k : Nat, k < l.length → (∀ j, j < k → p j = false) → callV Try.prog (.fn (.func g) a c) [Dv (lat l k)] (H k) fun v h' => v = vb (p k) ∧ h' = H (k + 1)) :
    ACalls Try.prog 106 [vsl eV l, .fn (.func g) a c] (H 0) (Found l.length p H (fun _ => vb true) (vb false)) := by
  refine q106.calls (XI_ok 7) (h := H 0) rfl (w106 l g a c (H 0)) ?_
  simp only [holds]
  refine callV_holds ?_ (i117 l g a c H p hl hH hb hf)
  rintro v h' ⟨m, hm, hA, ⟨h1, rfl, rfl⟩ | ⟨h1, h2, rfl, rfl⟩⟩
  · exact ⟨_, rfl, fun e => (by cases e), m, hm, hA, .inl ⟨h1, rfl, rfl⟩⟩
  · refine ⟨_, rfl, fun e => (by cases e), m, hm, hA, .inr ⟨h1, h2, ?_, rfl⟩⟩
    have : decide ((0 : Int) ≤ (m : Int)) = true := by simp
    exact congrArg (fun b => V.d (.bool b)) this
theorem w120 (l : List Spl) (g : Nat) (a c : List V) (h : Heap) : sx (XB 16) c120 [] (doneK r120) (envOf [vsl eS l, .fn (.func g) a c]) [] h =
    Tr.lp (CCode.at c120 [(1 : Nat), (0 : Nat), (1 : Nat), (0 : Nat), (0 : Nat)]) [Fr.blk (0), Fr.seq (CCode.at c120 [(1 : Nat), (1 : Nat)])] [(0, V.d (D.sl false (List.length l) (enc eS l))), (1, V.fn (Fn.func g) a c), (7, V.d (D.int IntKind.i64 (Int.ofNat (List.length l)))), (8, V.d (D.int IntKind.i64 (0 : Int)))] h := by kernel_rfl
def E120 (l : List Spl) (g : Nat) (a c : List V) (k : Nat) : Env := [(0, vsl eS l), (1, .fn (.func g) a c), (7, vi l.length), (8, vi k)]
def S120 : List Fr := [Fr.blk 0, Fr.seq (CCode.at c120 [1, 1])]
theorem b120 (l : List Spl) (g : Nat) (a c : List V) (h : Heap) (k : Nat) : sx (XB 16) (CCode.at c120 [1,0,1,0,0]) [] leafK (E120 l g a c k) [] h =
    Tr.br (decide (Int.ofNat k < Int.ofNat (List.length l))) (Tr.need ((0 : Int) ≤ Int.ofNat k ∧ Int.ofNat k < Int.ofNat (List.length l) ∧ okEl [0, 0, 0] (enc eS l) (3 : Nat) (Int.ofNat k)) (Tr.clB false (V.fn (Fn.func g) a c) [V.agg [V.d (D.int IntKind.i64 (cI (enc eS l) (3 : Nat) (Int.ofNat k) (0 : Nat))), V.d (D.int IntKind.i64 (cI (enc eS l) (3 : Nat) (Int.ofNat k) (1))), V.d (D.int IntKind.i64 (cI (enc eS l) (3 : Nat) (Int.ofNat k) (2)))]] h fun b h' => Tr.br b (Tr.leaf CExit.ret [(4, V.d (D.int IntKind.i64 (Int.ofNat k)))] h') (Tr.need ((-9223372036854775808 : Int) ≤ Int.ofNat k + (1 : Int) ∧ Int.ofNat k + (1 : Int) ≤ (9223372036854775807 : Int)) (Tr.leaf CExit.normal [(0, V.d (D.sl false (List.length l) (enc eS l))), (1, V.fn (Fn.func g) a c), (7, V.d (D.int IntKind.i64 (Int.ofNat (List.length l)))), (8, V.d (D.int IntKind.i64 (Int.ofNat k + (1 : Int))))] h')))) (Tr.leaf (CExit.exit (0)) [(0, V.d (D.sl false (List.length l) (enc eS l))), (1, V.fn (Fn.func g) a c), (7, V.d (D.int IntKind.i64 (Int.ofNat (List.length l)))), (8, V.d (D.int IntKind.i64 (Int.ofNat k))), (9, V.d (D.bool (decide (Int.ofNat k < Int.ofNat (List.length l)))))] h) := by kernel_rfl
theorem x120 (env : Env) (h : Heap) : sS (XB 16) (doneK r120) S120 (.exit 0) env [] h =
    Tr.done (V.d (D.int IntKind.i64 (-1 : Int))) h := by kernel_rfl
theorem t120 (k : Int) (h : Heap) : sS (XB 16) (doneK r120) S120 .ret [(4, .d (.int .i64 k))] [] h =
    Tr.done (V.d (D.int IntKind.i64 k)) h := by kernel_rfl
theorem i120 (l : List Spl) (g : Nat) (a c : List V) (H : Nat → Heap) (p : Nat → Bool) (hl : l.length ≤ 140737488355328) (hH : ∀ k, (H k).length = (H 0).length ∧ (H k).all (blkBel (H 0).length) = true)
    (hb : bel2 (H 0).length (.fn (.func g) a c) = true) (hf : ∀ k : Nat, k < l.length → (∀ j, j < k → p j = false) → callV Try.prog (.fn (.func g) a c) [Sv (lat l k)] (H k) fun v h' => v = vb (p k) ∧ h' = H (k + 1)) :
    ACalls Try.prog 120 [vsl eS l, .fn (.func g) a c] (H 0) (Found l.length p H (fun m => vi m) (vi (-1))) := by
  refine q120.calls (XB_ok 16) (h := H 0) rfl (w120 l g a c (H 0)) ?_
  simp only [holds]
  refine lp_count (XB_ok 16) l.length (fun k => ∀ j, j < k → p j = false) (E120 l g a c) H rfl rfl (fun j hj => by omega) (fun k _ => ⟨(hH k).1, ?_, (hH k).2⟩) ?_
  · show (true && (_ && (true && (true && true)))) = true
    simpa using hb
  intro k hk hA Q' hn he hr
  rw [b120]
  simp only [holds]
  refine ⟨fun h1 => ?_, fun h1 => ?_⟩
  · have hlt : k < l.length := by have := of_decide_eq_true h1; simp only [Int.ofNat_eq_natCast] at this; omega
    refine ⟨⟨by simp, by simpa using hlt, ok_S (by simpa using hlt)⟩, ?_⟩
    have := hf k hlt hA
    simp only [Int.ofNat_eq_natCast, cI_S0, cI_S1, cI_S2]
    refine callV_holds ?_ this
    rintro v h' ⟨rfl, rfl⟩
    refine ⟨p k, rfl, fun e => (by cases e), fun hp => ?_, fun hp => ?_⟩
    · refine hr _ _ (ret_tree (XB_ok 16) (doneK_ok rfl) (t120 (k : Int) (H (k + 1))) ?_)
      simp only [holds]
      exact ⟨k, hk, hA, .inr ⟨hlt, hp, rfl, rfl⟩⟩
    · refine ⟨⟨by omega, by omega⟩, ?_⟩
      have := hn [] hlt (fun j hj => by
        rcases Nat.lt_or_ge j k with h | h
        · exact hA j h
        · have : j = k := by omega
          rw [this]; exact hp)
      rw [List.append_nil] at this
      exact this
  · have hge : k = l.length := by have := of_decide_eq_false h1; simp only [Int.ofNat_eq_natCast] at this; omega
    refine he _ _ _ (ret_tree (XB_ok 16) (doneK_ok rfl) (x120 _ (H k)) ?_)
    simp only [holds]
    exact ⟨k, hk, hA, .inl ⟨hge, rfl, rfl⟩⟩
theorem w118 (l : List Spl) (g : Nat) (a c : List V) (h : Heap) : sx (XI 7) c118 [] (doneK r118) (envOf [vsl eS l, .fn (.func g) a c]) [] h =
    Tr.clI false (V.d (D.fn (Fn.func (120)))) [V.d (D.sl false (List.length l) (enc eS l)), V.fn (Fn.func g) a c] h fun b h' => Tr.done (V.d (D.bool (decide ((0 : Int) ≤ b)))) h' := by kernel_rfl
theorem i118 (l : List Spl) (g : Nat) (a c : List V) (H : Nat → Heap) (p : Nat → Bool) (hl : l.length ≤ 140737488355328) (hH : ∀ k, (H k).length = (H 0).length ∧ (H k).all (blkBel (H 0).length) = true)
    (hb : bel2 (H 0).length (.fn (.func g) a c) = true) (hf : ∀ k : Nat, k < l.length → (∀ j, j < k → p j = false) → callV Try.prog (.fn (.func g) a c) [Sv (lat l k)] (H k) fun v h' => v = vb (p k) ∧ h' = H (k + 1)) :
    ACalls Try.prog 118 [vsl eS l, .fn (.func g) a c] (H 0) (Found l.length p H (fun _ => vb true) (vb false)) := by
  refine q118.calls (XI_ok 7) (h := H 0) rfl (w118 l g a c (H 0)) ?_
  simp only [holds]
  refine callV_holds ?_ (i120 l g a c H p hl hH hb hf)
  rintro v h' ⟨m, hm, hA, ⟨h1, rfl, rfl⟩ | ⟨h1, h2, rfl, rfl⟩⟩
  · exact ⟨_, rfl, fun e => (by cases e), m, hm, hA, .inl ⟨h1, rfl, rfl⟩⟩
  · refine ⟨_, rfl, fun e => (by cases e), m, hm, hA, .inr ⟨h1, h2, ?_, rfl⟩⟩
    have : decide ((0 : Int) ≤ (m : Int)) = true := by simp
    exact congrArg (fun b => V.d (.bool b)) this
end
end Go.Proofs.Ytdnefcjbcieecaa
namespace Go.Proofs.Ytdnefcjbcieecaa
open Go Go.Proofs
noncomputable section
theorem q84 : FunIs Try.prog 84 G84 c84 r84 := ⟨Try.f84, Try.func84, k84, e84, by kernel_rfl, by kernel_rfl⟩
theorem q86 : FunIs Try.prog 86 G86 c86 r86 := ⟨Try.f86, Try.func86, k86, e86, by kernel_rfl, by kernel_rfl⟩
theorem q87 : FunIs Try.prog 87 G87 c87 r87 := ⟨Try.f87, Try.func87, k87, e87, by kernel_rfl, by kernel_rfl⟩
theorem q90 : FunIs Try.prog 90 G90 c90 r90 := ⟨Try.f90, Try.func90, k90, e90, by kernel_rfl, by kernel_rfl⟩
theorem q108 : FunIs Try.prog 108 G108 c108 r108 := ⟨Try.f108, Try.func108, k108, e108, by kernel_rfl, by kernel_rfl⟩
theorem q103 : FunIs Try.prog 103 G103 c103 r103 := ⟨Try.f103, Try.func103, k103, e103, by kernel_rfl, by kernel_rfl⟩
theorem q105 : FunIs Try.prog 105 G105 c105 r105 := ⟨Try.f105, Try.func105, k105, e105, by kernel_rfl, by kernel_rfl⟩
theorem q107 : FunIs Try.prog 107 G107 c107 r107 := ⟨Try.f107, Try.func107, k107, e107, by kernel_rfl, by kernel_rfl⟩
theorem q110 : FunIs Try.prog 110 G110 c110 r110 := ⟨Try.f110, Try.func110, k110, e110, by kernel_rfl, by kernel_rfl⟩
theorem q119 : FunIs Try.prog 119 G119 c119 r119 := ⟨Try.f119, Try.func119, k119, e119, by kernel_rfl, by kernel_rfl⟩
theorem q109 : FunIs Try.prog 109 G109 c109 r109 := ⟨Try.f109, Try.func109, k109, e109, by kernel_rfl, by kernel_rfl⟩
theorem q89 : FunIs Try.prog 89 G89 c89 r89 := ⟨Try.f89, Try.func89, k89, e89, by kernel_rfl, by kernel_rfl⟩
theorem q52 : FunIs Try.prog 52 G52 c52 r52 := ⟨Try.f52, Try.func52, k52, e52, by kernel_rfl, by kernel_rfl⟩
def ent100 : Ent := fun args h => match args with
  | [x, .d (.int .i64 n)] => match asC x with
    | some c => some (Cv c = x ∧ 1 ≤ c.houses ∧ c.houses ≤ 9223372036854775807, vb (inR n 0 (c.houses - 1)), none)
    | none => none
  | _ => none
theorem ent100_ok : EntOk Try.prog 100 ent100 := by
  intro args h p v h' he hp
  unfold ent100 at he
  split at he
  · split at he
    · cases he
      rw [← hp.1]
      exact y100 _ _ hp.2.1 hp.2.2 h
    · cases he
  · cases he
def ent101 := entR fun r => vb r.short
theorem ent101_ok : EntOk Try.prog 101 ent101 := entR_ok y101
def ent88 : Ent := fun args h => match args with
  | [.agg [.d (.int .i64 a), .d (.int .i64 b), .d (.int .i64 c)]] => some (True, vb (okDv ⟨a, b, c⟩), none)
  | _ => none
theorem ent88_ok : EntOk Try.prog 88 ent88 := by
  intro args h p v h' he hp
  unfold ent88 at he
  split at he
  · cases he; exact y88 ⟨_, _, _⟩ h
  · cases he
def tab4 : Spec := (spAdd 88 ent88 (spAdd 101 ent101 (spAdd 100 ent100 tab3)))
theorem tab4_ok : SpOk Try.prog tab4 := (spAdd_ok ent88_ok (spAdd_ok ent101_ok (spAdd_ok ent100_ok tab3_ok)))
def X4 : Sx := mkX tab4
theorem X4_ok : SpOk Try.prog X4.sp := tab4_ok
theorem w83 (c : Cmp) (t : Trd) (hc : 1 ≤ c.houses) (hc2 : c.houses ≤ 9223372036854775807) : sx X4 c83 [] (doneK r83) (envOf [Cv c, Tv t]) [] [] =
    Tr.need (Cv (dCe c) = Cv c ∧ (1 : Int) ≤ Cmp.houses (dCe c) ∧ Cmp.houses (dCe c) ≤ (9223372036854775807 : Int)) (Tr.br (inR (Trd.seller t) (0 : Int) (Cmp.houses (dCe c) - (1 : Int))) (Tr.need (Cv (dCe c) = Cv c ∧ (1 : Int) ≤ Cmp.houses (dCe c) ∧ Cmp.houses (dCe c) ≤ (9223372036854775807 : Int)) (Tr.br (inR (Trd.buyer t) (0 : Int) (Cmp.houses (dCe c) - (1 : Int))) (Tr.br (Trd.seller t != Trd.buyer t) (Tr.need True (Tr.br (inR (Trd.shares t) (1 : Int) (100 : Int)) (Tr.need True (Tr.br (Rng.short { lo := Rng.lo (Trd.sold t), hi := Rng.hi (Trd.sold t) }) (Tr.need True (Tr.done (V.d (D.bool (Rng.short { lo := Rng.lo (Trd.deliv t), hi := Rng.hi (Trd.deliv t) }))) [])) (Tr.done (V.d (D.bool false)) []))) (Tr.done (V.d (D.bool false)) []))) (Tr.done (V.d (D.bool false)) [])) (Tr.done (V.d (D.bool false)) []))) (Tr.done (V.d (D.bool false)) [])) := by kernel_rfl
theorem y83 (c : Cmp) (t : Trd) (hc : 1 ≤ c.houses) (hc2 : c.houses ≤ 9223372036854775807) : Yields Try.prog 83 [Cv c, Tv t] (vb (okTr c.houses t)) := by
  refine q83.yieldsK X4_ok rfl rfl rfl (w83 c t hc hc2) ?_
  simp only [holds]
  simp only [dC_enc]
  refine ⟨⟨trivial, hc, hc2⟩, ?_⟩
  grind [VLe.of_eq, okTr, Rng.short, inR, vb, Cv]
def ent83 : Ent := fun args h => match args with
  | [x, .agg [.d (.int .i64 a), .d (.int .i64 b), .d (.int .i64 e), .d (.int .i64 s1), .d (.int .i64 s2), .d (.int .i64 d1), .d (.int .i64 d2)]] => match asC x with
    | some c => some (Cv c = x ∧ 1 ≤ c.houses ∧ c.houses ≤ 9223372036854775807, vb (okTr c.houses ⟨a, b, e, ⟨s1, s2⟩, ⟨d1, d2⟩⟩), none)
    | none => none
  | _ => none
theorem ent83_ok : EntOk Try.prog 83 ent83 := by
  intro args h p v h' he hp
  unfold ent83 at he
  split at he
  · split at he
    · cases he
      rw [← hp.1]
      exact y83 _ ⟨_, _, _, ⟨_, _⟩, ⟨_, _⟩⟩ hp.2.1 hp.2.2 h
    · cases he
  · cases he
def tab5 : Spec := (spAdd 83 ent83 tab4)
theorem tab5_ok : SpOk Try.prog tab5 := (spAdd_ok ent83_ok tab4_ok)
def X5 : Sx := mkX tab5
theorem X5_ok : SpOk Try.prog X5.sp := tab5_ok
theorem found_all {α : Type} [Inhabited α] {l : List α} {p : α → Bool} {H : Nat → Heap} {v : V} {h' : Heap} (hf : Found l.length (fun k => !(p (lat l (k : Nat)))) H (fun _ => vb true) (vb false) v h') : v = .d (.bool (!(l.all p))) := by
  obtain ⟨m, hm, hA, ⟨h1, rfl, rfl⟩ | ⟨h1, h2, rfl, rfl⟩⟩ := hf
  · have : l.all p = true := by
      rw [List.all_eq_true]
      intro x hx
      obtain ⟨j, hj, rfl⟩ := List.getElem_of_mem hx
      have := hA j (by omega)
      simpa [lat, hj] using this
    rw [this]; rfl
  · have : l.all p = false := by
      rw [List.all_eq_false]
      exact ⟨lat l (m : Nat), by simp [lat, h1], by simpa using h2⟩
    rw [this]; rfl
def h103 (r : Rng) : Heap := [some (.box [.fn (.func 85) [Rv r] []])]
theorem w103 (r : Rng) (x : Int) : sx X5 c103 [] (doneK r103) (envOf [vi x, .ptr 0 0 0]) [] (h103 r) =
    Tr.need True (Tr.done (V.d (D.bool !Rng.has { lo := Rng.lo r, hi := Rng.hi r } x)) [some (Blk.box [V.fn (Fn.func (85)) [V.agg [V.d (D.int IntKind.i64 (Rng.lo r)), V.d (D.int IntKind.i64 (Rng.hi r))]] []])]) := by kernel_rfl
theorem cl103 (r : Rng) (x : Int) : ACalls Try.prog 103 [vi x, .ptr 0 0 0] (h103 r) fun v h' => v = vb (!(r.has x)) ∧ h' = h103 r :=
  q103.calls X5_ok (h := h103 r) rfl (w103 r x) (by simp only [holds]; exact ⟨trivial, rfl, rfl⟩)
theorem w84 (l : List Int) (r : Rng) : sx (XB 7) c84 [] (doneK r84) (envOf [vsl eI l, .fn (.func 85) [Rv r] []]) [] [] =
    Tr.clB false (V.d (D.fn (Fn.func (102)))) [V.d (D.sl false (List.length l) (enc eI l)), V.fn (Fn.func (103)) [] [V.ptr (0) (0) (0)]] [some (Blk.box [V.fn (Fn.func (85)) [V.agg [V.d (D.int IntKind.i64 (Rng.lo r)), V.d (D.int IntKind.i64 (Rng.hi r))]] []])] fun b h' => Tr.done (V.d (D.bool !b)) h' := by kernel_rfl
theorem y84 (l : List Int) (r : Rng) (hl : l.length ≤ 140737488355328) : Yields Try.prog 84 [vsl eI l, .fn (.func 85) [Rv r] []] (vb (l.all r.has)) := by
  refine q84.yieldsK (XB_ok 7) rfl rfl rfl (w84 l r) ?_
  simp only [holds]
  refine callV_holds ?_ (i102 l 103 [] [.ptr 0 0 0] (fun _ => h103 r) (fun k => !(r.has (lat l (k : Nat)))) hl (fun _ => ⟨rfl, rfl⟩) rfl (fun k hk _ => cl103 r _))
  intro v h' hf
  exact ⟨_, found_all hf, fun e => (by cases e), .of_eq (by rw [Bool.not_not]; rfl)⟩
def h105 (c : Cmp) : Heap := [some (.box [.fn (.func 83) [Cv c] []])]
theorem w105 (c : Cmp) (t : Trd) : sx X5 c105 [] (doneK r105) (envOf [Tv t, .ptr 0 0 0]) [] (h105 c) =
    Tr.need (Cv (dCe c) = Cv c ∧ (1 : Int) ≤ Cmp.houses (dCe c) ∧ Cmp.houses (dCe c) ≤ (9223372036854775807 : Int)) (Tr.done (V.d (D.bool !okTr (Cmp.houses (dCe c)) { seller := Trd.seller t, buyer := Trd.buyer t, shares := Trd.shares t, sold := { lo := Rng.lo (Trd.sold t), hi := Rng.hi (Trd.sold t) }, deliv := { lo := Rng.lo (Trd.deliv t), hi := Rng.hi (Trd.deliv t) } })) [some (Blk.box [V.fn (Fn.func (83)) [Cv c] []])]) := by kernel_rfl
theorem cl105 (c : Cmp) (t : Trd) (hc : 1 ≤ c.houses) (hc2 : c.houses ≤ 9223372036854775807) : ACalls Try.prog 105 [Tv t, .ptr 0 0 0] (h105 c) fun v h' => v = vb (!(okTr c.houses t)) ∧ h' = h105 c :=
  q105.calls X5_ok (h := h105 c) rfl (w105 c t) (by simp only [holds, dC_enc]; exact ⟨⟨trivial, hc, hc2⟩, rfl, rfl⟩)
theorem w86 (l : List Trd) (c : Cmp) : sx (XB 7) c86 [] (doneK r86) (envOf [vsl eT l, .fn (.func 83) [Cv c] []]) [] [] =
    Tr.clB false (V.d (D.fn (Fn.func (104)))) [V.d (D.sl false (List.length l) (enc eT l)), V.fn (Fn.func (105)) [] [V.ptr (0) (0) (0)]] [some (Blk.box [V.fn (Fn.func (83)) [Cv c] []])] fun b h' => Tr.done (V.d (D.bool !b)) h' := by kernel_rfl
theorem y86 (l : List Trd) (c : Cmp) (hc : 1 ≤ c.houses) (hc2 : c.houses ≤ 9223372036854775807) (hl : l.length ≤ 140737488355328) : Yields Try.prog 86 [vsl eT l, .fn (.func 83) [Cv c] []] (vb (l.all (okTr c.houses))) := by
  refine q86.yieldsK (XB_ok 7) rfl rfl rfl (w86 l c) ?_
  simp only [holds]
  refine callV_holds ?_ (i104 l 105 [] [.ptr 0 0 0] (fun _ => h105 c) (fun k => !(okTr c.houses (lat l (k : Nat)))) hl (fun _ => ⟨rfl, rfl⟩) rfl (fun k hk _ => cl105 c _ hc hc2))
  intro v h' hf
  exact ⟨_, found_all hf, fun e => (by cases e), .of_eq (by rw [Bool.not_not]; rfl)⟩
def h107 : Heap := [some (.box [.d (.fn (.func 88))])]
theorem w107 (t : Dvd) : sx X5 c107 [] (doneK r107) (envOf [Dv t, .ptr 0 0 0]) [] h107 =
    Tr.need True (Tr.done (V.d (D.bool !okDv { ex := Dvd.ex t, record := Dvd.record t, pence := Dvd.pence t })) [some (Blk.box [V.d (D.fn (Fn.func (88)))])]) := by kernel_rfl
theorem cl107 (t : Dvd) : ACalls Try.prog 107 [Dv t, .ptr 0 0 0] h107 fun v h' => v = vb (!(okDv t)) ∧ h' = h107 :=
  q107.calls X5_ok (h := h107) rfl (w107 t) (by simp only [holds]; exact ⟨trivial, rfl, rfl⟩)
theorem w87 (l : List Dvd) : sx (XB 7) c87 [] (doneK r87) (envOf [vsl eV l, .d (.fn (.func 88))]) [] [] =
    Tr.clB false (V.d (D.fn (Fn.func (106)))) [V.d (D.sl false (List.length l) (enc eV l)), V.fn (Fn.func (107)) [] [V.ptr (0) (0) (0)]] [some (Blk.box [V.d (D.fn (Fn.func (88)))])] fun b h' => Tr.done (V.d (D.bool !b)) h' := by kernel_rfl
theorem y87 (l : List Dvd) (hl : l.length ≤ 140737488355328) : Yields Try.prog 87 [vsl eV l, .d (.fn (.func 88))] (vb (l.all okDv)) := by
  refine q87.yieldsK (XB_ok 7) rfl rfl rfl (w87 l) ?_
  simp only [holds]
  refine callV_holds ?_ (i106 l 107 [] [.ptr 0 0 0] (fun _ => h107) (fun k => !(okDv (lat l (k : Nat)))) hl (fun _ => ⟨rfl, rfl⟩) rfl (fun k hk _ => cl107 _))
  intro v h' hf
  exact ⟨_, found_all hf, fun e => (by cases e), .of_eq (by rw [Bool.not_not]; rfl)⟩
def h110 : Heap := [some (.box [.d (.fn (.func 91))])]
theorem w110 (t : Rng) : sx X5 c110 [] (doneK r110) (envOf [Rv t, .ptr 0 0 0]) [] h110 =
    Tr.need True (Tr.done (V.d (D.bool !Rng.days { lo := Rng.lo t, hi := Rng.hi t })) [some (Blk.box [V.d (D.fn (Fn.func (91)))])]) := by kernel_rfl
theorem cl110 (t : Rng) : ACalls Try.prog 110 [Rv t, .ptr 0 0 0] h110 fun v h' => v = vb (!(t.days)) ∧ h' = h110 :=
  q110.calls X5_ok (h := h110) rfl (w110 t) (by simp only [holds]; exact ⟨trivial, rfl, rfl⟩)
theorem w90 (l : List Rng) : sx (XB 7) c90 [] (doneK r90) (envOf [vsl eR l, .d (.fn (.func 91))]) [] [] =
    Tr.clB false (V.d (D.fn (Fn.func (98)))) [V.d (D.sl false (List.length l) (enc eR l)), V.fn (Fn.func (110)) [] [V.ptr (0) (0) (0)]] [some (Blk.box [V.d (D.fn (Fn.func (91)))])] fun b h' => Tr.done (V.d (D.bool !b)) h' := by kernel_rfl
theorem y90 (l : List Rng) (hl : l.length ≤ 140737488355328) : Yields Try.prog 90 [vsl eR l, .d (.fn (.func 91))] (vb (l.all Rng.days)) := by
  refine q90.yieldsK (XB_ok 7) rfl rfl rfl (w90 l) ?_
  simp only [holds]
  refine callV_holds ?_ (i98 l 110 [] [.ptr 0 0 0] (fun _ => h110) (fun k => !((lat l (k : Nat)).days)) hl (fun _ => ⟨rfl, rfl⟩) rfl (fun k hk _ => cl110 _))
  intro v h' hf
  exact ⟨_, found_all hf, fun e => (by cases e), .of_eq (by rw [Bool.not_not]; rfl)⟩
def okSp (last : Int) (s : Spl) : Bool := decide (last + 1 ≤ s.day ∧ s.day ≤ 11 ∧ 1 ≤ s.num ∧ s.num ≤ 6 ∧ 1 ≤ s.den ∧ s.den ≤ 4)
def okSs : Int → List Spl → Bool
  | _, [] => true
  | last, s :: l => okSp last s && okSs s.day l
def lastAt (l : List Spl) (k : Nat) : Int := if k = 0 then -1 else (lat l ((k : Int) - 1)).day
def h109 (last : Int) : Heap := [some (.box [vi last]), some (.box [.fn (.func 109) [] [.ptr 0 0 0]])]
theorem w109 (s : Spl) (last : Int) (rest : Heap) : sx X5 c109 [] (doneK r109) (envOf [Sv s, .ptr 0 0 0]) [] (some (.box [vi last]) :: rest) =
    Tr.need ((-9223372036854775808 : Int) ≤ last + (1 : Int) ∧ last + (1 : Int) ≤ (9223372036854775807 : Int)) (Tr.need True (Tr.br (inR (Spl.day s) (last + (1 : Int)) (11 : Int)) (Tr.need True (Tr.br (inR (Spl.num s) (1 : Int) (6 : Int)) (Tr.need True (Tr.done (V.d (D.bool (inR (Spl.den s) (1 : Int) (4 : Int)))) (some (Blk.box [V.d (D.int IntKind.i64 (Spl.day s))]) :: rest))) (Tr.done (V.d (D.bool false)) (some (Blk.box [V.d (D.int IntKind.i64 (Spl.day s))]) :: rest)))) (Tr.done (V.d (D.bool false)) (some (Blk.box [V.d (D.int IntKind.i64 (Spl.day s))]) :: rest)))) := by kernel_rfl
theorem cl109 (s : Spl) (last : Int) (h1 : -1 ≤ last) (h2 : last ≤ 11) (rest : Heap) : ACalls Try.prog 109 [Sv s, .ptr 0 0 0] (some (.box [vi last]) :: rest) fun v h' => v = vb (okSp last s) ∧ h' = some (.box [vi s.day]) :: rest :=
  q109.calls X5_ok (h := some (.box [vi last]) :: rest) rfl (w109 s last rest) (by simp only [holds]; grind [okSp, inR, vb, vi])
def ent109 : Ent := fun args h => match args, h with
  | [.agg [.d (.int .i64 a), .d (.int .i64 b), .d (.int .i64 c)], .ptr 0 0 0], some (.box [.d (.int .i64 last)]) :: rest => some (-1 ≤ last ∧ last ≤ 11, vb (okSp last ⟨a, b, c⟩), some (some (.box [vi a]) :: rest))
  | _, _ => none
theorem ent109_ok : EntOk Try.prog 109 ent109 := by
  intro args h p v h' he hp
  unfold ent109 at he
  split at he
  · cases he; exact cl109 ⟨_, _, _⟩ _ hp.1 hp.2 _
  · cases he
def tab109 : Spec := (spAdd 109 ent109 spNil)
theorem tab109_ok : SpOk Try.prog tab109 := (spAdd_ok ent109_ok (spNil_ok _))
def X109 : Sx := mkX tab109
theorem X109_ok : SpOk Try.prog X109.sp := tab109_ok
theorem w119 (s : Spl) (last : Int) : sx X109 c119 [] (doneK r119) (envOf [Sv s, .ptr 1 0 0]) [] (h109 last) =
    Tr.need ((-1 : Int) ≤ last ∧ last ≤ (11 : Int)) (Tr.done (V.d (D.bool !okSp last { day := Spl.day s, num := Spl.num s, den := Spl.den s })) [some (Blk.box [V.d (D.int IntKind.i64 (Spl.day s))]), some (Blk.box [V.fn (Fn.func (109)) [] [V.ptr (0) (0) (0)]])]) := by kernel_rfl
theorem cl119 (s : Spl) (last : Int) (h1 : -1 ≤ last) (h2 : last ≤ 11) : ACalls Try.prog 119 [Sv s, .ptr 1 0 0] (h109 last) fun v h' => v = vb (!(okSp last s)) ∧ h' = h109 s.day :=
  q119.calls X109_ok (h := h109 last) rfl (w119 s last) (by simp only [holds]; exact ⟨⟨h1, h2⟩, rfl, rfl⟩)
theorem w108 (l : List Spl) (last : Int) : sx (XB 7) c108 [] (doneK r108) (envOf [vsl eS l, .fn (.func 109) [] [.ptr 0 0 0]]) [] [some (.box [vi last])] =
    Tr.clB false (V.d (D.fn (Fn.func (118)))) [V.d (D.sl false (List.length l) (enc eS l)), V.fn (Fn.func (119)) [] [V.ptr (1) (0) (0)]] [some (Blk.box [V.d (D.int IntKind.i64 last)]), some (Blk.box [V.fn (Fn.func (109)) [] [V.ptr (0) (0) (0)]])] fun b h' => Tr.done (V.d (D.bool !b)) h' := by kernel_rfl
theorem lastAt_succ (l : List Spl) (k : Nat) : lastAt l (k + 1) = (lat l (k : Nat)).day := by
  unfold lastAt
  rw [if_neg (by omega)]
  congr 2
  omega
theorem okSs_iff (l : List Spl) (last : Int) : okSs last l = true ↔ ∀ k : Nat, k < l.length → okSp (if k = 0 then last else (lat l ((k : Int) - 1)).day) (lat l (k : Nat)) = true := by
  induction l generalizing last with
  | nil => simp [okSs]
  | cons s l ih =>
    simp only [okSs, Bool.and_eq_true, ih]
    constructor
    · rintro ⟨h1, h2⟩ k hk
      cases k with
      | zero => simpa [lat] using h1
      | succ k =>
        have := h2 k (by simpa using hk)
        rw [if_neg (by omega)]
        have e1 : lat (s :: l) ((k + 1 : Nat) : Int) = lat l (k : Nat) := by simp only [lat, Int.toNat_natCast, List.getD_cons_succ]
        rw [e1]
        have e2 : ((k + 1 : Nat) : Int) - 1 = (k : Nat) := by omega
        rw [e2]
        cases k with
        | zero => simpa [lat] using this
        | succ k =>
          rw [if_neg (by omega)] at this
          have e3 : lat (s :: l) ((k + 1 : Nat) : Int) = lat l (((k + 1 : Nat) : Int) - 1) := by
            have : (((k + 1 : Nat) : Int) - 1).toNat = k := by omega
            simp only [lat, this, Int.toNat_natCast, List.getD_cons_succ]
          rw [e3]; exact this
    · intro h
      refine ⟨by simpa [lat] using h 0 (by simp), fun k hk => ?_⟩
      have := h (k + 1) (by simpa using hk)
      rw [if_neg (by omega)] at this
      have e1 : lat (s :: l) ((k + 1 : Nat) : Int) = lat l (k : Nat) := by simp only [lat, Int.toNat_natCast, List.getD_cons_succ]
      rw [e1] at this
      have e2 : ((k + 1 : Nat) : Int) - 1 = (k : Nat) := by omega
      rw [e2] at this
      cases k with
      | zero => simpa [lat] using this
      | succ k =>
        rw [if_neg (by omega)]
        have e3 : lat (s :: l) ((k + 1 : Nat) : Int) = lat l (((k + 1 : Nat) : Int) - 1) := by
          have : (((k + 1 : Nat) : Int) - 1).toNat = k := by omega
          simp only [lat, this, Int.toNat_natCast, List.getD_cons_succ]
        rw [← e3]; exact this
theorem lastAt_in (l : List Spl) (k : Nat) (h : ∀ j, j < k → (!(okSp (lastAt l j) (lat l (j : Nat)))) = false) : -1 ≤ lastAt l k ∧ lastAt l k ≤ 11 := by
  induction k with
  | zero => exact ⟨by simp [lastAt], by simp [lastAt]⟩
  | succ k ih =>
    have h1 := ih fun j hj => h j (by omega)
    have h2 := h k (by omega)
    rw [lastAt_succ]
    simp only [Bool.not_eq_false', okSp, decide_eq_true_eq] at h2
    omega
theorem y108 (l : List Spl) (hl : l.length ≤ 140737488355328) : ACalls Try.prog 108 [vsl eS l, .fn (.func 109) [] [.ptr 0 0 0]] [some (.box [vi (-1)])] fun v h' => v = vb (okSs (-1) l) := by
  refine q108.calls (XB_ok 7) (h := [some (.box [vi (-1)])]) rfl (w108 l (-1)) ?_
  simp only [holds]
  refine callV_holds ?_ (i118 l 119 [] [.ptr 1 0 0] (fun k => h109 (lastAt l k)) (fun k => !(okSp (lastAt l k) (lat l (k : Nat)))) hl (fun _ => ⟨rfl, rfl⟩) rfl (fun k hk hA => ?_))
  · rintro v h' ⟨m, hm, hA, ⟨h1, rfl, rfl⟩ | ⟨h1, h2, rfl, rfl⟩⟩
    · refine ⟨_, rfl, fun e => (by cases e), ?_⟩
      have : okSs (-1) l = true := by
        rw [okSs_iff]
        intro k hk
        simpa [lastAt] using hA k (by omega)
      rw [this]; rfl
    · refine ⟨_, rfl, fun e => (by cases e), ?_⟩
      have : okSs (-1) l = false := by
        cases hs : okSs (-1) l with
        | false => rfl
        | true =>
          rw [okSs_iff] at hs
          have := hs m h1
          simp only [lastAt, Bool.not_eq_true'] at h2
          rw [h2] at this; cases this
      rw [this]; rfl
  · have hb := lastAt_in l k hA
    rw [lastAt_succ]
    exact cl119 _ _ hb.1 hb.2
theorem w89 (c : Cmp) : sx (XB 7) c89 [] (doneK r89) (envOf [Cv c]) [] [] =
    Tr.clB false (V.d (D.fn (Fn.func (108)))) [V.d (D.sl false (List.length (Cmp.splits c)) (enc eS (Cmp.splits c))), V.fn (Fn.func (109)) [] [V.ptr (0) (0) (0)]] [some (Blk.box [V.d (D.int IntKind.i64 (-1 : Int))])] fun b h' => Tr.done (V.d (D.bool b)) h' := by kernel_rfl
theorem y89 (c : Cmp) (hl : c.splits.length ≤ 140737488355328) : Yields Try.prog 89 [Cv c] (vb (okSs (-1) c.splits)) := by
  refine q89.yieldsK (XB_ok 7) rfl rfl rfl (w89 c) ?_
  simp only [holds]
  refine callV_holds ?_ (y108 c.splits hl)
  rintro v h' rfl
  exact ⟨_, rfl, fun e => (by cases e), .refl _⟩
def ent84 : Ent := fun args h => match args with
  | [.d (.sl false n cs), .fn (.func 85) [.agg [.d (.int .i64 a), .d (.int .i64 b)]] []] => some (okL eI 1 gI n cs, vb ((dec 1 gI n cs).all (Rng.has ⟨a, b⟩)), none)
  | _ => none
theorem ent84_ok : EntOk Try.prog 84 ent84 := by
  intro args h p v h' he hp
  unfold ent84 at he
  split at he
  · cases he; rw [okL_vsl hp]; exact y84 _ ⟨_, _⟩ (by rw [dec_len]; exact hp.2) h
  · cases he
def ent86 : Ent := fun args h => match args with
  | [.d (.sl false n cs), .fn (.func 83) [x] []] => match asC x with
    | some c => some (okL eT 7 gT n cs ∧ Cv c = x ∧ 1 ≤ c.houses ∧ c.houses ≤ 9223372036854775807, vb ((dec 7 gT n cs).all (okTr c.houses)), none)
    | none => none
  | _ => none
theorem ent86_ok : EntOk Try.prog 86 ent86 := by
  intro args h p v h' he hp
  unfold ent86 at he
  split at he
  · split at he
    · cases he; rw [okL_vsl hp.1, ← hp.2.1]; exact y86 _ _ hp.2.2.1 hp.2.2.2 (by rw [dec_len]; exact hp.1.2) h
    · cases he
  · cases he
def ent87 : Ent := fun args h => match args with
  | [.d (.sl false n cs), .d (.fn (.func 88))] => some (okL eV 3 gV n cs, vb ((dec 3 gV n cs).all okDv), none)
  | _ => none
theorem ent87_ok : EntOk Try.prog 87 ent87 := by
  intro args h p v h' he hp
  unfold ent87 at he
  split at he
  · cases he; rw [okL_vsl hp]; exact y87 _ (by rw [dec_len]; exact hp.2) h
  · cases he
def ent90 : Ent := fun args h => match args with
  | [.d (.sl false n cs), .d (.fn (.func 91))] => some (okL eR 2 gR n cs, vb ((dec 2 gR n cs).all Rng.days), none)
  | _ => none
theorem ent90_ok : EntOk Try.prog 90 ent90 := by
  intro args h p v h' he hp
  unfold ent90 at he
  split at he
  · cases he; rw [okL_vsl hp]; exact y90 _ (by rw [dec_len]; exact hp.2) h
  · cases he
def ent89 : Ent := fun args h => match args with
  | [x] => match asC x with
    | some c => some (Cv c = x ∧ c.splits.length ≤ 140737488355328, vb (okSs (-1) c.splits), none)
    | none => none
  | _ => none
theorem ent89_ok : EntOk Try.prog 89 ent89 := by
  intro args h p v h' he hp
  unfold ent89 at he
  split at he
  · split at he
    · cases he; rw [← hp.1]; exact y89 _ hp.2 h
    · cases he
  · cases he
def tab6 : Spec := (spAdd 89 ent89 (spAdd 90 ent90 (spAdd 87 ent87 (spAdd 86 ent86 (spAdd 84 ent84 tab5)))))
theorem tab6_ok : SpOk Try.prog tab6 := (spAdd_ok ent89_ok (spAdd_ok ent90_ok (spAdd_ok ent87_ok (spAdd_ok ent86_ok (spAdd_ok ent84_ok tab5_ok)))))
def X6 : Sx := mkX tab6
theorem X6_ok : SpOk Try.prog X6.sp := tab6_ok
def faultM (c : Cmp) : Int :=
  if 4 < c.houses ∨ 4 < c.trades.length ∨ 3 < c.divs.length ∨ 2 < c.splits.length ∨ 2 < c.closed.length then 3
  else if 1 ≤ c.houses ∧ (c.held.length : Int) = c.houses ∧ c.held.all (Rng.has ⟨0, 100⟩) = true ∧ c.trades.all (okTr c.houses) = true ∧ c.divs.all okDv = true ∧ okSs (-1) c.splits = true ∧ c.closed.all Rng.days = true then 0 else 1
theorem w52 (c : Cmp) : sx X6 c52 [] (doneK r52) (envOf [Cv c]) [] [] =
    let x1_ := (List.length (Cmp.trades c))
    let x2_ := (List.length (Cmp.divs c))
    let x3_ := (List.length (Cmp.closed c))
    let x4_ := (List.length (Cmp.held c))
    Tr.br (decide ((4 : Int) < Cmp.houses c)) (Tr.done (V.d (D.int IntKind.i64 (3 : Int))) []) (Tr.br (decide ((4 : Int) < Int.ofNat x1_)) (Tr.done (V.d (D.int IntKind.i64 (3 : Int))) []) (Tr.br (decide ((3 : Int) < Int.ofNat x2_)) (Tr.done (V.d (D.int IntKind.i64 (3 : Int))) []) (Tr.br (decide ((2 : Int) < Int.ofNat (List.length (Cmp.splits c)))) (Tr.done (V.d (D.int IntKind.i64 (3 : Int))) []) (Tr.br (decide ((2 : Int) < Int.ofNat x3_)) (Tr.done (V.d (D.int IntKind.i64 (3 : Int))) []) (Tr.br (decide (Cmp.houses c < (1 : Int))) (Tr.done (V.d (D.int IntKind.i64 (1 : Int))) []) (Tr.br (Int.ofNat x4_ != Cmp.houses c) (Tr.done (V.d (D.int IntKind.i64 (1 : Int))) []) (Tr.need (okL eI (1 : Nat) gI x4_ (enc eI (Cmp.held c))) (Tr.br (!List.all (dec (1 : Nat) gI x4_ (enc eI (Cmp.held c))) (Rng.has { lo := (0 : Int), hi := (100 : Int) })) (Tr.done (V.d (D.int IntKind.i64 (1 : Int))) []) (Tr.need (okL eT (7 : Nat) gT x1_ (enc eT (Cmp.trades c)) ∧ Cv (dCe c) = Cv c ∧ (1 : Int) ≤ Cmp.houses (dCe c) ∧ Cmp.houses (dCe c) ≤ (9223372036854775807 : Int)) (Tr.br (!List.all (dec (7 : Nat) gT x1_ (enc eT (Cmp.trades c))) (okTr (Cmp.houses (dCe c)))) (Tr.done (V.d (D.int IntKind.i64 (1 : Int))) []) (Tr.need (okL eV (3 : Nat) gV x2_ (enc eV (Cmp.divs c))) (Tr.br (!List.all (dec (3 : Nat) gV x2_ (enc eV (Cmp.divs c))) okDv) (Tr.done (V.d (D.int IntKind.i64 (1 : Int))) []) (Tr.need (Cv (dCe c) = Cv c ∧ List.length (Cmp.splits (dCe c)) ≤ (140737488355328 : Nat)) (Tr.br (!okSs (-1 : Int) (Cmp.splits (dCe c))) (Tr.done (V.d (D.int IntKind.i64 (1 : Int))) []) (Tr.need (okL eR (2 : Nat) gR x3_ (enc eR (Cmp.closed c))) (Tr.br (!List.all (dec (2 : Nat) gR x3_ (enc eR (Cmp.closed c))) Rng.days) (Tr.done (V.d (D.int IntKind.i64 (1 : Int))) []) (Tr.done (V.d (D.int IntKind.i64 (0 : Int))) []))))))))))))))))) := by kernel_rfl
theorem y52 (c : Cmp) : Yields Try.prog 52 [Cv c] (vi (faultM c)) := by
  refine q52.yieldsK X6_ok rfl rfl rfl (w52 c) ?_
  simp only [holds, dCe, dC_enc, okL_I, okL_T, okL_V, okL_R, dec_I, dec_T, dec_V, dec_R, true_and]
  repeat' (first | (refine And.intro ?_ ?_) | (refine fun (_ : _ = _) => ?_))
  all_goals grind [VLe.of_eq, faultM, vi, Cv]
end
end Go.Proofs.Ytdnefcjbcieecaa
namespace Go.Proofs.Ytdnefcjbcieecaa
open Go Go.Proofs
noncomputable section
theorem q99 : FunIs Try.prog 99 G99 c99 r99 := ⟨Try.f99, Try.func99, k99, e99, by kernel_rfl, by kernel_rfl⟩
theorem q82 : FunIs Try.prog 82 G82 c82 r82 := ⟨Try.f82, Try.func82, k82, e82, by kernel_rfl, by kernel_rfl⟩
theorem q50 : FunIs Try.prog 50 G50 c50 r50 := ⟨Try.f50, Try.func50, k50, e50, by kernel_rfl, by kernel_rfl⟩
theorem q81 : FunIs Try.prog 81 G81 c81 r81 := ⟨Try.f81, Try.func81, k81, e81, by kernel_rfl, by kernel_rfl⟩
theorem q49 : FunIs Try.prog 49 G49 c49 r49 := ⟨Try.f49, Try.func49, k49, e49, by kernel_rfl, by kernel_rfl⟩
def openB (cl : List Rng) (n : Int) : Bool := !(cl.any fun r => r.has n)
def regF (cl : List Rng) : Nat → Int → Int
  | 0, _ => -1
  | k + 1, n => if openB cl n = true then n else regF cl k (n + 1)
def regM (cl : List Rng) (n : Int) : Int := if 0 ≤ n then regF cl (12 - n).toNat n else -1
theorem regF_in (cl : List Rng) : ∀ (k : Nat) (n : Int), regF cl k n = -1 ∨ (n ≤ regF cl k n ∧ regF cl k n < n + k)
  | 0, n => .inl rfl
  | k + 1, n => by
    rw [regF]
    split
    · exact .inr ⟨Int.le_refl _, by omega⟩
    · rcases regF_in cl k (n + 1) with h | h
      · exact .inl h
      · exact .inr ⟨by omega, by omega⟩
theorem found_any {α : Type} [Inhabited α] {l : List α} {p : α → Bool} {H : Nat → Heap} {v : V} {h' : Heap} (hf : Found l.length (fun k => p (lat l (k : Nat))) H (fun _ => vb true) (vb false) v h') : v = .d (.bool (l.any p)) := by
  obtain ⟨m, hm, hA, ⟨h1, rfl, rfl⟩ | ⟨h1, h2, rfl, rfl⟩⟩ := hf
  · have : l.any p = false := by
      rw [List.any_eq_false]
      intro x hx
      obtain ⟨j, hj, rfl⟩ := List.getElem_of_mem hx
      have := hA j (by omega)
      simpa [lat, hj] using this
    rw [this]; rfl
  · have : l.any p = true := by
      rw [List.any_eq_true]
      exact ⟨lat l (m : Nat), by simp [lat, h1], h2⟩
    rw [this]; rfl
theorem w99 (r : Rng) (n : Int) : sx X3 c99 [] (doneK r99) (envOf [Rv r, .ptr 0 0 0]) [] [some (.box [vi n])] =
    Tr.need True (Tr.done (V.d (D.bool (Rng.has { lo := Rng.lo r, hi := Rng.hi r } n))) [some (Blk.box [V.d (D.int IntKind.i64 n)])]) := by kernel_rfl
theorem cl99 (r : Rng) (n : Int) : ACalls Try.prog 99 [Rv r, .ptr 0 0 0] [some (.box [vi n])] fun v h' => v = vb (r.has n) ∧ h' = [some (.box [vi n])] :=
  q99.calls X3_ok (h := [some (.box [vi n])]) rfl (w99 r n) (by simp only [holds]; exact ⟨trivial, rfl, rfl⟩)
theorem a98 (l : List Rng) (n : Int) (hl : l.length ≤ 140737488355328) : ACalls Try.prog 98 [vsl eR l, .fn (.func 99) [] [.ptr 0 0 0]] [some (.box [vi n])] fun v h' => v = vb (!(openB l n)) ∧ h' = [some (.box [vi n])] := by
  refine (i98 l 99 [] [.ptr 0 0 0] (fun _ => [some (.box [vi n])]) (fun k => Rng.has (lat l (k : Nat)) n) hl (fun _ => ⟨rfl, rfl⟩) rfl (fun k hk _ => cl99 _ _)).mono ?_
  intro v h' hf
  have := found_any (p := fun r : Rng => r.has n) hf
  obtain ⟨m, hm, hA, ⟨h1, h2, h3⟩ | ⟨h1, h2, h3, h4⟩⟩ := hf
  · exact ⟨by rw [this]; simp [openB, vb], h3⟩
  · exact ⟨by rw [this]; simp [openB, vb], h4⟩
def ent98 : Ent := fun args h => match args, h with
  | [.d (.sl false n cs), .fn (.func 99) [] [.ptr 0 0 0]], [some (.box [.d (.int .i64 m)])] => some (okL eR 2 gR n cs, vb (!(openB (dec 2 gR n cs) m)), none)
  | _, _ => none
theorem ent98_ok : EntOk Try.prog 98 ent98 := by
  intro args h p v h' he hp
  unfold ent98 at he
  split at he
  · cases he; rw [okL_vsl hp]; exact a98 _ _ (by rw [dec_len]; exact hp.2)
  · cases he
def tab7 : Spec := (spAdd 98 ent98 tab6)
theorem tab7_ok : SpOk Try.prog tab7 := (spAdd_ok ent98_ok tab6_ok)
def X7 : Sx := mkX tab7
theorem X7_ok : SpOk Try.prog X7.sp := tab7_ok
def E82 (c : Cmp) : Env := [(2, .rptr (Cds c) 0), (3, .ptr 0 0 0)]
theorem w82 (c : Cmp) (n : Int) : sx X7 c82 [] (doneK r82) (envOf [Cv c, vi n]) [] [] =
    Tr.lp (CCode.at c82 [(1 : Nat), (0 : Nat), (0 : Nat), (0 : Nat)]) [Fr.blk (0), Fr.seq (CCode.at c82 [(1 : Nat), (1 : Nat)])] [(2, V.rptr (Cds c) (0)), (3, V.ptr (0) (0) (0))] [some (Blk.box [V.d (D.int IntKind.i64 n)])] := by kernel_rfl
theorem b82 (c : Cmp) (n : Int) : sx X7 (CCode.at c82 [1,0,0,0]) [] leafK (E82 c) [] [some (.box [vi n])] =
    Tr.need True (Tr.br (isDay n) (Tr.need (okL eR (2 : Nat) gR (List.length (Cmp.closed c)) (enc eR (Cmp.closed c))) (Tr.br (!!openB (dec (2 : Nat) gR (List.length (Cmp.closed c)) (enc eR (Cmp.closed c))) n) (Tr.leaf CExit.ret [(4, V.d (D.int IntKind.i64 n))] [some (Blk.box [V.d (D.int IntKind.i64 n)])]) (Tr.need ((-9223372036854775808 : Int) ≤ n + (1 : Int) ∧ n + (1 : Int) ≤ (9223372036854775807 : Int)) (Tr.leaf CExit.normal [(2, V.rptr (Cds c) (0)), (3, V.ptr (0) (0) (0))] [some (Blk.box [V.d (D.int IntKind.i64 (n + (1 : Int)))])])))) (Tr.leaf (CExit.exit (0)) [(2, V.rptr (Cds c) (0)), (3, V.ptr (0) (0) (0)), (6, V.d (D.bool (isDay n)))] [some (Blk.box [V.d (D.int IntKind.i64 n)])])) := by kernel_rfl
theorem x82 (env : Env) (h : Heap) : sS X7 (doneK r82) [Fr.blk 0, Fr.seq (CCode.at c82 [1, 1])] (.exit 0) env [] h =
    Tr.done (V.d (D.int IntKind.i64 (-1 : Int))) h := by kernel_rfl
theorem t82 (n : Int) (h : Heap) : sS X7 (doneK r82) [Fr.blk 0, Fr.seq (CCode.at c82 [1, 1])] .ret [(4, vi n)] [] h =
    Tr.done (V.d (D.int IntKind.i64 n)) h := by kernel_rfl
theorem y82 (c : Cmp) (n : Int) (hl : c.closed.length ≤ 140737488355328) : Yields Try.prog 82 [Cv c, vi n] (vi (regM c.closed n)) := by
  refine q82.yieldsK X7_ok rfl rfl rfl (w82 c n) ?_
  simp only [holds]
  refine lp_count X7_ok (if 0 ≤ n then (12 - n).toNat else 0) (fun k => 0 ≤ n → regF c.closed (12 - n).toNat n = regF c.closed ((12 - n).toNat - k) (n + k)) (fun _ => E82 c) (fun k => [some (.box [vi (n + k)])])
    rfl (by simp; rfl) (by intro _; simp) (fun k _ => ⟨rfl, rfl, rfl⟩) ?_
  intro k hk hA Q' hn he hr
  rw [b82]
  simp only [holds, okL_R, dec_R, true_and, Bool.not_not]
  refine ⟨fun h1 => ⟨hl, fun h2 => ?_, fun h2 => ⟨?_, ?_⟩⟩, fun h1 => ?_⟩
  · refine hr _ _ (ret_tree X7_ok (doneK_ok rfl) (t82 _ _) ?_)
    simp only [holds]
    refine .of_eq (congrArg vi ?_)
    simp only [isDay, inR, decide_eq_true_eq] at h1
    by_cases h0 : 0 ≤ n
    · rw [if_pos h0] at hk
      rw [regM, if_pos h0, hA h0]
      have : (12 - n).toNat - k = ((12 - n).toNat - k - 1) + 1 := by omega
      rw [this, regF, if_pos h2]
    · rw [if_neg h0] at hk; omega
  · simp only [isDay, inR, decide_eq_true_eq] at h1; omega
  · simp only [isDay, inR, decide_eq_true_eq] at h1
    have h0 : 0 ≤ n := by
      by_cases h0 : 0 ≤ n
      · exact h0
      · rw [if_neg h0] at hk; omega
    rw [if_pos h0] at hk hn
    have := hn [] (by omega) (fun _ => by
      rw [hA h0]
      have : (12 - n).toNat - k = ((12 - n).toNat - (k + 1)) + 1 := by omega
      rw [this, regF, if_neg (by rw [h2]; decide)]
      congr 1
      omega)
    have e : n + ((k + 1 : Nat) : Int) = n + (k : Int) + 1 := by omega
    rw [e] at this
    exact this
  · refine he _ _ _ (ret_tree X7_ok (doneK_ok rfl) (x82 _ _) ?_)
    simp only [holds]
    refine .of_eq (congrArg vi ?_)
    simp only [isDay, inR, decide_eq_false_iff_not] at h1
    by_cases h0 : 0 ≤ n
    · rw [if_pos h0] at hk
      rw [regM, if_pos h0, hA h0]
      have : (12 - n).toNat - k = 0 := by omega
      rw [this, regF]
    · rw [regM, if_neg h0]
theorem w81 (c : Cmp) (n : Int) : sx X7 c81 [] (doneK r81) (envOf [Cv c, vi n]) [] [] =
    Tr.lp (CCode.at c81 [(1 : Nat), (0 : Nat), (1 : Nat), (0 : Nat), (0 : Nat)]) [Fr.blk (0), Fr.seq (CCode.at c81 [(1 : Nat), (1 : Nat)])] [(1, V.d (D.int IntKind.i64 n)), (2, V.rptr (Cds c) (0)), (5, V.d (D.int IntKind.i64 (0 : Int)))] [] := by kernel_rfl
def E81 (c : Cmp) (n : Int) (k : Nat) : Env := [(1, vi n), (2, .rptr (Cds c) 0), (5, vi k)]
theorem b81 (c : Cmp) (n : Int) (k : Nat) : sx X7 (CCode.at c81 [1,0,1,0,0]) [] leafK (E81 c n k) [] [] =
    Tr.br (decide (Int.ofNat k < Int.ofNat (List.length (Cmp.closed c)))) (Tr.need ((0 : Int) ≤ Int.ofNat k ∧ Int.ofNat k < Int.ofNat (List.length (Cmp.closed c)) ∧ okEl [0, 0] (enc eR (Cmp.closed c)) (2 : Nat) (Int.ofNat k)) (Tr.need ((0 : Int) ≤ Int.ofNat k ∧ Int.ofNat k < Int.ofNat (List.length (Cmp.closed c)) ∧ okEl [0, 0] (enc eR (Cmp.closed c)) (2 : Nat) (Int.ofNat k)) (Tr.need True (Tr.br (inR n (cI (enc eR (Cmp.closed c)) (2 : Nat) (Int.ofNat k) (0 : Nat)) (cI (enc eR (Cmp.closed c)) (2 : Nat) (Int.ofNat k) (1))) (Tr.leaf CExit.ret [(4, V.d (D.bool false))] []) (Tr.need ((-9223372036854775808 : Int) ≤ Int.ofNat k + (1 : Int) ∧ Int.ofNat k + (1 : Int) ≤ (9223372036854775807 : Int)) (Tr.leaf CExit.normal [(1, V.d (D.int IntKind.i64 n)), (2, V.rptr (Cds c) (0)), (5, V.d (D.int IntKind.i64 (Int.ofNat k + (1 : Int))))] [])))))) (Tr.leaf (CExit.exit (0)) [(1, V.d (D.int IntKind.i64 n)), (2, V.rptr (Cds c) (0)), (5, V.d (D.int IntKind.i64 (Int.ofNat k))), (10, V.d (D.bool (decide (Int.ofNat k < Int.ofNat (List.length (Cmp.closed c))))))] []) := by kernel_rfl
theorem x81 (env : Env) (h : Heap) : sS X7 (doneK r81) [Fr.blk 0, Fr.seq (CCode.at c81 [1, 1])] (.exit 0) env [] h =
    Tr.done (V.d (D.bool true)) h := by kernel_rfl
theorem t81 (b : Bool) (h : Heap) : sS X7 (doneK r81) [Fr.blk 0, Fr.seq (CCode.at c81 [1, 1])] .ret [(4, vb b)] [] h =
    Tr.done (V.d (D.bool b)) h := by kernel_rfl
theorem any_at {α : Type} [Inhabited α] {l : List α} {p : α → Bool} {k : Nat} (hk : k < l.length) (h : p (lat l (k : Nat)) = true) : l.any p = true := by
  rw [List.any_eq_true]; exact ⟨lat l (k : Nat), by simp [lat, hk], h⟩
theorem any_none {α : Type} [Inhabited α] {l : List α} {p : α → Bool} (h : ∀ j : Nat, j < l.length → p (lat l j) = false) : l.any p = false := by
  rw [List.any_eq_false]
  intro x hx
  obtain ⟨j, hj, rfl⟩ := List.getElem_of_mem hx
  have := h j hj
  simpa [lat, hj] using this
theorem y81 (c : Cmp) (n : Int) (hl : c.closed.length ≤ 140737488355328) : Yields Try.prog 81 [Cv c, vi n] (vb (openB c.closed n)) := by
  refine q81.yieldsK X7_ok rfl rfl rfl (w81 c n) ?_
  simp only [holds]
  refine lp_count X7_ok c.closed.length (fun k => ∀ j : Nat, j < k → (lat c.closed j).has n = false) (E81 c n) (fun _ => []) rfl rfl (fun j hj => by omega) (fun k _ => ⟨rfl, rfl, rfl⟩) ?_
  intro k hk hA Q' hn he hr
  rw [b81]
  simp only [holds, Int.ofNat_eq_natCast, cI_R0, cI_R1, true_and]
  refine ⟨fun h1 => ?_, fun h1 => ?_⟩
  · have hlt : k < c.closed.length := by have := of_decide_eq_true h1; omega
    refine ⟨⟨by omega, by omega, ok_R (by simpa using hlt)⟩, ⟨by omega, by omega, ok_R (by simpa using hlt)⟩, fun h2 => ?_, fun h2 => ⟨by omega, ?_⟩⟩
    · refine hr _ _ (ret_tree X7_ok (doneK_ok rfl) (t81 false _) ?_)
      simp only [holds]
      refine .of_eq (congrArg vb ?_)
      rw [openB, any_at hlt h2]; rfl
    · exact hn [] hlt (fun j hj => by
        rcases Nat.lt_or_ge j k with h | h
        · exact hA j h
        · have : j = k := by omega
          rw [this]; exact h2)
  · have hge : k = c.closed.length := by have := of_decide_eq_false h1; omega
    refine he _ _ _ (ret_tree X7_ok (doneK_ok rfl) (x81 _ _) ?_)
    simp only [holds]
    refine .of_eq (congrArg vb ?_)
    rw [openB, any_none (fun j hj => hA j (by omega))]; rfl
def entC (q : Cmp → Prop) (m : Cmp → V) : Ent := fun args h => match args with
  | [x] => match asC x with
    | some c => some (Cv c = x ∧ q c, m c, none)
    | none => none
  | _ => none
theorem entC_ok {P : Program} {f : Nat} {q : Cmp → Prop} {m : Cmp → V} (hy : ∀ c, q c → Yields P f [Cv c] (m c)) : EntOk P f (entC q m) := by
  intro args h p v h' he hp
  unfold entC at he
  split at he
  · split at he
    · cases he; rw [← hp.1]; exact hy _ hp.2 h
    · cases he
  · cases he
def entCI (q : Cmp → Int → Prop) (m : Cmp → Int → V) : Ent := fun args h => match args with
  | [x, .d (.int .i64 n)] => match asC x with
    | some c => some (Cv c = x ∧ q c n, m c n, none)
    | none => none
  | _ => none
theorem entCI_ok {P : Program} {f : Nat} {q : Cmp → Int → Prop} {m : Cmp → Int → V} (hy : ∀ c n, q c n → Yields P f [Cv c, vi n] (m c n)) : EntOk P f (entCI q m) := by
  intro args h p v h' he hp
  unfold entCI at he
  split at he
  · split at he
    · cases he; rw [← hp.1]; exact hy _ _ hp.2 h
    · cases he
  · cases he
def entCU (q : Cmp → Tru → Prop) (m : Cmp → Tru → V) : Ent := fun args _ => match args with
  | [x, y] => match asC x, asU y with
    | some c, some t => some (Cv c = x ∧ Uv t = y ∧ q c t, m c t, none)
    | _, _ => none
  | _ => none
theorem entCU_ok {P : Program} {f : Nat} {q : Cmp → Tru → Prop} {m : Cmp → Tru → V} (hy : ∀ c t, q c t → Yields P f [Cv c, Uv t] (m c t)) : EntOk P f (entCU q m) := by
  intro args h p v h' he hp
  unfold entCU at he
  split at he
  · split at he
    · cases he; rw [← hp.1, ← hp.2.1]; exact hy _ _ hp.2.2 h
    · cases he
  · cases he
def ent82 := entCI (fun c _ => c.closed.length ≤ 140737488355328) (fun c n => vi (regM c.closed n))
theorem ent82_ok : EntOk Try.prog 82 ent82 := entCI_ok fun c n => y82 c n
def ent81 := entCI (fun c _ => c.closed.length ≤ 140737488355328) (fun c n => vb (openB c.closed n))
theorem ent81_ok : EntOk Try.prog 81 ent81 := entCI_ok fun c n => y81 c n
def ent52 := entC (fun _ => True) (fun c => vi (faultM c))
theorem ent52_ok : EntOk Try.prog 52 ent52 := entC_ok fun c _ => y52 c
def tab8 : Spec := (spAdd 52 ent52 (spAdd 81 ent81 (spAdd 82 ent82 tab7)))
theorem tab8_ok : SpOk Try.prog tab8 := (spAdd_ok ent52_ok (spAdd_ok ent81_ok (spAdd_ok ent82_ok tab7_ok)))
def X8 : Sx := mkX tab8
theorem X8_ok : SpOk Try.prog X8.sp := tab8_ok
theorem w49 (c : Cmp) (n : Int) : sx X8 c49 [] (doneK r49) (envOf [Cv c, vi n]) [] [] =
    Tr.lp (CCode.at c49 [(1 : Nat), (0 : Nat), (1 : Nat), (0 : Nat), (0 : Nat)]) [Fr.blk (0), Fr.seq (CCode.at c49 [(1 : Nat), (1 : Nat)])] [(2, V.rptr (Cds c) (0)), (5, V.d (D.int IntKind.i64 n))] [] := by kernel_rfl
def E49 (c : Cmp) (n : Int) : Env := [(2, .rptr (Cds c) 0), (5, vi n)]
theorem b49 (c : Cmp) (n : Int) : sx X8 (CCode.at c49 [1,0,1,0,0]) [] leafK (E49 c n) [] [] =
    Tr.br (decide (n ≤ (11 : Int))) (Tr.need (Cv (dCe c) = Cv c ∧ List.length (Cmp.closed (dCe c)) ≤ (140737488355328 : Nat)) (Tr.br (openB (Cmp.closed (dCe c)) n) (Tr.leaf CExit.ret [(4, V.d (D.int IntKind.i64 n))] []) (Tr.need ((-9223372036854775808 : Int) ≤ n + (1 : Int) ∧ n + (1 : Int) ≤ (9223372036854775807 : Int)) (Tr.leaf CExit.normal [(2, V.rptr (Cds c) (0)), (5, V.d (D.int IntKind.i64 (n + (1 : Int))))] [])))) (Tr.leaf (CExit.exit (0)) [(2, V.rptr (Cds c) (0)), (5, V.d (D.int IntKind.i64 n)), (8, V.d (D.bool (decide (n ≤ (11 : Int)))))] []) := by kernel_rfl
theorem x49 (env : Env) (h : Heap) : sS X8 (doneK r49) [Fr.blk 0, Fr.seq (CCode.at c49 [1, 1])] (.exit 0) env [] h =
    Tr.done (V.d (D.int IntKind.i64 (-1 : Int))) h := by kernel_rfl
theorem t49 (n : Int) (h : Heap) : sS X8 (doneK r49) [Fr.blk 0, Fr.seq (CCode.at c49 [1, 1])] .ret [(4, vi n)] [] h =
    Tr.done (V.d (D.int IntKind.i64 n)) h := by kernel_rfl
def regR (cl : List Rng) (n : Int) : Int := regF cl (12 - n).toNat n
theorem y49 (c : Cmp) (n : Int) (h0 : -9223372036854775808 ≤ n) (hl : c.closed.length ≤ 140737488355328) : Yields Try.prog 49 [Cv c, vi n] (vi (regR c.closed n)) := by
  refine q49.yieldsK X8_ok rfl rfl rfl (w49 c n) ?_
  simp only [holds]
  refine lp_count X8_ok (12 - n).toNat (fun k => regF c.closed (12 - n).toNat n = regF c.closed ((12 - n).toNat - k) (n + k)) (fun k => E49 c (n + k)) (fun k => [])
    (by simp; rfl) rfl (by simp) (fun k _ => ⟨rfl, rfl, rfl⟩) ?_
  intro k hk hA Q' hn he hr
  rw [b49]
  simp only [holds, dCe, dC_enc, true_and]
  refine ⟨fun h1 => ⟨hl, fun h2 => ?_, fun h2 => ⟨?_, ?_⟩⟩, fun h1 => ?_⟩
  · refine hr _ _ (ret_tree X8_ok (doneK_ok rfl) (t49 _ _) ?_)
    simp only [holds]
    refine .of_eq (congrArg vi ?_)
    have h1 := of_decide_eq_true h1
    have : (12 - n).toNat - k = ((12 - n).toNat - k - 1) + 1 := by omega
    rw [regR, hA, this, regF, if_pos h2]
  · have h1 := of_decide_eq_true h1; omega
  · have h1 := of_decide_eq_true h1
    have := hn [] (by omega) (by
      rw [hA]
      have : (12 - n).toNat - k = ((12 - n).toNat - (k + 1)) + 1 := by omega
      rw [this, regF, if_neg (by rw [h2]; decide)]
      congr 1
      omega)
    have e : n + ((k + 1 : Nat) : Int) = n + (k : Int) + 1 := by omega
    rw [e] at this
    exact this
  · refine he _ _ _ (ret_tree X8_ok (doneK_ok rfl) (x49 _ _) ?_)
    simp only [holds]
    refine .of_eq (congrArg vi ?_)
    have h1 := of_decide_eq_false h1
    have : (12 - n).toNat - k = 0 := by omega
    rw [regR, hA, this, regF]
def regN (c : Cmp) (n : Int) : Int := if faultM c = 0 ∧ isDay n = true then regM c.closed n else 0
def regE (c : Cmp) (n : Int) : Int := if faultM c ≠ 0 then faultM c else if isDay n = true then 0 else 2
theorem fault_ok {c : Cmp} (h : faultM c = 0) : (1 ≤ c.houses ∧ c.houses ≤ 4 ∧ (c.held.length : Int) = c.houses ∧ c.trades.length ≤ 4 ∧ c.divs.length ≤ 3 ∧ c.splits.length ≤ 2 ∧ c.closed.length ≤ 2) ∧
    c.held.all (Rng.has ⟨0, 100⟩) = true ∧ c.trades.all (okTr c.houses) = true ∧ c.divs.all okDv = true ∧ okSs (-1) c.splits = true ∧ c.closed.all Rng.days = true := by
  unfold faultM at h
  split at h
  · cases h
  · rename_i h1
    split at h
    · rename_i h2
      exact ⟨by omega, h2.2.2⟩
    · cases h
theorem w50 (c : Cmp) (n : Int) : sx X8 c50 [] (doneF 0 r50) (envOf [Cv c, vi n]) [] [] =
    Tr.need (Cv (dCe c) = Cv c ∧ True) (Tr.br (faultM (dCe c) != (0 : Int)) (Tr.done (V.tup [V.d (D.int IntKind.i64 (0 : Int)), V.d (D.int IntKind.i64 (faultM (dCe c)))]) []) (Tr.need True (Tr.br (!isDay n) (Tr.done (V.tup [V.d (D.int IntKind.i64 (0 : Int)), V.d (D.int IntKind.i64 (2 : Int))]) []) (Tr.need (Cv (dCe c) = Cv c ∧ List.length (Cmp.closed (dCe c)) ≤ (140737488355328 : Nat)) (Tr.done (V.tup [V.d (D.int IntKind.i64 (regM (Cmp.closed (dCe c)) n)), V.d (D.int IntKind.i64 (0 : Int))]) []))))) := by kernel_rfl
theorem y50 (c : Cmp) (n : Int) : Yields Try.prog 50 [Cv c, vi n] (V.tup [vi (regN c n), vi (regE c n)]) := by
  refine q50.yields X8_ok rfl rfl rfl (w50 c n) ?_
  simp only [holds]
  simp only [dCe, dC_enc, true_and]
  repeat' (first | (refine And.intro ?_ ?_) | (refine fun (_ : _ = _) => ?_))
  all_goals (have hf := @fault_ok c; grind [VLe.of_eq, regN, regE, vi])
end
end Go.Proofs.Ytdnefcjbcieecaa
namespace Go.Proofs.Ytdnefcjbcieecaa
open Go Go.Proofs
noncomputable section
theorem q69 : FunIs Try.prog 69 G69 c69 r69 := ⟨Try.f69, Try.func69, k69, e69, by kernel_rfl, by kernel_rfl⟩
theorem q34 : FunIs Try.prog 34 G34 c34 r34 := ⟨Try.f34, Try.func34, k34, e34, by kernel_rfl, by kernel_rfl⟩
theorem q56 : FunIs Try.prog 56 G56 c56 r56 := ⟨Try.f56, Try.func56, k56, e56, by kernel_rfl, by kernel_rfl⟩
theorem q20 : FunIs Try.prog 20 G20 c20 r20 := ⟨Try.f20, Try.func20, k20, e20, by kernel_rfl, by kernel_rfl⟩
def ent49 := entCI (fun c n => -9223372036854775808 ≤ n ∧ c.closed.length ≤ 140737488355328) (fun c n => vi (regR c.closed n))
theorem ent49_ok : EntOk Try.prog 49 ent49 := entCI_ok fun c n h => y49 c n h.1 h.2
def ent50 := entCI (fun _ _ => True) (fun c n => .tup [vi (regN c n), vi (regE c n)])
theorem ent50_ok : EntOk Try.prog 50 ent50 := entCI_ok fun c n _ => y50 c n
def tab9 : Spec := (spAdd 50 ent50 (spAdd 49 ent49 tab8))
theorem tab9_ok : SpOk Try.prog tab9 := (spAdd_ok ent50_ok (spAdd_ok ent49_ok tab8_ok))
def X9 : Sx := mkX tab9
theorem X9_ok : SpOk Try.prog X9.sp := tab9_ok
theorem all_false {α : Type} [Inhabited α] {l : List α} {p : α → Bool} {k : Nat} (hk : k < l.length) (h : p (lat l (k : Nat)) = false) : l.all p = false := by
  rw [List.all_eq_false]; exact ⟨lat l (k : Nat), by simp [lat, hk], by rw [h]; decide⟩
theorem all_true {α : Type} [Inhabited α] {l : List α} {p : α → Bool} (h : ∀ j : Nat, j < l.length → p (lat l j) = true) : l.all p = true := by
  rw [List.all_eq_true]
  intro x hx
  obtain ⟨j, hj, rfl⟩ := List.getElem_of_mem hx
  have := h j hj
  simpa [lat, hj] using this
theorem step_all {k : Nat} {A : Nat → Prop} (hA : ∀ j, j < k → A j) (h : A k) : ∀ j, j < k + 1 → A j := fun j hj => by
  rcases Nat.lt_or_ge j k with h1 | h1
  · exact hA j h1
  · have : j = k := by omega
    rw [this]; exact h
abbrev Q69 (n : Int) : CExit → Env → Heap → Prop := retQ r69 fun v _ => VLe v (vi n)
theorem w69 (c : Cmp) : sx X9 c69 [] (doneK r69) (envOf [Cv c]) [] [] =
    Tr.br (decide ((4 : Int) < Cmp.houses c)) (Tr.done (V.d (D.int IntKind.i64 (3 : Int))) []) (Tr.br (decide ((4 : Int) < Int.ofNat (List.length (Cmp.trades c)))) (Tr.done (V.d (D.int IntKind.i64 (3 : Int))) []) (Tr.br (decide ((3 : Int) < Int.ofNat (List.length (Cmp.divs c)))) (Tr.done (V.d (D.int IntKind.i64 (3 : Int))) []) (Tr.br (decide ((2 : Int) < Int.ofNat (List.length (Cmp.splits c)))) (Tr.done (V.d (D.int IntKind.i64 (3 : Int))) []) (Tr.br (decide ((2 : Int) < Int.ofNat (List.length (Cmp.closed c)))) (Tr.done (V.d (D.int IntKind.i64 (3 : Int))) []) (Tr.br (decide (Cmp.houses c < (1 : Int))) (Tr.done (V.d (D.int IntKind.i64 (1 : Int))) []) (Tr.br (Int.ofNat (List.length (Cmp.held c)) != Cmp.houses c) (Tr.done (V.d (D.int IntKind.i64 (1 : Int))) []) (Tr.lp (CCode.at c69 [(1 : Nat), (1 : Nat), (1 : Nat), (0 : Nat), (1 : Nat), (0 : Nat), (0 : Nat)]) [Fr.blk (0), Fr.seq (CCode.at c69 [(1 : Nat), (1 : Nat), (1 : Nat), (1 : Nat)])] [(1, V.rptr (Cds c) (0)), (3, V.d (D.int IntKind.i64 (0 : Int)))] []))))))) := by kernel_rfl
theorem b69a (c : Cmp) (k : Nat) : sx X9 (CCode.at c69 [1,1,1,0,1,0,0]) [] (bodyK r69) [(1, .rptr (Cds c) 0), (3, vi k)] [] [] =
    Tr.br (decide (Int.ofNat k < Cmp.houses c)) (Tr.need ((0 : Int) ≤ Int.ofNat k ∧ Int.ofNat k < Int.ofNat (List.length (Cmp.held c)) ∧ okEl [0] (enc eI (Cmp.held c)) (1 : Nat) (Int.ofNat k)) (Tr.need True (Tr.br (!inR (cI (enc eI (Cmp.held c)) (1 : Nat) (Int.ofNat k) (0 : Nat)) (0 : Int) (100 : Int)) (Tr.done (V.d (D.int IntKind.i64 (1 : Int))) []) (Tr.need ((-9223372036854775808 : Int) ≤ Int.ofNat k + (1 : Int) ∧ Int.ofNat k + (1 : Int) ≤ (9223372036854775807 : Int)) (Tr.leaf CExit.normal [(1, V.rptr (Cds c) (0)), (3, V.d (D.int IntKind.i64 (Int.ofNat k + (1 : Int))))] []))))) (Tr.leaf (CExit.exit (0)) [(1, V.rptr (Cds c) (0)), (3, V.d (D.int IntKind.i64 (Int.ofNat k))), (53, V.d (D.bool (decide (Int.ofNat k < Cmp.houses c))))] []) := by kernel_rfl
theorem x69a (c : Cmp) (v w : V) : sS X9 (doneK r69) [Fr.blk 0, Fr.seq (CCode.at c69 [1,1,1,1])] (.exit 0) [(1, .rptr (Cds c) 0), (3, v), (53, w)] [] [] =
    Tr.lp (CCode.at c69 [(1 : Nat), (1 : Nat), (1 : Nat), (1 : Nat), (0 : Nat), (1 : Nat), (0 : Nat), (0 : Nat)]) [Fr.blk (2), Fr.seq (CCode.at c69 [(1 : Nat), (1 : Nat), (1 : Nat), (1 : Nat), (1 : Nat)])] [(1, V.rptr (Cds c) (0)), (4, V.d (D.int IntKind.i64 (0 : Int)))] [] := by kernel_rfl
theorem b69b (c : Cmp) (k : Nat) : sx X9 (CCode.at c69 [1,1,1,1,0,1,0,0]) [] (bodyK r69) [(1, .rptr (Cds c) 0), (4, vi k)] [] [] =
    let x1_ := (List.length (Cmp.trades c))
    let x2_ := (decide (Int.ofNat k < Int.ofNat x1_))
    let x3_ := ((-9223372036854775808 : Int) ≤ Cmp.houses c - (1 : Int) ∧ Cmp.houses c - (1 : Int) ≤ (9223372036854775807 : Int))
    let x4_ := (cI (enc eT (Cmp.trades c)) (7 : Nat) (Int.ofNat k) (0 : Nat))
    let x5_ := (Cmp.houses c - (1 : Int))
    let x6_ := (cI (enc eT (Cmp.trades c)) (7 : Nat) (Int.ofNat k) (1))
    let x7_ := (cI (enc eT (Cmp.trades c)) (7 : Nat) (Int.ofNat k) (2))
    Tr.br x2_ (Tr.need ((0 : Int) ≤ Int.ofNat k ∧ Int.ofNat k < Int.ofNat x1_ ∧ okEl [0, 0, 0, 0, 0, 0, 0] (enc eT (Cmp.trades c)) (7 : Nat) (Int.ofNat k)) (Tr.need x3_ (Tr.need True (Tr.br (!inR x4_ (0 : Int) x5_) (Tr.done (V.d (D.int IntKind.i64 (1 : Int))) []) (Tr.need x3_ (Tr.need True (Tr.br (!inR x6_ (0 : Int) x5_) (Tr.done (V.d (D.int IntKind.i64 (1 : Int))) []) (Tr.br (cI (enc eT (Cmp.trades c)) (7 : Nat) (Int.ofNat k) (0 : Nat) == cI (enc eT (Cmp.trades c)) (7 : Nat) (Int.ofNat k) (1)) (Tr.done (V.d (D.int IntKind.i64 (1 : Int))) []) (Tr.need True (Tr.br (!inR x7_ (1 : Int) (100 : Int)) (Tr.done (V.d (D.int IntKind.i64 (1 : Int))) []) (Tr.need True (Tr.br (!Rng.days { lo := cI (enc eT (Cmp.trades c)) (7 : Nat) (Int.ofNat k) (3), hi := cI (enc eT (Cmp.trades c)) (7 : Nat) (Int.ofNat k) (4) }) (Tr.done (V.d (D.int IntKind.i64 (1 : Int))) []) (Tr.need True (Tr.br (!Rng.days { lo := cI (enc eT (Cmp.trades c)) (7 : Nat) (Int.ofNat k) (5), hi := cI (enc eT (Cmp.trades c)) (7 : Nat) (Int.ofNat k) (6) }) (Tr.done (V.d (D.int IntKind.i64 (1 : Int))) []) (Tr.need ((-9223372036854775808 : Int) ≤ cI (enc eT (Cmp.trades c)) (7 : Nat) (Int.ofNat k) (4) - cI (enc eT (Cmp.trades c)) (7 : Nat) (Int.ofNat k) (3) ∧ cI (enc eT (Cmp.trades c)) (7 : Nat) (Int.ofNat k) (4) - cI (enc eT (Cmp.trades c)) (7 : Nat) (Int.ofNat k) (3) ≤ (9223372036854775807 : Int)) (Tr.br (decide ((2 : Int) < cI (enc eT (Cmp.trades c)) (7 : Nat) (Int.ofNat k) (4) - cI (enc eT (Cmp.trades c)) (7 : Nat) (Int.ofNat k) (3))) (Tr.done (V.d (D.int IntKind.i64 (1 : Int))) []) (Tr.need ((-9223372036854775808 : Int) ≤ cI (enc eT (Cmp.trades c)) (7 : Nat) (Int.ofNat k) (6) - cI (enc eT (Cmp.trades c)) (7 : Nat) (Int.ofNat k) (5) ∧ cI (enc eT (Cmp.trades c)) (7 : Nat) (Int.ofNat k) (6) - cI (enc eT (Cmp.trades c)) (7 : Nat) (Int.ofNat k) (5) ≤ (9223372036854775807 : Int)) (Tr.br (decide ((2 : Int) < cI (enc eT (Cmp.trades c)) (7 : Nat) (Int.ofNat k) (6) - cI (enc eT (Cmp.trades c)) (7 : Nat) (Int.ofNat k) (5))) (Tr.done (V.d (D.int IntKind.i64 (1 : Int))) []) (Tr.need ((-9223372036854775808 : Int) ≤ Int.ofNat k + (1 : Int) ∧ Int.ofNat k + (1 : Int) ≤ (9223372036854775807 : Int)) (Tr.leaf CExit.normal [(1, V.rptr (Cds c) (0)), (4, V.d (D.int IntKind.i64 (Int.ofNat k + (1 : Int))))] [some (Blk.box [V.d (D.int IntKind.i64 x4_), V.d (D.int IntKind.i64 x6_), V.d (D.int IntKind.i64 x7_), V.d (D.int IntKind.i64 (cI (enc eT (Cmp.trades c)) (7 : Nat) (Int.ofNat k) (3))), V.d (D.int IntKind.i64 (cI (enc eT (Cmp.trades c)) (7 : Nat) (Int.ofNat k) (4))), V.d (D.int IntKind.i64 (cI (enc eT (Cmp.trades c)) (7 : Nat) (Int.ofNat k) (5))), V.d (D.int IntKind.i64 (cI (enc eT (Cmp.trades c)) (7 : Nat) (Int.ofNat k) (6)))])])))))))))))))))))))) (Tr.leaf (CExit.exit (2)) [(1, V.rptr (Cds c) (0)), (4, V.d (D.int IntKind.i64 (Int.ofNat k))), (67, V.d (D.bool x2_))] []) := by kernel_rfl
theorem x69b (c : Cmp) (v w : V) : sS X9 (doneK r69) [Fr.blk 2, Fr.seq (CCode.at c69 [1,1,1,1,1])] (.exit 2) [(1, .rptr (Cds c) 0), (4, v), (67, w)] [] [] =
    Tr.lp (CCode.at c69 [(1 : Nat), (1 : Nat), (1 : Nat), (1 : Nat), (1 : Nat), (0 : Nat), (1 : Nat), (0 : Nat), (0 : Nat)]) [Fr.blk (4), Fr.seq (CCode.at c69 [(1 : Nat), (1 : Nat), (1 : Nat), (1 : Nat), (1 : Nat), (1 : Nat)])] [(1, V.rptr (Cds c) (0)), (6, V.d (D.int IntKind.i64 (0 : Int)))] [] := by kernel_rfl
theorem b69c (c : Cmp) (k : Nat) : sx X9 (CCode.at c69 [1,1,1,1,1,0,1,0,0]) [] (bodyK r69) [(1, .rptr (Cds c) 0), (6, vi k)] [] [] =
    Tr.br (decide (Int.ofNat k < Int.ofNat (List.length (Cmp.divs c)))) (Tr.need ((0 : Int) ≤ Int.ofNat k ∧ Int.ofNat k < Int.ofNat (List.length (Cmp.divs c)) ∧ okEl [0, 0, 0] (enc eV (Cmp.divs c)) (3 : Nat) (Int.ofNat k)) (Tr.need True (Tr.br (!Rng.days { lo := cI (enc eV (Cmp.divs c)) (3 : Nat) (Int.ofNat k) (0 : Nat), hi := cI (enc eV (Cmp.divs c)) (3 : Nat) (Int.ofNat k) (1) }) (Tr.done (V.d (D.int IntKind.i64 (1 : Int))) []) (Tr.need True (Tr.br (!inR (cI (enc eV (Cmp.divs c)) (3 : Nat) (Int.ofNat k) (2)) (0 : Int) (50 : Int)) (Tr.done (V.d (D.int IntKind.i64 (1 : Int))) []) (Tr.need ((-9223372036854775808 : Int) ≤ Int.ofNat k + (1 : Int) ∧ Int.ofNat k + (1 : Int) ≤ (9223372036854775807 : Int)) (Tr.leaf CExit.normal [(1, V.rptr (Cds c) (0)), (6, V.d (D.int IntKind.i64 (Int.ofNat k + (1 : Int))))] [some (Blk.box [V.d (D.int IntKind.i64 (cI (enc eV (Cmp.divs c)) (3 : Nat) (Int.ofNat k) (0 : Nat))), V.d (D.int IntKind.i64 (cI (enc eV (Cmp.divs c)) (3 : Nat) (Int.ofNat k) (1))), V.d (D.int IntKind.i64 (cI (enc eV (Cmp.divs c)) (3 : Nat) (Int.ofNat k) (2)))])]))))))) (Tr.leaf (CExit.exit (4)) [(1, V.rptr (Cds c) (0)), (6, V.d (D.int IntKind.i64 (Int.ofNat k))), (140, V.d (D.bool (decide (Int.ofNat k < Int.ofNat (List.length (Cmp.divs c))))))] []) := by kernel_rfl
theorem x69c (c : Cmp) (v w : V) : sS X9 (doneK r69) [Fr.blk 4, Fr.seq (CCode.at c69 [1,1,1,1,1,1])] (.exit 4) [(1, .rptr (Cds c) 0), (6, v), (140, w)] [] [] =
    Tr.lp (CCode.at c69 [(1 : Nat), (1 : Nat), (1 : Nat), (1 : Nat), (1 : Nat), (1 : Nat), (1 : Nat), (0 : Nat), (1 : Nat), (0 : Nat), (0 : Nat)]) [Fr.blk (6), Fr.seq (CCode.at c69 [(1 : Nat), (1 : Nat), (1 : Nat), (1 : Nat), (1 : Nat), (1 : Nat), (1 : Nat), (1 : Nat)])] [(1, V.rptr (Cds c) (0)), (8, V.d (D.int IntKind.i64 (-1 : Int))), (9, V.d (D.int IntKind.i64 (0 : Int)))] [] := by kernel_rfl
theorem b69d (c : Cmp) (last : Int) (k : Nat) : sx X9 (CCode.at c69 [1,1,1,1,1,1,1,0,1,0,0]) [] (bodyK r69) [(1, .rptr (Cds c) 0), (8, vi last), (9, vi k)] [] [] =
    let x1_ := (List.length (Cmp.splits c))
    let x2_ := (decide (Int.ofNat k < Int.ofNat x1_))
    let x3_ := (cI (enc eS (Cmp.splits c)) (3 : Nat) (Int.ofNat k) (0 : Nat))
    let x4_ := (cI (enc eS (Cmp.splits c)) (3 : Nat) (Int.ofNat k) (1))
    let x5_ := (cI (enc eS (Cmp.splits c)) (3 : Nat) (Int.ofNat k) (2))
    Tr.br x2_ (Tr.need ((0 : Int) ≤ Int.ofNat k ∧ Int.ofNat k < Int.ofNat x1_ ∧ okEl [0, 0, 0] (enc eS (Cmp.splits c)) (3 : Nat) (Int.ofNat k)) (Tr.need ((-9223372036854775808 : Int) ≤ last + (1 : Int) ∧ last + (1 : Int) ≤ (9223372036854775807 : Int)) (Tr.need True (Tr.br (!inR x3_ (last + (1 : Int)) (11 : Int)) (Tr.done (V.d (D.int IntKind.i64 (1 : Int))) []) (Tr.need True (Tr.br (!inR x4_ (1 : Int) (6 : Int)) (Tr.done (V.d (D.int IntKind.i64 (1 : Int))) []) (Tr.need True (Tr.br (!inR x5_ (1 : Int) (4 : Int)) (Tr.done (V.d (D.int IntKind.i64 (1 : Int))) []) (Tr.need ((-9223372036854775808 : Int) ≤ Int.ofNat k + (1 : Int) ∧ Int.ofNat k + (1 : Int) ≤ (9223372036854775807 : Int)) (Tr.leaf CExit.normal [(1, V.rptr (Cds c) (0)), (8, V.d (D.int IntKind.i64 x3_)), (9, V.d (D.int IntKind.i64 (Int.ofNat k + (1 : Int))))] [some (Blk.box [V.d (D.int IntKind.i64 x3_), V.d (D.int IntKind.i64 x4_), V.d (D.int IntKind.i64 x5_)])])))))))))) (Tr.leaf (CExit.exit (6)) [(1, V.rptr (Cds c) (0)), (8, V.d (D.int IntKind.i64 last)), (9, V.d (D.int IntKind.i64 (Int.ofNat k))), (165, V.d (D.bool x2_))] []) := by kernel_rfl
theorem x69d (c : Cmp) (u v w : V) : sS X9 (doneK r69) [Fr.blk 6, Fr.seq (CCode.at c69 [1,1,1,1,1,1,1,1])] (.exit 6) [(1, .rptr (Cds c) 0), (8, u), (9, v), (165, w)] [] [] =
    Tr.lp (CCode.at c69 [(1 : Nat), (1 : Nat), (1 : Nat), (1 : Nat), (1 : Nat), (1 : Nat), (1 : Nat), (1 : Nat), (0 : Nat), (1 : Nat), (0 : Nat), (0 : Nat)]) [Fr.blk (8), Fr.seq (CCode.at c69 [(1 : Nat), (1 : Nat), (1 : Nat), (1 : Nat), (1 : Nat), (1 : Nat), (1 : Nat), (1 : Nat), (1 : Nat)])] [(1, V.rptr (Cds c) (0)), (11, V.d (D.int IntKind.i64 (0 : Int)))] [] := by kernel_rfl
theorem b69e (c : Cmp) (k : Nat) : sx X9 (CCode.at c69 [1,1,1,1,1,1,1,1,0,1,0,0]) [] (bodyK r69) [(1, .rptr (Cds c) 0), (11, vi k)] [] [] =
    Tr.br (decide (Int.ofNat k < Int.ofNat (List.length (Cmp.closed c)))) (Tr.need ((0 : Int) ≤ Int.ofNat k ∧ Int.ofNat k < Int.ofNat (List.length (Cmp.closed c)) ∧ okEl [0, 0] (enc eR (Cmp.closed c)) (2 : Nat) (Int.ofNat k)) (Tr.need True (Tr.br (!Rng.days { lo := cI (enc eR (Cmp.closed c)) (2 : Nat) (Int.ofNat k) (0 : Nat), hi := cI (enc eR (Cmp.closed c)) (2 : Nat) (Int.ofNat k) (1) }) (Tr.done (V.d (D.int IntKind.i64 (1 : Int))) []) (Tr.need ((-9223372036854775808 : Int) ≤ Int.ofNat k + (1 : Int) ∧ Int.ofNat k + (1 : Int) ≤ (9223372036854775807 : Int)) (Tr.leaf CExit.normal [(1, V.rptr (Cds c) (0)), (11, V.d (D.int IntKind.i64 (Int.ofNat k + (1 : Int))))] []))))) (Tr.leaf (CExit.exit (8)) [(1, V.rptr (Cds c) (0)), (11, V.d (D.int IntKind.i64 (Int.ofNat k))), (197, V.d (D.bool (decide (Int.ofNat k < Int.ofNat (List.length (Cmp.closed c))))))] []) := by kernel_rfl
theorem x69e (c : Cmp) (v w : V) : sS X9 (doneK r69) [Fr.blk 8, Fr.seq (CCode.at c69 [1,1,1,1,1,1,1,1,1])] (.exit 8) [(1, .rptr (Cds c) 0), (11, v), (197, w)] [] [] =
    Tr.done (V.d (D.int IntKind.i64 (0 : Int))) [] := by kernel_rfl
theorem l69e (c : Cmp) (n : Int) (hl : c.closed.length ≤ 7) (hf : c.closed.all (Rng.days) = false → n = 1)
    (hx : c.closed.all (Rng.days) = true → n = 0) :
    lpS Try.prog G69 0 (CCode.at c69 [1, 1, 1, 1, 1, 1, 1, 1, 0, 1, 0, 0]) [Fr.blk 8, Fr.seq (CCode.at c69 [1, 1, 1, 1, 1, 1, 1, 1, 1])] (Q69 n) [(1, .rptr (Cds c) 0), (11, vi 0)] [] := by
  refine lp_countK X9_ok rfl (c.closed.length) (fun k => ∀ j : Nat, j < k → (Rng.days) (lat c.closed j) = true) (fun k => [(1, .rptr (Cds c) 0), (11, vi k)]) (fun _ => []) rfl rfl (fun j hj => by omega) (fun k _ => ⟨rfl, rfl, rfl⟩) ?_
  intro k hk hA Q' hn he
  rw [b69e]
  simp only [holds, Int.ofNat_eq_natCast, cI_R0, cI_R1, true_and]
  refine ⟨fun h1 => ?_, fun h1 => ?_⟩
  · have hlt : k < c.closed.length := by have := of_decide_eq_true h1; omega
    have hf1 : (Rng.days) (lat c.closed (k : Nat)) = false → VLe (V.d (.int .i64 1)) (vi n) := fun h => .of_eq (congrArg vi (hf (all_false hlt h)).symm)
    have hn1 : (Rng.days) (lat c.closed (k : Nat)) = true → ∀ J, Q' .normal [(1, .rptr (Cds c) 0), (11, vi (k + 1 : Nat))] ([] ++ J) := fun h J => hn J hlt (step_all hA h)
    repeat' (first | (refine And.intro ?_ ?_) | (refine fun (_ : _ = _) => ?_))
    all_goals first
      | omega
      | exact ok_R (by simpa using hlt)
      | exact hf1 (by grind [Rng.days])
      | exact hn1 (by grind [Rng.days]) _
      | grind [Rng.days]
  · have hge : k = c.closed.length := by have := of_decide_eq_false h1; omega
    refine he _ _ _ (ret_tree X9_ok (doneK_ok rfl) (x69e _ _ _) ?_)
    simp only [holds]
    exact .of_eq (congrArg vi (hx (all_true fun j hj => hA j (by omega))).symm)
theorem l69d (c : Cmp) (n : Int) (hl : c.splits.length ≤ 7) (hf : okSs (-1) c.splits = false → n = 1) (hx : okSs (-1) c.splits = true → lpS Try.prog G69 0 (CCode.at c69 [1, 1, 1, 1, 1, 1, 1, 1, 0, 1, 0, 0]) [Fr.blk 8, Fr.seq (CCode.at c69 [1, 1, 1, 1, 1, 1, 1, 1, 1])] (Q69 n) [(1, .rptr (Cds c) 0), (11, vi 0)] []) : lpS Try.prog G69 0 (CCode.at c69 [1, 1, 1, 1, 1, 1, 1, 0, 1, 0, 0]) [Fr.blk 6, Fr.seq (CCode.at c69 [1, 1, 1, 1, 1, 1, 1, 1])] (Q69 n) [(1, .rptr (Cds c) 0), (8, vi (-1)), (9, vi 0)] [] := by
  refine lp_countK X9_ok rfl (c.splits.length) (fun k => ∀ j : Nat, j < k → okSp (lastAt c.splits j) (lat c.splits j) = true) (fun k => [(1, .rptr (Cds c) 0), (8, vi (lastAt c.splits k)), (9, vi k)]) (fun _ => []) (by rw [lastAt, if_pos rfl]; rfl) rfl (fun j hj => by omega) (fun k _ => ⟨rfl, rfl, rfl⟩) ?_
  intro k hk hA Q' hn he
  rw [b69d]
  simp only [holds, Int.ofNat_eq_natCast, cI_S0, cI_S1, cI_S2, true_and]
  have hb := lastAt_in c.splits k fun j hj => by rw [hA j hj]; rfl
  refine ⟨fun h1 => ?_, fun h1 => ?_⟩
  · have hlt : k < c.splits.length := by have := of_decide_eq_true h1; omega
    have hf1 : okSp (lastAt c.splits k) (lat c.splits (k : Nat)) = false → VLe (V.d (.int .i64 1)) (vi n) := fun h => .of_eq (congrArg vi (hf (by
      cases hs : okSs (-1) c.splits with
      | false => rfl
      | true =>
        have := (okSs_iff _ _).1 hs k hlt
        simp only [lastAt] at h
        rw [h] at this; cases this)).symm)
    have hn1 : okSp (lastAt c.splits k) (lat c.splits (k : Nat)) = true → ∀ J, Q' .normal [(1, .rptr (Cds c) 0), (8, vi (lat c.splits (k : Nat)).day), (9, vi (k + 1 : Nat))] ([] ++ J) := fun h J => by
      have := hn J hlt (step_all hA h)
      rw [lastAt_succ] at this
      exact this
    repeat' (first | (refine And.intro ?_ ?_) | (refine fun (_ : _ = _) => ?_))
    all_goals first
      | omega
      | exact ok_S (by simpa using hlt)
      | exact hf1 (by grind [okSp, inR])
      | exact hn1 (by grind [okSp, inR]) _
      | grind [okSp, inR]
  · have hge : k = c.splits.length := by have := of_decide_eq_false h1; omega
    refine he _ _ _ (ret_tree X9_ok (doneK_ok rfl) (x69d _ _ _ _) ?_)
    simp only [holds]
    exact hx ((okSs_iff _ _).2 fun j hj => by have := hA j (by omega); simpa only [lastAt] using this)
theorem l69c (c : Cmp) (n : Int) (hl : c.divs.length ≤ 7) (hf : c.divs.all (okDv) = false → n = 1)
    (hx : c.divs.all (okDv) = true → lpS Try.prog G69 0 (CCode.at c69 [1, 1, 1, 1, 1, 1, 1, 0, 1, 0, 0]) [Fr.blk 6, Fr.seq (CCode.at c69 [1, 1, 1, 1, 1, 1, 1, 1])] (Q69 n) [(1, .rptr (Cds c) 0), (8, vi (-1)), (9, vi 0)] []) :
    lpS Try.prog G69 0 (CCode.at c69 [1, 1, 1, 1, 1, 0, 1, 0, 0]) [Fr.blk 4, Fr.seq (CCode.at c69 [1, 1, 1, 1, 1, 1])] (Q69 n) [(1, .rptr (Cds c) 0), (6, vi 0)] [] := by
  refine lp_countK X9_ok rfl (c.divs.length) (fun k => ∀ j : Nat, j < k → (okDv) (lat c.divs j) = true) (fun k => [(1, .rptr (Cds c) 0), (6, vi k)]) (fun _ => []) rfl rfl (fun j hj => by omega) (fun k _ => ⟨rfl, rfl, rfl⟩) ?_
  intro k hk hA Q' hn he
  rw [b69c]
  simp only [holds, Int.ofNat_eq_natCast, cI_V0, cI_V1, cI_V2, true_and]
  refine ⟨fun h1 => ?_, fun h1 => ?_⟩
  · have hlt : k < c.divs.length := by have := of_decide_eq_true h1; omega
    have hf1 : (okDv) (lat c.divs (k : Nat)) = false → VLe (V.d (.int .i64 1)) (vi n) := fun h => .of_eq (congrArg vi (hf (all_false hlt h)).symm)
    have hn1 : (okDv) (lat c.divs (k : Nat)) = true → ∀ J, Q' .normal [(1, .rptr (Cds c) 0), (6, vi (k + 1 : Nat))] ([] ++ J) := fun h J => hn J hlt (step_all hA h)
    repeat' (first | (refine And.intro ?_ ?_) | (refine fun (_ : _ = _) => ?_))
    all_goals first
      | omega
      | exact ok_V (by simpa using hlt)
      | exact hf1 (by grind [okDv, Rng.days, inR])
      | exact hn1 (by grind [okDv, Rng.days, inR]) _
      | grind [okDv, Rng.days, inR]
  · have hge : k = c.divs.length := by have := of_decide_eq_false h1; omega
    refine he _ _ _ (ret_tree X9_ok (doneK_ok rfl) (x69c _ _ _) ?_)
    simp only [holds]
    exact hx (all_true fun j hj => hA j (by omega))
theorem l69b (c : Cmp) (n : Int) (hh : 1 ≤ c.houses) (hh2 : c.houses ≤ 4) (hl : c.trades.length ≤ 7) (hf : c.trades.all (okTr c.houses) = false → n = 1)
    (hx : c.trades.all (okTr c.houses) = true → lpS Try.prog G69 0 (CCode.at c69 [1, 1, 1, 1, 1, 0, 1, 0, 0]) [Fr.blk 4, Fr.seq (CCode.at c69 [1, 1, 1, 1, 1, 1])] (Q69 n) [(1, .rptr (Cds c) 0), (6, vi 0)] []) :
    lpS Try.prog G69 0 (CCode.at c69 [1, 1, 1, 1, 0, 1, 0, 0]) [Fr.blk 2, Fr.seq (CCode.at c69 [1, 1, 1, 1, 1])] (Q69 n) [(1, .rptr (Cds c) 0), (4, vi 0)] [] := by
  refine lp_countK X9_ok rfl (c.trades.length) (fun k => ∀ j : Nat, j < k → (okTr c.houses) (lat c.trades j) = true) (fun k => [(1, .rptr (Cds c) 0), (4, vi k)]) (fun _ => []) rfl rfl (fun j hj => by omega) (fun k _ => ⟨rfl, rfl, rfl⟩) ?_
  intro k hk hA Q' hn he
  rw [b69b]
  simp only [holds, Int.ofNat_eq_natCast, cI_T0, cI_T1, cI_T2, cI_T3, cI_T4, cI_T5, cI_T6, true_and]
  refine ⟨fun h1 => ?_, fun h1 => ?_⟩
  · have hlt : k < c.trades.length := by have := of_decide_eq_true h1; omega
    have hf1 : (okTr c.houses) (lat c.trades (k : Nat)) = false → VLe (V.d (.int .i64 1)) (vi n) := fun h => .of_eq (congrArg vi (hf (all_false hlt h)).symm)
    have hn1 : (okTr c.houses) (lat c.trades (k : Nat)) = true → ∀ J, Q' .normal [(1, .rptr (Cds c) 0), (4, vi (k + 1 : Nat))] ([] ++ J) := fun h J => hn J hlt (step_all hA h)
    repeat' (first | (refine And.intro ?_ ?_) | (refine fun (_ : _ = _) => ?_))
    all_goals first
      | omega
      | exact ok_T (by simpa using hlt)
      | exact hf1 (by grind [okTr, Rng.days, Rng.short, inR])
      | exact hn1 (by grind [okTr, Rng.days, Rng.short, inR]) _
      | grind [okTr, Rng.days, Rng.short, inR]
  · have hge : k = c.trades.length := by have := of_decide_eq_false h1; omega
    refine he _ _ _ (ret_tree X9_ok (doneK_ok rfl) (x69b _ _ _) ?_)
    simp only [holds]
    exact hx (all_true fun j hj => hA j (by omega))
theorem l69a (c : Cmp) (n : Int) (hh : (c.held.length : Int) = c.houses) (hl : c.held.length ≤ 7) (hf : c.held.all (Rng.has ⟨0, 100⟩) = false → n = 1)
    (hx : c.held.all (Rng.has ⟨0, 100⟩) = true → lpS Try.prog G69 0 (CCode.at c69 [1, 1, 1, 1, 0, 1, 0, 0]) [Fr.blk 2, Fr.seq (CCode.at c69 [1, 1, 1, 1, 1])] (Q69 n) [(1, .rptr (Cds c) 0), (4, vi 0)] []) :
    lpS Try.prog G69 0 (CCode.at c69 [1, 1, 1, 0, 1, 0, 0]) [Fr.blk 0, Fr.seq (CCode.at c69 [1, 1, 1, 1])] (Q69 n) [(1, .rptr (Cds c) 0), (3, vi 0)] [] := by
  refine lp_countK X9_ok rfl (c.held.length) (fun k => ∀ j : Nat, j < k → (Rng.has ⟨0, 100⟩) (lat c.held j) = true) (fun k => [(1, .rptr (Cds c) 0), (3, vi k)]) (fun _ => []) rfl rfl (fun j hj => by omega) (fun k _ => ⟨rfl, rfl, rfl⟩) ?_
  intro k hk hA Q' hn he
  rw [b69a]
  simp only [holds, Int.ofNat_eq_natCast, cI_I, true_and]
  refine ⟨fun h1 => ?_, fun h1 => ?_⟩
  · have hlt : k < c.held.length := by have := of_decide_eq_true h1; omega
    have hf1 : (Rng.has ⟨0, 100⟩) (lat c.held (k : Nat)) = false → VLe (V.d (.int .i64 1)) (vi n) := fun h => .of_eq (congrArg vi (hf (all_false hlt h)).symm)
    have hn1 : (Rng.has ⟨0, 100⟩) (lat c.held (k : Nat)) = true → ∀ J, Q' .normal [(1, .rptr (Cds c) 0), (3, vi (k + 1 : Nat))] ([] ++ J) := fun h J => hn J hlt (step_all hA h)
    repeat' (first | (refine And.intro ?_ ?_) | (refine fun (_ : _ = _) => ?_))
    all_goals first
      | omega
      | exact ok_I (by simpa using hlt)
      | exact hf1 (by grind [Rng.has, inR])
      | exact hn1 (by grind [Rng.has, inR]) _
      | grind [Rng.has, inR]
  · have hge : k = c.held.length := by have := of_decide_eq_false h1; omega
    refine he _ _ _ (ret_tree X9_ok (doneK_ok rfl) (x69a _ _ _) ?_)
    simp only [holds]
    exact hx (all_true fun j hj => hA j (by omega))
theorem y69 (c : Cmp) : Yields Try.prog 69 [Cv c] (vi (faultM c)) := by
  refine q69.yieldsK X9_ok rfl rfl rfl (w69 c) ?_
  simp only [holds, Int.ofNat_eq_natCast]
  by_cases hbig : 4 < c.houses ∨ 4 < c.trades.length ∨ 3 < c.divs.length ∨ 2 < c.splits.length ∨ 2 < c.closed.length
  · have h3 : faultM c = 3 := by unfold faultM; rw [if_pos hbig]
    rw [h3]
    repeat' (first | (refine And.intro ?_ ?_) | (refine fun (_ : _ = _) => ?_))
    all_goals first
      | exact .refl _
      | grind
  · have hm : faultM c = if 1 ≤ c.houses ∧ (c.held.length : Int) = c.houses ∧ c.held.all (Rng.has ⟨0, 100⟩) = true ∧ c.trades.all (okTr c.houses) = true ∧ c.divs.all okDv = true ∧ okSs (-1) c.splits = true ∧ c.closed.all Rng.days = true then 0 else 1 := by
      unfold faultM; rw [if_neg hbig]
    refine ⟨fun h => by grind, fun _ => ⟨fun h => by grind, fun _ => ⟨fun h => by grind, fun _ => ⟨fun h => by grind, fun _ => ⟨fun h => by grind, fun _ => ⟨fun h => ?_, fun h => ⟨fun h2 => ?_, fun h2 => ?_⟩⟩⟩⟩⟩⟩⟩
    · exact .of_eq (congrArg vi (by grind))
    · exact .of_eq (congrArg vi (by grind))
    · refine l69a c _ (by grind) (by grind) (fun h => by grind) (fun g1 => ?_)
      refine l69b c _ (by grind) (by grind) (by grind) (fun h => by grind) (fun g2 => ?_)
      refine l69c c _ (by grind) (fun h => by grind) (fun g3 => ?_)
      refine l69d c _ (by grind) (fun h => by grind) (fun g4 => ?_)
      exact l69e c _ (by grind) (fun h => by grind) (fun g5 => by grind)
def ent69 := entC (fun _ => True) (fun c => vi (faultM c))
theorem ent69_ok : EntOk Try.prog 69 ent69 := entC_ok fun c _ => y69 c
def tab10 : Spec := (spAdd 69 ent69 tab9)
theorem tab10_ok : SpOk Try.prog tab10 := (spAdd_ok ent69_ok tab9_ok)
def X10 : Sx := mkX tab10
theorem X10_ok : SpOk Try.prog X10.sp := tab10_ok
theorem w34 (c : Cmp) : sx X10 c34 [] (doneF 0 r34) (envOf [Cv c]) [] [] =
    Tr.need (Cv (dCe c) = Cv c ∧ True) (Tr.done (V.d (D.int IntKind.i64 (faultM (dCe c)))) []) := by kernel_rfl
theorem y34 (c : Cmp) : Yields Try.prog 34 [Cv c] (vi (faultM c)) := by
  refine q34.yields X10_ok rfl rfl rfl (w34 c) ?_
  simp only [holds]
  simp only [dCe, dC_enc]
  exact ⟨⟨trivial, trivial⟩, .refl _⟩
end
end Go.Proofs.Ytdnefcjbcieecaa
namespace Go.Proofs.Ytdnefcjbcieecaa
open Go Go.Proofs
noncomputable section
theorem w56 (l : List Int) : sx X10 c56 [] (doneF 0 r56) (envOf [vsl eI l]) [] [] =
    Tr.need ((0 : Nat) = (0 : Nat) ∧ (3 : Nat) = (3 : Nat) ∧ (1 : Nat) = (1 : Nat) ∧ 0 = (0 : Nat) * (1 : Nat) ∧ List.length (enc eI l) = List.length l * (1 : Nat) ∧ (0 : Nat) + List.length l ≤ (140737488355328 : Nat) ∧ ((0 : Nat) + List.length l) * (8 : Nat) ≤ (140737488355328 : Nat)) (Tr.done (V.d (D.sl false ((0 : Nat) + List.length l) ([] ++ enc eI l))) []) := by kernel_rfl
theorem y56 (l : List Int) (hl : l.length ≤ 1000000) : Yields Try.prog 56 [vsl eI l] (vsl eI l) := by
  refine q56.yields X10_ok rfl rfl rfl (w56 l) ?_
  simp only [holds, len_I, List.nil_append, Nat.zero_add]
  exact ⟨⟨trivial, trivial, trivial, by simp, trivial, by omega, by omega⟩, .refl _⟩
def ent56 : Ent := fun args h => match args with
  | [.d (.sl false n cs)] => some (okL eI 1 gI n cs ∧ n ≤ 1000000, .d (.sl false n cs), none)
  | _ => none
theorem ent56_ok : EntOk Try.prog 56 ent56 := by
  intro args h p v h' he hp
  unfold ent56 at he
  split at he
  · cases he; rw [okL_vsl hp.1]; exact y56 _ (by rw [dec_len]; exact hp.2) h
  · cases he
def ent34 := entC (fun _ => True) (fun c => vi (faultM c))
theorem ent34_ok : EntOk Try.prog 34 ent34 := entC_ok fun c _ => y34 c
def tab11 : Spec := (spAdd 34 ent34 (spAdd 56 ent56 tab10))
theorem tab11_ok : SpOk Try.prog tab11 := (spAdd_ok ent34_ok (spAdd_ok ent56_ok tab10_ok))
def X11 : Sx := mkX tab11
theorem X11_ok : SpOk Try.prog X11.sp := tab11_ok
theorem w20 (c : Cmp) : sx X11 c20 [] (doneK r20) (envOf [Cv c]) [] [] =
    let x1_ := (List.length (Cmp.held c))
    let x2_ := (okL eI (1 : Nat) gI x1_ (enc eI (Cmp.held c)) ∧ List.length (Cmp.held c) ≤ (1000000 : Nat))
    let x3_ := (D.int IntKind.i64 (0 : Int))
    let x4_ := [some (Blk.box [V.d x3_, V.d D.nils, V.d D.nils, V.d D.nils, V.d D.nils, V.d D.nils]), some (Blk.box [V.d (D.int IntKind.i64 (Cmp.houses c)), V.d (D.sl false x1_ (enc eI (Cmp.held c))), V.d D.nils, V.d D.nils, V.d D.nils, V.d D.nils])]
    Tr.need x2_ (Tr.need x2_ (Tr.need ([(1, V.rptr (Cds c) (0)), (2, V.ptr (0) (0) (0)), (3, V.ptr (1) (0) (0))] = [(1, V.rptr (Cds c) (0)), (2, V.ptr (0) (0) (0)), (3, V.ptr (1) (0) (0))] ∧ x4_ = x4_) (Tr.lp (CCode.at c20 [(1 : Nat), (1 : Nat), (0 : Nat), (1 : Nat), (0 : Nat), (0 : Nat)]) [Fr.blk (0), Fr.seq (CCode.at c20 [(1 : Nat), (1 : Nat), (1 : Nat)])] [(1, V.rptr (Cds c) (0)), (2, V.ptr (0) (0) (0)), (3, V.ptr (1) (0) (0)), (4, V.d x3_)] x4_))) := by kernel_rfl
def H20 (c : Cmp) (T : List Trd) (U : List Dvd) (S : List Spl) (R : List Rng) : Heap :=
  [some (.box [.d (.int .i64 0), .d .nils, .d .nils, .d .nils, .d .nils, .d .nils]), some (.box [vi c.houses, .d (dsl eI c.held), .own 2 T.length T.length, .own 3 U.length U.length, .own 4 S.length S.length, .own 5 R.length R.length]),
    some (.row 93 7 T.length (enc eT T)), some (.row 95 3 U.length (enc eV U)), some (.row 96 3 S.length (enc eS S)), some (.row 71 2 R.length (enc eR R))]
theorem take_lat {α : Type} [Inhabited α] {l : List α} {k : Nat} (hk : k < l.length) : l.take (k + 1) = l.take k ++ [lat l (k : Nat)] := by
  rw [List.take_add_one, List.getElem?_eq_getElem hk]
  simp [lat, hk]
abbrev Q20 (c : Cmp) : CExit → Env → Heap → Prop := retQ r20 fun v1 h1 => VLe (finX 0 v1 h1).1 (Cv c)
abbrev R20 (c : Cmp) : V → Heap → Prop := fun v1 h1 => VLe (finX 0 v1 h1).1 (Cv c)
theorem b20a (c : Cmp) (k : Nat) (T : List Trd) (U : List Dvd) (S : List Spl) (R : List Rng) : sx X11 (CCode.at c20 [1,1,0,1,0,0]) [] leafK [(1, .rptr (Cds c) 0), (2, .ptr 0 0 0), (3, .ptr 1 0 0), (4, vi k)] [] (H20 c T U S R) =
    let x1_ := (List.length (Cmp.trades c))
    let x2_ := (decide (Int.ofNat k < Int.ofNat x1_))
    let x3_ := (cI (enc eT (Cmp.trades c)) (7 : Nat) (Int.ofNat k) (0 : Nat))
    let x4_ := (cI (enc eT (Cmp.trades c)) (7 : Nat) (Int.ofNat k) (1))
    let x5_ := (cI (enc eT (Cmp.trades c)) (7 : Nat) (Int.ofNat k) (2))
    let x6_ := [D.int IntKind.i64 x3_, D.int IntKind.i64 x4_, D.int IntKind.i64 x5_, D.int IntKind.i64 (Rng.lo { lo := cI (enc eT (Cmp.trades c)) (7 : Nat) (Int.ofNat k) (3), hi := cI (enc eT (Cmp.trades c)) (7 : Nat) (Int.ofNat k) (4) }), D.int IntKind.i64 (Rng.hi { lo := cI (enc eT (Cmp.trades c)) (7 : Nat) (Int.ofNat k) (3), hi := cI (enc eT (Cmp.trades c)) (7 : Nat) (Int.ofNat k) (4) }), D.int IntKind.i64 (Rng.lo { lo := cI (enc eT (Cmp.trades c)) (7 : Nat) (Int.ofNat k) (5), hi := cI (enc eT (Cmp.trades c)) (7 : Nat) (Int.ofNat k) (6) }), D.int IntKind.i64 (Rng.hi { lo := cI (enc eT (Cmp.trades c)) (7 : Nat) (Int.ofNat k) (5), hi := cI (enc eT (Cmp.trades c)) (7 : Nat) (Int.ofNat k) (6) })]
    let x7_ := (List.length T + (1 : Nat))
    let x8_ := (Blk.box [V.d (D.int IntKind.i64 (0 : Int)), V.d D.nils, V.d D.nils, V.d D.nils, V.d D.nils, V.d D.nils])
    let x9_ := (D.int IntKind.i64 (Cmp.houses c))
    let x10_ := (D.sl false (List.length (Cmp.held c)) (enc eI (Cmp.held c)))
    let x11_ := (Nat.add (List.length T) (1 : Nat))
    let x12_ := (Blk.row (95) (3) (List.length U) (enc eV U))
    let x13_ := (Blk.row (96) (3) (List.length S) (enc eS S))
    let x14_ := (Blk.row (71) (2) (List.length R) (enc eR R))
    Tr.br x2_ (Tr.need ((0 : Int) ≤ Int.ofNat k ∧ Int.ofNat k < Int.ofNat x1_ ∧ okEl [0, 0, 0, 0, 0, 0, 0] (enc eT (Cmp.trades c)) (7 : Nat) (Int.ofNat k)) (Tr.need True (Tr.need True (Tr.need (List.length T = List.length T ∧ (93 : Nat) = (93 : Nat) ∧ (7 : Nat) = (7 : Nat) ∧ List.length (enc eT T) = List.length T * (7 : Nat) ∧ List.length x6_ = (1 : Nat) * (7 : Nat) ∧ List.length T + (1 : Nat) ≤ (140737488355328 : Nat) ∧ x7_ * (56 : Nat) ≤ (140737488355328 : Nat)) (Tr.need ((-9223372036854775808 : Int) ≤ Int.ofNat k + (1 : Int) ∧ Int.ofNat k + (1 : Int) ≤ (9223372036854775807 : Int)) (Tr.leaf CExit.normal [(1, V.rptr (Cds c) (0)), (2, V.ptr (0) (0) (0)), (3, V.ptr (1) (0) (0)), (4, V.d (D.int IntKind.i64 (Int.ofNat k + (1 : Int))))] [some x8_, some (Blk.box [V.d x9_, V.d x10_, V.own (2) x11_ x7_, V.own (3) (List.length U) (List.length U), V.own (4) (List.length S) (List.length S), V.own (5) (List.length R) (List.length R)]), some (Blk.row (93) (7) x11_ (enc eT T ++ x6_)), some x12_, some x13_, some x14_, some (Blk.box [V.d (D.int IntKind.i64 x3_), V.d (D.int IntKind.i64 x4_), V.d (D.int IntKind.i64 x5_), V.d (D.int IntKind.i64 (cI (enc eT (Cmp.trades c)) (7 : Nat) (Int.ofNat k) (3))), V.d (D.int IntKind.i64 (cI (enc eT (Cmp.trades c)) (7 : Nat) (Int.ofNat k) (4))), V.d (D.int IntKind.i64 (cI (enc eT (Cmp.trades c)) (7 : Nat) (Int.ofNat k) (5))), V.d (D.int IntKind.i64 (cI (enc eT (Cmp.trades c)) (7 : Nat) (Int.ofNat k) (6)))])])))))) (Tr.leaf (CExit.exit (0)) [(1, V.rptr (Cds c) (0)), (2, V.ptr (0) (0) (0)), (3, V.ptr (1) (0) (0)), (4, V.d (D.int IntKind.i64 (Int.ofNat k))), (21, V.d (D.bool x2_))] [some x8_, some (Blk.box [V.d x9_, V.d x10_, V.own (2) (List.length T) (List.length T), V.own (3) (List.length U) (List.length U), V.own (4) (List.length S) (List.length S), V.own (5) (List.length R) (List.length R)]), some (Blk.row (93) (7) (List.length T) (enc eT T)), some x12_, some x13_, some x14_]) := by kernel_rfl
theorem x20a (c : Cmp) (v w : V) (h : Heap) : sS X11 (doneK r20) [Fr.blk 0, Fr.seq (CCode.at c20 [1,1,1])] (.exit 0) [(1, .rptr (Cds c) 0), (2, .ptr 0 0 0), (3, .ptr 1 0 0), (4, v), (21, w)] [] h =
    Tr.lp (CCode.at c20 [(1 : Nat), (1 : Nat), (1 : Nat), (0 : Nat), (1 : Nat), (0 : Nat), (0 : Nat)]) [Fr.blk (2), Fr.seq (CCode.at c20 [(1 : Nat), (1 : Nat), (1 : Nat), (1 : Nat)])] [(1, V.rptr (Cds c) (0)), (2, V.ptr (0) (0) (0)), (3, V.ptr (1) (0) (0)), (6, V.d (D.int IntKind.i64 (0 : Int)))] h := by kernel_rfl
theorem b20b (c : Cmp) (k : Nat) (T : List Trd) (U : List Dvd) (S : List Spl) (R : List Rng) : sx X11 (CCode.at c20 [1,1,1,0,1,0,0]) [] leafK [(1, .rptr (Cds c) 0), (2, .ptr 0 0 0), (3, .ptr 1 0 0), (6, vi k)] [] (H20 c T U S R) =
    let x1_ := (List.length (Cmp.divs c))
    let x2_ := (decide (Int.ofNat k < Int.ofNat x1_))
    let x3_ := (cI (enc eV (Cmp.divs c)) (3 : Nat) (Int.ofNat k) (0 : Nat))
    let x4_ := (cI (enc eV (Cmp.divs c)) (3 : Nat) (Int.ofNat k) (1))
    let x5_ := (cI (enc eV (Cmp.divs c)) (3 : Nat) (Int.ofNat k) (2))
    let x6_ := [D.int IntKind.i64 x3_, D.int IntKind.i64 x4_, D.int IntKind.i64 x5_]
    let x7_ := (List.length U + (1 : Nat))
    let x8_ := (Blk.box [V.d (D.int IntKind.i64 (0 : Int)), V.d D.nils, V.d D.nils, V.d D.nils, V.d D.nils, V.d D.nils])
    let x9_ := (D.int IntKind.i64 (Cmp.houses c))
    let x10_ := (D.sl false (List.length (Cmp.held c)) (enc eI (Cmp.held c)))
    let x11_ := (Nat.add (List.length U) (1 : Nat))
    let x12_ := (Blk.row (93) (7) (List.length T) (enc eT T))
    let x13_ := (Blk.row (96) (3) (List.length S) (enc eS S))
    let x14_ := (Blk.row (71) (2) (List.length R) (enc eR R))
    Tr.br x2_ (Tr.need ((0 : Int) ≤ Int.ofNat k ∧ Int.ofNat k < Int.ofNat x1_ ∧ okEl [0, 0, 0] (enc eV (Cmp.divs c)) (3 : Nat) (Int.ofNat k)) (Tr.need (List.length U = List.length U ∧ (95 : Nat) = (95 : Nat) ∧ (3 : Nat) = (3 : Nat) ∧ List.length (enc eV U) = List.length U * (3 : Nat) ∧ List.length x6_ = (1 : Nat) * (3 : Nat) ∧ List.length U + (1 : Nat) ≤ (140737488355328 : Nat) ∧ x7_ * (24 : Nat) ≤ (140737488355328 : Nat)) (Tr.need ((-9223372036854775808 : Int) ≤ Int.ofNat k + (1 : Int) ∧ Int.ofNat k + (1 : Int) ≤ (9223372036854775807 : Int)) (Tr.leaf CExit.normal [(1, V.rptr (Cds c) (0)), (2, V.ptr (0) (0) (0)), (3, V.ptr (1) (0) (0)), (6, V.d (D.int IntKind.i64 (Int.ofNat k + (1 : Int))))] [some x8_, some (Blk.box [V.d x9_, V.d x10_, V.own (2) (List.length T) (List.length T), V.own (3) x11_ x7_, V.own (4) (List.length S) (List.length S), V.own (5) (List.length R) (List.length R)]), some x12_, some (Blk.row (95) (3) x11_ (enc eV U ++ x6_)), some x13_, some x14_, some (Blk.box [V.d (D.int IntKind.i64 x3_), V.d (D.int IntKind.i64 x4_), V.d (D.int IntKind.i64 x5_)])])))) (Tr.leaf (CExit.exit (2)) [(1, V.rptr (Cds c) (0)), (2, V.ptr (0) (0) (0)), (3, V.ptr (1) (0) (0)), (6, V.d (D.int IntKind.i64 (Int.ofNat k))), (51, V.d (D.bool x2_))] [some x8_, some (Blk.box [V.d x9_, V.d x10_, V.own (2) (List.length T) (List.length T), V.own (3) (List.length U) (List.length U), V.own (4) (List.length S) (List.length S), V.own (5) (List.length R) (List.length R)]), some x12_, some (Blk.row (95) (3) (List.length U) (enc eV U)), some x13_, some x14_]) := by kernel_rfl
theorem x20b (c : Cmp) (v w : V) (h : Heap) : sS X11 (doneK r20) [Fr.blk 2, Fr.seq (CCode.at c20 [1,1,1,1])] (.exit 2) [(1, .rptr (Cds c) 0), (2, .ptr 0 0 0), (3, .ptr 1 0 0), (6, v), (51, w)] [] h =
    Tr.lp (CCode.at c20 [(1 : Nat), (1 : Nat), (1 : Nat), (1 : Nat), (0 : Nat), (1 : Nat), (0 : Nat), (0 : Nat)]) [Fr.blk (4), Fr.seq (CCode.at c20 [(1 : Nat), (1 : Nat), (1 : Nat), (1 : Nat), (1 : Nat)])] [(1, V.rptr (Cds c) (0)), (2, V.ptr (0) (0) (0)), (3, V.ptr (1) (0) (0)), (8, V.d (D.int IntKind.i64 (0 : Int)))] h := by kernel_rfl
theorem b20c (c : Cmp) (k : Nat) (T : List Trd) (U : List Dvd) (S : List Spl) (R : List Rng) : sx X11 (CCode.at c20 [1,1,1,1,0,1,0,0]) [] leafK [(1, .rptr (Cds c) 0), (2, .ptr 0 0 0), (3, .ptr 1 0 0), (8, vi k)] [] (H20 c T U S R) =
    let x1_ := (List.length (Cmp.splits c))
    let x2_ := (decide (Int.ofNat k < Int.ofNat x1_))
    let x3_ := (cI (enc eS (Cmp.splits c)) (3 : Nat) (Int.ofNat k) (0 : Nat))
    let x4_ := (cI (enc eS (Cmp.splits c)) (3 : Nat) (Int.ofNat k) (1))
    let x5_ := (cI (enc eS (Cmp.splits c)) (3 : Nat) (Int.ofNat k) (2))
    let x6_ := [D.int IntKind.i64 x3_, D.int IntKind.i64 x4_, D.int IntKind.i64 x5_]
    let x7_ := (List.length S + (1 : Nat))
    let x8_ := (Blk.box [V.d (D.int IntKind.i64 (0 : Int)), V.d D.nils, V.d D.nils, V.d D.nils, V.d D.nils, V.d D.nils])
    let x9_ := (D.int IntKind.i64 (Cmp.houses c))
    let x10_ := (D.sl false (List.length (Cmp.held c)) (enc eI (Cmp.held c)))
    let x11_ := (Nat.add (List.length S) (1 : Nat))
    let x12_ := (Blk.row (93) (7) (List.length T) (enc eT T))
    let x13_ := (Blk.row (95) (3) (List.length U) (enc eV U))
    let x14_ := (Blk.row (71) (2) (List.length R) (enc eR R))
    Tr.br x2_ (Tr.need ((0 : Int) ≤ Int.ofNat k ∧ Int.ofNat k < Int.ofNat x1_ ∧ okEl [0, 0, 0] (enc eS (Cmp.splits c)) (3 : Nat) (Int.ofNat k)) (Tr.need (List.length S = List.length S ∧ (96 : Nat) = (96 : Nat) ∧ (3 : Nat) = (3 : Nat) ∧ List.length (enc eS S) = List.length S * (3 : Nat) ∧ List.length x6_ = (1 : Nat) * (3 : Nat) ∧ List.length S + (1 : Nat) ≤ (140737488355328 : Nat) ∧ x7_ * (24 : Nat) ≤ (140737488355328 : Nat)) (Tr.need ((-9223372036854775808 : Int) ≤ Int.ofNat k + (1 : Int) ∧ Int.ofNat k + (1 : Int) ≤ (9223372036854775807 : Int)) (Tr.leaf CExit.normal [(1, V.rptr (Cds c) (0)), (2, V.ptr (0) (0) (0)), (3, V.ptr (1) (0) (0)), (8, V.d (D.int IntKind.i64 (Int.ofNat k + (1 : Int))))] [some x8_, some (Blk.box [V.d x9_, V.d x10_, V.own (2) (List.length T) (List.length T), V.own (3) (List.length U) (List.length U), V.own (4) x11_ x7_, V.own (5) (List.length R) (List.length R)]), some x12_, some x13_, some (Blk.row (96) (3) x11_ (enc eS S ++ x6_)), some x14_, some (Blk.box [V.d (D.int IntKind.i64 x3_), V.d (D.int IntKind.i64 x4_), V.d (D.int IntKind.i64 x5_)])])))) (Tr.leaf (CExit.exit (4)) [(1, V.rptr (Cds c) (0)), (2, V.ptr (0) (0) (0)), (3, V.ptr (1) (0) (0)), (8, V.d (D.int IntKind.i64 (Int.ofNat k))), (75, V.d (D.bool x2_))] [some x8_, some (Blk.box [V.d x9_, V.d x10_, V.own (2) (List.length T) (List.length T), V.own (3) (List.length U) (List.length U), V.own (4) (List.length S) (List.length S), V.own (5) (List.length R) (List.length R)]), some x12_, some x13_, some (Blk.row (96) (3) (List.length S) (enc eS S)), some x14_]) := by kernel_rfl
theorem x20c (c : Cmp) (v w : V) (h : Heap) : sS X11 (doneK r20) [Fr.blk 4, Fr.seq (CCode.at c20 [1,1,1,1,1])] (.exit 4) [(1, .rptr (Cds c) 0), (2, .ptr 0 0 0), (3, .ptr 1 0 0), (8, v), (75, w)] [] h =
    Tr.lp (CCode.at c20 [(1 : Nat), (1 : Nat), (1 : Nat), (1 : Nat), (1 : Nat), (0 : Nat), (1 : Nat), (0 : Nat), (0 : Nat)]) [Fr.blk (6), Fr.seq (CCode.at c20 [(1 : Nat), (1 : Nat), (1 : Nat), (1 : Nat), (1 : Nat), (1 : Nat)])] [(1, V.rptr (Cds c) (0)), (2, V.ptr (0) (0) (0)), (3, V.ptr (1) (0) (0)), (10, V.d (D.int IntKind.i64 (0 : Int)))] h := by kernel_rfl
theorem b20d (c : Cmp) (k : Nat) (T : List Trd) (U : List Dvd) (S : List Spl) (R : List Rng) : sx X11 (CCode.at c20 [1,1,1,1,1,0,1,0,0]) [] leafK [(1, .rptr (Cds c) 0), (2, .ptr 0 0 0), (3, .ptr 1 0 0), (10, vi k)] [] (H20 c T U S R) =
    let x1_ := (List.length (Cmp.closed c))
    let x2_ := (decide (Int.ofNat k < Int.ofNat x1_))
    let x3_ := [D.int IntKind.i64 (Rng.lo { lo := cI (enc eR (Cmp.closed c)) (2 : Nat) (Int.ofNat k) (0 : Nat), hi := cI (enc eR (Cmp.closed c)) (2 : Nat) (Int.ofNat k) (1) }), D.int IntKind.i64 (Rng.hi { lo := cI (enc eR (Cmp.closed c)) (2 : Nat) (Int.ofNat k) (0 : Nat), hi := cI (enc eR (Cmp.closed c)) (2 : Nat) (Int.ofNat k) (1) })]
    let x4_ := (List.length R + (1 : Nat))
    let x5_ := (Blk.box [V.d (D.int IntKind.i64 (0 : Int)), V.d D.nils, V.d D.nils, V.d D.nils, V.d D.nils, V.d D.nils])
    let x6_ := (D.int IntKind.i64 (Cmp.houses c))
    let x7_ := (D.sl false (List.length (Cmp.held c)) (enc eI (Cmp.held c)))
    let x8_ := (Nat.add (List.length R) (1 : Nat))
    let x9_ := (Blk.row (93) (7) (List.length T) (enc eT T))
    let x10_ := (Blk.row (95) (3) (List.length U) (enc eV U))
    let x11_ := (Blk.row (96) (3) (List.length S) (enc eS S))
    Tr.br x2_ (Tr.need ((0 : Int) ≤ Int.ofNat k ∧ Int.ofNat k < Int.ofNat x1_ ∧ okEl [0, 0] (enc eR (Cmp.closed c)) (2 : Nat) (Int.ofNat k)) (Tr.need True (Tr.need (List.length R = List.length R ∧ (71 : Nat) = (71 : Nat) ∧ (2 : Nat) = (2 : Nat) ∧ List.length (enc eR R) = List.length R * (2 : Nat) ∧ List.length x3_ = (1 : Nat) * (2 : Nat) ∧ List.length R + (1 : Nat) ≤ (140737488355328 : Nat) ∧ x4_ * (16 : Nat) ≤ (140737488355328 : Nat)) (Tr.need ((-9223372036854775808 : Int) ≤ Int.ofNat k + (1 : Int) ∧ Int.ofNat k + (1 : Int) ≤ (9223372036854775807 : Int)) (Tr.leaf CExit.normal [(1, V.rptr (Cds c) (0)), (2, V.ptr (0) (0) (0)), (3, V.ptr (1) (0) (0)), (10, V.d (D.int IntKind.i64 (Int.ofNat k + (1 : Int))))] [some x5_, some (Blk.box [V.d x6_, V.d x7_, V.own (2) (List.length T) (List.length T), V.own (3) (List.length U) (List.length U), V.own (4) (List.length S) (List.length S), V.own (5) x8_ x4_]), some x9_, some x10_, some x11_, some (Blk.row (71) (2) x8_ (enc eR R ++ x3_))]))))) (Tr.leaf (CExit.exit (6)) [(1, V.rptr (Cds c) (0)), (2, V.ptr (0) (0) (0)), (3, V.ptr (1) (0) (0)), (10, V.d (D.int IntKind.i64 (Int.ofNat k))), (99, V.d (D.bool x2_))] [some x5_, some (Blk.box [V.d x6_, V.d x7_, V.own (2) (List.length T) (List.length T), V.own (3) (List.length U) (List.length U), V.own (4) (List.length S) (List.length S), V.own (5) (List.length R) (List.length R)]), some x9_, some x10_, some x11_, some (Blk.row (71) (2) (List.length R) (enc eR R))]) := by kernel_rfl
theorem x20d (c : Cmp) (v w : V) (T : List Trd) (U : List Dvd) (S : List Spl) (R : List Rng) : sS X11 (doneK r20) [Fr.blk 6, Fr.seq (CCode.at c20 [1,1,1,1,1,1])] (.exit 6) [(1, .rptr (Cds c) 0), (2, .ptr 0 0 0), (3, .ptr 1 0 0), (10, v), (99, w)] [] (H20 c T U S R) =
    Tr.done (V.agg [V.d (D.int IntKind.i64 (Cmp.houses c)), V.d (D.sl false (List.length (Cmp.held c)) (enc eI (Cmp.held c))), V.own (2) (List.length T) (List.length T), V.own (3) (List.length U) (List.length U), V.own (4) (List.length S) (List.length S), V.own (5) (List.length R) (List.length R)]) [some (Blk.box [V.d (D.int IntKind.i64 (Cmp.houses c)), V.d (D.sl false (List.length (Cmp.held c)) (enc eI (Cmp.held c))), V.own (2) (List.length T) (List.length T), V.own (3) (List.length U) (List.length U), V.own (4) (List.length S) (List.length S), V.own (5) (List.length R) (List.length R)]), some (Blk.box [V.d (D.int IntKind.i64 (Cmp.houses c)), V.d (D.sl false (List.length (Cmp.held c)) (enc eI (Cmp.held c))), V.own (2) (List.length T) (List.length T), V.own (3) (List.length U) (List.length U), V.own (4) (List.length S) (List.length S), V.own (5) (List.length R) (List.length R)]), some (Blk.row (93) (7) (List.length T) (enc eT T)), some (Blk.row (95) (3) (List.length U) (enc eV U)), some (Blk.row (96) (3) (List.length S) (enc eS S)), some (Blk.row (71) (2) (List.length R) (enc eR R))] := by kernel_rfl
theorem l20d (c : Cmp) (hl : c.closed.length ≤ 1000000) : lpS Try.prog G20 0 (CCode.at c20 [1,1,1,1,1,0,1,0,0]) [Fr.blk 6, Fr.seq (CCode.at c20 [1,1,1,1,1,1])] (Q20 c) [(1, .rptr (Cds c) 0), (2, .ptr 0 0 0), (3, .ptr 1 0 0), (10, vi 0)] (H20 c c.trades c.divs c.splits []) := by
  refine lp_count X11_ok c.closed.length (fun _ => True) (fun k => [(1, .rptr (Cds c) 0), (2, .ptr 0 0 0), (3, .ptr 1 0 0), (10, vi k)]) (fun k => H20 c c.trades c.divs c.splits (c.closed.take k)) rfl rfl trivial (fun k _ => ⟨rfl, rfl, rfl⟩) ?_
  intro k hk _ Q' hn he hr
  rw [b20d]
  simp only [holds, Int.ofNat_eq_natCast, cI_R0, cI_R1, len_T, len_V, len_S, len_R, true_and, List.length_take, List.length_cons, List.length_nil]
  refine ⟨fun h1 => ?_, fun h1 => ?_⟩
  · have hlt : k < c.closed.length := by have := of_decide_eq_true h1; omega
    have hm : min k c.closed.length = k := by omega
    repeat' (first | (refine And.intro ?_ ?_) | (refine fun (_ : _ = _) => ?_))
    all_goals first
      | omega
      | rfl
      | exact ok_R (by simpa using hlt)
      | (have hj := fun J => hn J hlt trivial
         simp only [take_lat hlt, H20, enc_append, enc_one, List.length_append, List.length_cons, List.length_nil, List.length_take] at hj
         exact hj _)
  · have hge : k = c.closed.length := by have := of_decide_eq_false h1; omega
    subst hge
    simp only [Nat.min_self, List.take_length]
    refine he _ _ _ (ret_tree (R := R20 c) X11_ok (doneK_ok rfl) (x20d c _ _ c.trades c.divs c.splits c.closed) ?_)
    simp only [holds]
    simp [R20, finX, rowsIn, rowsIn1, rowIn, frzRows, frzB, blkDs, fzV, fz2, fz1, bel2, bel1, bel0]; exact .refl _
theorem l20c (c : Cmp) (hl : c.splits.length ≤ 1000000) (hx : lpS Try.prog G20 0 (CCode.at c20 [1,1,1,1,1,0,1,0,0]) [Fr.blk 6, Fr.seq (CCode.at c20 [1,1,1,1,1,1])] (Q20 c) [(1, .rptr (Cds c) 0), (2, .ptr 0 0 0), (3, .ptr 1 0 0), (10, vi 0)] (H20 c c.trades c.divs c.splits [])) : lpS Try.prog G20 0 (CCode.at c20 [1,1,1,1,0,1,0,0]) [Fr.blk 4, Fr.seq (CCode.at c20 [1,1,1,1,1])] (Q20 c) [(1, .rptr (Cds c) 0), (2, .ptr 0 0 0), (3, .ptr 1 0 0), (8, vi 0)] (H20 c c.trades c.divs [] []) := by
  refine lp_count X11_ok c.splits.length (fun _ => True) (fun k => [(1, .rptr (Cds c) 0), (2, .ptr 0 0 0), (3, .ptr 1 0 0), (8, vi k)]) (fun k => H20 c c.trades c.divs (c.splits.take k) []) rfl rfl trivial (fun k _ => ⟨rfl, rfl, rfl⟩) ?_
  intro k hk _ Q' hn he hr
  rw [b20c]
  simp only [holds, Int.ofNat_eq_natCast, cI_S0, cI_S1, cI_S2, len_T, len_V, len_S, len_R, true_and, List.length_take, List.length_cons, List.length_nil]
  refine ⟨fun h1 => ?_, fun h1 => ?_⟩
  · have hlt : k < c.splits.length := by have := of_decide_eq_true h1; omega
    have hm : min k c.splits.length = k := by omega
    repeat' (first | (refine And.intro ?_ ?_) | (refine fun (_ : _ = _) => ?_))
    all_goals first
      | omega
      | rfl
      | exact ok_S (by simpa using hlt)
      | (have hj := fun J => hn J hlt trivial
         simp only [take_lat hlt, H20, enc_append, enc_one, List.length_append, List.length_cons, List.length_nil, List.length_take] at hj
         exact hj _)
  · have hge : k = c.splits.length := by have := of_decide_eq_false h1; omega
    subst hge
    simp only [Nat.min_self, List.take_length]
    refine he _ _ _ (ret_tree (R := R20 c) X11_ok (doneK_ok rfl) (x20c _ _ _ _) ?_)
    simp only [holds]
    exact hx
theorem l20b (c : Cmp) (hl : c.divs.length ≤ 1000000) (hx : lpS Try.prog G20 0 (CCode.at c20 [1,1,1,1,0,1,0,0]) [Fr.blk 4, Fr.seq (CCode.at c20 [1,1,1,1,1])] (Q20 c) [(1, .rptr (Cds c) 0), (2, .ptr 0 0 0), (3, .ptr 1 0 0), (8, vi 0)] (H20 c c.trades c.divs [] [])) : lpS Try.prog G20 0 (CCode.at c20 [1,1,1,0,1,0,0]) [Fr.blk 2, Fr.seq (CCode.at c20 [1,1,1,1])] (Q20 c) [(1, .rptr (Cds c) 0), (2, .ptr 0 0 0), (3, .ptr 1 0 0), (6, vi 0)] (H20 c c.trades [] [] []) := by
  refine lp_count X11_ok c.divs.length (fun _ => True) (fun k => [(1, .rptr (Cds c) 0), (2, .ptr 0 0 0), (3, .ptr 1 0 0), (6, vi k)]) (fun k => H20 c c.trades (c.divs.take k) [] []) rfl rfl trivial (fun k _ => ⟨rfl, rfl, rfl⟩) ?_
  intro k hk _ Q' hn he hr
  rw [b20b]
  simp only [holds, Int.ofNat_eq_natCast, cI_V0, cI_V1, cI_V2, len_T, len_V, len_S, len_R, true_and, List.length_take, List.length_cons, List.length_nil]
  refine ⟨fun h1 => ?_, fun h1 => ?_⟩
  · have hlt : k < c.divs.length := by have := of_decide_eq_true h1; omega
    have hm : min k c.divs.length = k := by omega
    repeat' (first | (refine And.intro ?_ ?_) | (refine fun (_ : _ = _) => ?_))
    all_goals first
      | omega
      | rfl
      | exact ok_V (by simpa using hlt)
      | (have hj := fun J => hn J hlt trivial
         simp only [take_lat hlt, H20, enc_append, enc_one, List.length_append, List.length_cons, List.length_nil, List.length_take] at hj
         exact hj _)
  · have hge : k = c.divs.length := by have := of_decide_eq_false h1; omega
    subst hge
    simp only [Nat.min_self, List.take_length]
    refine he _ _ _ (ret_tree (R := R20 c) X11_ok (doneK_ok rfl) (x20b _ _ _ _) ?_)
    simp only [holds]
    exact hx
theorem l20a (c : Cmp) (hl : c.trades.length ≤ 1000000) (hx : lpS Try.prog G20 0 (CCode.at c20 [1,1,1,0,1,0,0]) [Fr.blk 2, Fr.seq (CCode.at c20 [1,1,1,1])] (Q20 c) [(1, .rptr (Cds c) 0), (2, .ptr 0 0 0), (3, .ptr 1 0 0), (6, vi 0)] (H20 c c.trades [] [] [])) : lpS Try.prog G20 0 (CCode.at c20 [1,1,0,1,0,0]) [Fr.blk 0, Fr.seq (CCode.at c20 [1,1,1])] (Q20 c) [(1, .rptr (Cds c) 0), (2, .ptr 0 0 0), (3, .ptr 1 0 0), (4, vi 0)] (H20 c [] [] [] []) := by
  refine lp_count X11_ok c.trades.length (fun _ => True) (fun k => [(1, .rptr (Cds c) 0), (2, .ptr 0 0 0), (3, .ptr 1 0 0), (4, vi k)]) (fun k => H20 c (c.trades.take k) [] [] []) rfl rfl trivial (fun k _ => ⟨rfl, rfl, rfl⟩) ?_
  intro k hk _ Q' hn he hr
  rw [b20a]
  simp only [holds, Int.ofNat_eq_natCast, cI_T0, cI_T1, cI_T2, cI_T3, cI_T4, cI_T5, cI_T6, len_T, len_V, len_S, len_R, true_and, List.length_take, List.length_cons, List.length_nil]
  refine ⟨fun h1 => ?_, fun h1 => ?_⟩
  · have hlt : k < c.trades.length := by have := of_decide_eq_true h1; omega
    have hm : min k c.trades.length = k := by omega
    repeat' (first | (refine And.intro ?_ ?_) | (refine fun (_ : _ = _) => ?_))
    all_goals first
      | omega
      | rfl
      | exact ok_T (by simpa using hlt)
      | (have hj := fun J => hn J hlt trivial
         simp only [take_lat hlt, H20, enc_append, enc_one, List.length_append, List.length_cons, List.length_nil, List.length_take] at hj
         exact hj _)
  · have hge : k = c.trades.length := by have := of_decide_eq_false h1; omega
    subst hge
    simp only [Nat.min_self, List.take_length]
    refine he _ _ _ (ret_tree (R := R20 c) X11_ok (doneK_ok rfl) (x20a _ _ _ _) ?_)
    simp only [holds]
    exact hx
theorem y20 (c : Cmp) (h1 : c.held.length ≤ 1000000) (h2 : c.trades.length ≤ 1000000) (h3 : c.divs.length ≤ 1000000) (h4 : c.splits.length ≤ 1000000) (h5 : c.closed.length ≤ 1000000) : Yields Try.prog 20 [Cv c] (Cv c) := by
  refine q20.yieldsX X11_ok rfl rfl rfl (w20 c) ?_
  have key : lpS Try.prog G20 0 (CCode.at c20 [1,1,0,1,0,0]) [Fr.blk 0, Fr.seq (CCode.at c20 [1,1,1])] (Q20 c) [(1, .rptr (Cds c) 0), (2, .ptr 0 0 0), (3, .ptr 1 0 0), (4, vi 0)]
      [some (.box [.d (.int .i64 0), .d .nils, .d .nils, .d .nils, .d .nils, .d .nils]), some (.box [vi c.houses, .d (dsl eI c.held), .d .nils, .d .nils, .d .nils, .d .nils])] := by
    refine LoopP.state (StLe.ghostBox (id := 1) (off := 2) 93 7 rfl rfl) ?_
    refine LoopP.state (StLe.ghostBox (id := 1) (off := 3) 95 3 rfl rfl) ?_
    refine LoopP.state (StLe.ghostBox (id := 1) (off := 4) 96 3 rfl rfl) ?_
    refine LoopP.state (StLe.ghostBox (id := 1) (off := 5) 71 2 rfl rfl) ?_
    exact l20a c h2 (l20b c h3 (l20c c h4 (l20d c h5)))
  simp only [holds, okL_I]
  exact ⟨⟨by omega, h1⟩, ⟨by omega, h1⟩, by simp, key⟩
end
end Go.Proofs.Ytdnefcjbcieecaa
namespace Go.Proofs.Ytdnefcjbcieecaa
open Go Go.Proofs
noncomputable section
theorem q72 : FunIs Try.prog 72 G72 c72 r72 := ⟨Try.f72, Try.func72, k72, e72, by kernel_rfl, by kernel_rfl⟩
theorem q94 : FunIs Try.prog 94 G94 c94 r94 := ⟨Try.f94, Try.func94, k94, e94, by kernel_rfl, by kernel_rfl⟩
def entE (e : Int × Int × Int) : V × V := (.agg [vi e.1, vi e.2.1], vi e.2.2)
def Wbox (c : Cmp) : List V := [vi c.houses, .d (.sl false c.held.length (enc eI c.held)), .d (.sl false c.trades.length (enc eT c.trades)), .d (.sl false c.divs.length (enc eV c.divs)), .d (.sl false c.splits.length (enc eS c.splits)), .d (.sl false c.closed.length (enc eR c.closed)), .mp 0]
def Wk (c : Cmp) (km : List (Int × Int × Int)) (rest : Heap) : Heap := some (.map (km.map entE)) :: some (.box (Wbox c)) :: rest
def facS (a b : Int) (n : Int) (x : Spl) : Int := if a < x.day ∧ x.day ≤ b then (n * x.num).tdiv x.den else n
def facM (l : List Spl) (a b : Int) : Int := l.foldl (facS a b) 720
def lkK (km : List (Int × Int × Int)) (a b : Int) : Option Int := (km.find? fun e => e.1 == a && e.2.1 == b).map (·.2.2)
def kmOk (c : Cmp) (km : List (Int × Int × Int)) : Prop := ∀ e ∈ km, e.2.2 = facM c.splits e.1 e.2.1
def updK (c : Cmp) (km : List (Int × Int × Int)) (a b : Int) : List (Int × Int × Int) := match lkK km a b with
  | some _ => km
  | none => km ++ [(a, b, facM c.splits a b)]
theorem lkK_ok {c : Cmp} {km : List (Int × Int × Int)} (h : kmOk c km) {a b n : Int} (hl : lkK km a b = some n) : n = facM c.splits a b := by
  unfold lkK at hl
  cases hf : km.find? (fun e => e.1 == a && e.2.1 == b) with
  | none => rw [hf] at hl; cases hl
  | some e =>
    rw [hf] at hl
    cases hl
    have h1 := List.find?_some hf
    simp only [Bool.and_eq_true, beq_iff_eq] at h1
    show e.2.2 = _
    rw [h e (List.mem_of_find?_eq_some hf), h1.1, h1.2]
theorem updK_ok {c : Cmp} {km : List (Int × Int × Int)} (h : kmOk c km) (a b : Int) : kmOk c (updK c km a b) := by
  unfold updK
  split
  · exact h
  · intro e he
    rcases List.mem_append.1 he with h1 | h1
    · exact h e h1
    · rcases List.mem_singleton.1 h1 with rfl
      rfl
theorem kmOk_nil (c : Cmp) : kmOk c [] := fun e h => by simp at h
theorem findE_km (a b : Int) : ∀ (km : List (Int × Int × Int)) (i : Nat), findE true [.int .i64, .int .i64] [.int .i64 a, .int .i64 b] (km.map entE) i = some ((km.findIdx? fun e => e.1 == a && e.2.1 == b).map (· + i))
  | [], i => rfl
  | e :: km, i => by
    have ih := findE_km a b km (i + 1)
    simp only [List.map_cons, findE, entE, keyD, vi, toDs, Option.map_some, matchSs, matchS, beq_self_eq_true, Bool.and_true, Bool.true_and, if_true, eqDs, eqD, List.findIdx?_cons]
    have hc : (a == e.1 && b == e.2.1) = (e.1 == a && e.2.1 == b) := by
      rw [Bool.eq_iff_iff]
      simp only [Bool.and_eq_true, beq_iff_eq]
      constructor <;> rintro ⟨rfl, rfl⟩ <;> exact ⟨rfl, rfl⟩
    rw [hc]
    cases (e.1 == a && e.2.1 == b) with
    | true => simp
    | false =>
      simp only [Bool.false_eq_true, if_false]
      rw [ih]
      cases km.findIdx? (fun e => e.1 == a && e.2.1 == b) with
      | none => rfl
      | some j => simp; omega
theorem evLk_km (km : List (Int × Int × Int)) (a b : Int) (rest : Heap) : evLk true [.int .i64, .int .i64] (.d (.int .i64 0)) true (.mp 0) (.agg [.d (.int .i64 a), .d (.int .i64 b)]) (some (.map (km.map entE)) :: rest) = some (.tup [.d (.int .i64 ((lkK km a b).getD 0)), .d (.bool (lkK km a b).isSome)]) := by
  have hf := findE_km a b km 0
  simp only [evLk, List.getElem?_cons_zero, keyD, toDs, Option.map_some, matchSs, matchS, beq_self_eq_true, Bool.and_true, if_true, hf]
  unfold lkK
  cases hi : km.findIdx? (fun e => e.1 == a && e.2.1 == b) with
  | none =>
    have : km.find? (fun e => e.1 == a && e.2.1 == b) = none := by
      rw [List.findIdx?_eq_none_iff] at hi
      rw [List.find?_eq_none]
      intro x hx
      rw [hi x hx]; simp
    simp [this, okV]
  | some j =>
    obtain ⟨hlt, hp, hmin⟩ := List.findIdx?_eq_some_iff_getElem.1 hi
    have : km.find? (fun e => e.1 == a && e.2.1 == b) = some km[j] := by
      rw [List.find?_eq_some_iff_getElem]
      exact ⟨hp, j, hlt, rfl, fun q hq => by have h := hmin q hq; cases hb : (km[q].1 == a && km[q].2.1 == b) <;> simp_all⟩
    simp [this, okV, hlt, entE, vi]
theorem evUp_km (km : List (Int × Int × Int)) (a b n : Int) (rest : Heap) (hn : lkK km a b = none) : evUp true [.int .i64, .int .i64] (.mp 0) (.agg [.d (.int .i64 a), .d (.int .i64 b)]) (.d (.int .i64 n)) (some (.map (km.map entE)) :: rest) = some (some (.map ((km ++ [(a, b, n)]).map entE)) :: rest) := by
  have hf := findE_km a b km 0
  have hi : km.findIdx? (fun e => e.1 == a && e.2.1 == b) = none := by
    unfold lkK at hn
    cases h : km.find? (fun e => e.1 == a && e.2.1 == b) with
    | some e => rw [h] at hn; cases hn
    | none =>
      rw [List.findIdx?_eq_none_iff]
      intro x hx
      have := List.find?_eq_none.1 h x hx
      simpa using this
  simp only [evUp, List.getElem?_cons_zero, keyD, toDs, Option.map_some, matchSs, matchS, beq_self_eq_true, Bool.and_true, if_true, hf, hi, Option.map_none, List.set_cons_zero, List.map_append, List.map_cons, List.map_nil, entE, vi]
theorem w72 (c : Cmp) : sx X9 c72 [] (doneK r72) (envOf [Cv c]) [] [] =
    Tr.need (DP.P (dp True)) (Tr.done (V.ptr (1) (0) (0)) [some (Blk.map []), some (Blk.box [V.d (D.int IntKind.i64 (Cmp.houses c)), V.d (D.sl false (List.length (Cmp.held c)) (enc eI (Cmp.held c))), V.d (D.sl false (List.length (Cmp.trades c)) (enc eT (Cmp.trades c))), V.d (D.sl false (List.length (Cmp.divs c)) (enc eV (Cmp.divs c))), V.d (D.sl false (List.length (Cmp.splits c)) (enc eS (Cmp.splits c))), V.d (D.sl false (List.length (Cmp.closed c)) (enc eR (Cmp.closed c))), V.mp (0)])]) := by kernel_rfl
theorem a72 (c : Cmp) : ACalls Try.prog 72 [Cv c] [] fun v h' => v = .ptr 1 0 0 ∧ h' = Wk c [] [] :=
  q72.calls X9_ok (h := []) rfl (w72 c) (by simp only [holds]; exact ⟨trivial, trivial, rfl⟩)
def X94 : Sx := { sp := spNil, md := fun k => bif Nat.beq k 17 then 3 else 0, sh := shI }
theorem X94_ok : SpOk Try.prog X94.sp := spNil_ok _
def E94 (c : Cmp) (s a b n : Int) (k : Nat) : Env := [(0, .ptr 1 0 0), (1, vi s), (5, .rptr [.int .i64 a, .int .i64 b] 0), (7, vi n), (26, .d (.sl false c.splits.length (enc eS c.splits))), (27, vi c.splits.length), (28, vi k)]
theorem w94 (c : Cmp) (km : List (Int × Int × Int)) (s a b : Int) : sx X94 c94 [] (doneK r94) (envOf [.ptr 1 0 0, vi s, .agg [vi a, vi b]]) [] (Wk c km []) =
    let x1_ := (D.int IntKind.i64 (0 : Int))
    let x2_ := (V.agg [V.d (D.int IntKind.i64 a), V.d (D.int IntKind.i64 b)])
    let x3_ := (evLk true [SK.int IntKind.i64, SK.int IntKind.i64] (V.d x1_) true (V.mp (0)) x2_ (Wk c km []))
    let x4_ := (List.length (Cmp.splits c))
    let x5_ := (D.sl false x4_ (enc eS (Cmp.splits c)))
    let x6_ := [some (Blk.map (List.map entE km)), some (Blk.box [V.d (D.int IntKind.i64 (Cmp.houses c)), V.d (D.sl false (List.length (Cmp.held c)) (enc eI (Cmp.held c))), V.d (D.sl false (List.length (Cmp.trades c)) (enc eT (Cmp.trades c))), V.d (D.sl false (List.length (Cmp.divs c)) (enc eV (Cmp.divs c))), V.d x5_, V.d (D.sl false (List.length (Cmp.closed c)) (enc eR (Cmp.closed c))), V.mp (0)])]
    Tr.need (evLk true [SK.int IntKind.i64, SK.int IntKind.i64] (V.d x1_) true (V.mp (0)) x2_ (Wk c km []) = some (V.tup [V.d (D.int IntKind.i64 (lkN x3_)), V.d (D.bool (lkB x3_))])) (Tr.br (!lkB x3_) (Tr.lp (CCode.at c94 [(1 : Nat), (1 : Nat), (0 : Nat), (1 : Nat), (0 : Nat), (1 : Nat), (0 : Nat), (1 : Nat), (0 : Nat), (0 : Nat)]) [Fr.blk (0), Fr.seq (CCode.at c94 [(1 : Nat), (1 : Nat), (0 : Nat), (1 : Nat), (0 : Nat), (1 : Nat), (1 : Nat)]), Fr.seq (CCode.at c94 [(1 : Nat), (1 : Nat), (1 : Nat)])] [(0, V.ptr (1) (0) (0)), (1, V.d (D.int IntKind.i64 s)), (5, V.rptr [D.int IntKind.i64 a, D.int IntKind.i64 b] (0)), (7, V.d (D.int IntKind.i64 (720 : Int))), (26, V.d x5_), (27, V.d (D.int IntKind.i64 (Int.ofNat x4_))), (28, V.d x1_)] x6_) (Tr.need ((-9223372036854775808 : Int) ≤ s * lkN x3_ ∧ s * lkN x3_ ≤ (9223372036854775807 : Int)) (Tr.done (V.d (D.int IntKind.i64 (s * lkN x3_))) x6_))) := by kernel_rfl
theorem b94 (c : Cmp) (km : List (Int × Int × Int)) (s a b n : Int) (k : Nat) : sx X94 (CCode.at c94 [1,1,0,1,0,1,0,1,0,0]) [] leafK (E94 c s a b n k) [] (Wk c km []) =
    let x1_ := (List.length (Cmp.splits c))
    let x2_ := (decide (Int.ofNat k < Int.ofNat x1_))
    let x3_ := (n * cI (enc eS (Cmp.splits c)) (3 : Nat) (Int.ofNat k) (1))
    let x4_ := (cI (enc eS (Cmp.splits c)) (3 : Nat) (Int.ofNat k) (2))
    let x5_ := ((-9223372036854775808 : Int) ≤ Int.ofNat k + (1 : Int) ∧ Int.ofNat k + (1 : Int) ≤ (9223372036854775807 : Int))
    let x6_ := (D.sl false x1_ (enc eS (Cmp.splits c)))
    let x7_ := (Blk.map (List.map entE km))
    let x8_ := (Blk.box [V.d (D.int IntKind.i64 (Cmp.houses c)), V.d (D.sl false (List.length (Cmp.held c)) (enc eI (Cmp.held c))), V.d (D.sl false (List.length (Cmp.trades c)) (enc eT (Cmp.trades c))), V.d (D.sl false (List.length (Cmp.divs c)) (enc eV (Cmp.divs c))), V.d x6_, V.d (D.sl false (List.length (Cmp.closed c)) (enc eR (Cmp.closed c))), V.mp (0)])
    let x9_ := [some x7_, some x8_, some (Blk.box [V.d (D.int IntKind.i64 (cI (enc eS (Cmp.splits c)) (3 : Nat) (Int.ofNat k) (0 : Nat))), V.d (D.int IntKind.i64 (cI (enc eS (Cmp.splits c)) (3 : Nat) (Int.ofNat k) (1))), V.d (D.int IntKind.i64 x4_)])]
    Tr.br x2_ (Tr.need ((0 : Int) ≤ Int.ofNat k ∧ Int.ofNat k < Int.ofNat x1_ ∧ okEl [0, 0, 0] (enc eS (Cmp.splits c)) (3 : Nat) (Int.ofNat k)) (Tr.br (decide (a < cI (enc eS (Cmp.splits c)) (3 : Nat) (Int.ofNat k) (0 : Nat))) (Tr.br (decide (cI (enc eS (Cmp.splits c)) (3 : Nat) (Int.ofNat k) (0 : Nat) ≤ b)) (Tr.need ((-9223372036854775808 : Int) ≤ n * cI (enc eS (Cmp.splits c)) (3 : Nat) (Int.ofNat k) (1) ∧ n * cI (enc eS (Cmp.splits c)) (3 : Nat) (Int.ofNat k) (1) ≤ (9223372036854775807 : Int)) (Tr.need (cI (enc eS (Cmp.splits c)) (3 : Nat) (Int.ofNat k) (2) ≠ (0 : Int)) (Tr.need ((-9223372036854775808 : Int) ≤ Int.tdiv x3_ x4_ ∧ Int.tdiv x3_ x4_ ≤ (9223372036854775807 : Int)) (Tr.need x5_ (Tr.leaf CExit.normal [(0, V.ptr (1) (0) (0)), (1, V.d (D.int IntKind.i64 s)), (5, V.rptr [D.int IntKind.i64 a, D.int IntKind.i64 b] (0)), (7, V.d (D.int IntKind.i64 (Int.tdiv x3_ x4_))), (26, V.d x6_), (27, V.d (D.int IntKind.i64 (Int.ofNat x1_))), (28, V.d (D.int IntKind.i64 (Int.ofNat k + (1 : Int))))] x9_))))) (Tr.need x5_ (Tr.leaf CExit.normal [(0, V.ptr (1) (0) (0)), (1, V.d (D.int IntKind.i64 s)), (5, V.rptr [D.int IntKind.i64 a, D.int IntKind.i64 b] (0)), (7, V.d (D.int IntKind.i64 n)), (26, V.d x6_), (27, V.d (D.int IntKind.i64 (Int.ofNat x1_))), (28, V.d (D.int IntKind.i64 (Int.ofNat k + (1 : Int))))] x9_))) (Tr.need x5_ (Tr.leaf CExit.normal [(0, V.ptr (1) (0) (0)), (1, V.d (D.int IntKind.i64 s)), (5, V.rptr [D.int IntKind.i64 a, D.int IntKind.i64 b] (0)), (7, V.d (D.int IntKind.i64 n)), (26, V.d x6_), (27, V.d (D.int IntKind.i64 (Int.ofNat x1_))), (28, V.d (D.int IntKind.i64 (Int.ofNat k + (1 : Int))))] x9_)))) (Tr.leaf (CExit.exit (0)) [(0, V.ptr (1) (0) (0)), (1, V.d (D.int IntKind.i64 s)), (5, V.rptr [D.int IntKind.i64 a, D.int IntKind.i64 b] (0)), (7, V.d (D.int IntKind.i64 n)), (26, V.d x6_), (27, V.d (D.int IntKind.i64 (Int.ofNat x1_))), (28, V.d (D.int IntKind.i64 (Int.ofNat k))), (29, V.d (D.bool x2_))] [some x7_, some x8_]) := by kernel_rfl
theorem x94 (c : Cmp) (km : List (Int × Int × Int)) (s a b n : Int) (u v w z : V) : sS X94 (doneK r94) [Fr.blk 0, Fr.seq (CCode.at c94 [1,1,0,1,0,1,1]), Fr.seq (CCode.at c94 [1,1,1])] (.exit 0) [(0, .ptr 1 0 0), (1, vi s), (5, .rptr [.int .i64 a, .int .i64 b] 0), (7, vi n), (26, u), (27, v), (28, w), (29, z)] [] (Wk c km []) =
    Tr.need (evUp true [SK.int IntKind.i64, SK.int IntKind.i64] (V.mp (0 : Nat)) (V.agg [V.d (D.int IntKind.i64 a), V.d (D.int IntKind.i64 b)]) (V.d (D.int IntKind.i64 n)) (Wk c km []) = some (List.set (Wk c km []) (0 : Nat) (some (Blk.map (mapIn (evUp true [SK.int IntKind.i64, SK.int IntKind.i64] (V.mp (0 : Nat)) (V.agg [V.d (D.int IntKind.i64 a), V.d (D.int IntKind.i64 b)]) (V.d (D.int IntKind.i64 n)) (Wk c km [])) (0 : Nat)))))) (Tr.need ((-9223372036854775808 : Int) ≤ s * n ∧ s * n ≤ (9223372036854775807 : Int)) (Tr.done (V.d (D.int IntKind.i64 (s * n))) [some (Blk.map (mapIn (evUp true [SK.int IntKind.i64, SK.int IntKind.i64] (V.mp (0 : Nat)) (V.agg [V.d (D.int IntKind.i64 a), V.d (D.int IntKind.i64 b)]) (V.d (D.int IntKind.i64 n)) (Wk c km [])) (0 : Nat))), some (Blk.box [V.d (D.int IntKind.i64 (Cmp.houses c)), V.d (D.sl false (List.length (Cmp.held c)) (enc eI (Cmp.held c))), V.d (D.sl false (List.length (Cmp.trades c)) (enc eT (Cmp.trades c))), V.d (D.sl false (List.length (Cmp.divs c)) (enc eV (Cmp.divs c))), V.d (D.sl false (List.length (Cmp.splits c)) (enc eS (Cmp.splits c))), V.d (D.sl false (List.length (Cmp.closed c)) (enc eR (Cmp.closed c))), V.mp (0)])])) := by kernel_rfl
theorem split_ok : ∀ (l : List Spl) (last : Int), okSs last l = true → ∀ x ∈ l, 1 ≤ x.num ∧ x.num ≤ 6 ∧ 1 ≤ x.den ∧ x.den ≤ 4
  | [], _, _, x, hx => by simp at hx
  | s :: l, last, h, x, hx => by
    simp only [okSs, Bool.and_eq_true] at h
    rcases List.mem_cons.1 hx with rfl | h1
    · have := h.1
      simp only [okSp, decide_eq_true_eq] at this
      omega
    · exact split_ok l _ h.2 x h1
theorem facM_snoc (l : List Spl) (x : Spl) (a b : Int) : facM (l ++ [x]) a b = facS a b (facM l a b) x := by simp [facM]
theorem facS_in {a b n : Int} {x : Spl} {m : Int} (hx : 1 ≤ x.num ∧ x.num ≤ 6 ∧ 1 ≤ x.den ∧ x.den ≤ 4) (h0 : 0 ≤ n) (h1 : n ≤ m) : 0 ≤ facS a b n x ∧ facS a b n x ≤ 6 * m ∧ 0 ≤ n * x.num ∧ n * x.num ≤ 6 * m ∧ 0 ≤ (n * x.num).tdiv x.den ∧ (n * x.num).tdiv x.den ≤ 6 * m := by
  have h2 : 0 ≤ n * x.num := Int.mul_nonneg h0 (by omega)
  have h3 : n * x.num ≤ m * 6 := Int.mul_le_mul h1 hx.2.1 (by omega) (by omega)
  unfold facS
  rw [Int.tdiv_eq_ediv_of_nonneg h2]
  have h4 : (n * x.num) / x.den ≤ n * x.num := Int.ediv_le_self _ h2
  have h5 : 0 ≤ (n * x.num) / x.den := Int.ediv_nonneg h2 (by omega)
  split <;> omega
theorem lat_mem {α : Type} [Inhabited α] {l : List α} {k : Nat} (hk : k < l.length) : lat l (k : Nat) ∈ l := by
  have : lat l (k : Nat) = l[k] := by simp [lat, hk]
  rw [this]; exact List.getElem_mem hk
theorem a94 (c : Cmp) (km : List (Int × Int × Int)) (s a b : Int) (hs : -1000 ≤ s) (hs2 : s ≤ 1000) (hv : okSs (-1) c.splits = true) (hl : c.splits.length ≤ 2) (hk : kmOk c km) :
    ACalls Try.prog 94 [.ptr 1 0 0, vi s, .agg [vi a, vi b]] (Wk c km []) fun v h' => v = vi (s * facM c.splits a b) ∧ ∃ J, h' = Wk c (updK c km a b) J := by
  have hpow : ∀ k, k ≤ 2 → (0 : Int) ≤ 720 * 6 ^ k ∧ (720 : Int) * 6 ^ k ≤ 25920 := by
    intro k h
    match k, h with
    | 0, _ => decide
    | 1, _ => decide
    | 2, _ => decide
  have hbound : ∀ k, k ≤ c.splits.length → 0 ≤ facM (c.splits.take k) a b ∧ facM (c.splits.take k) a b ≤ 720 * 6 ^ k := by
    intro k
    induction k with
    | zero => intro _; simp [facM]
    | succ k ih =>
      intro hk
      obtain ⟨h1, h2⟩ := ih (by omega)
      rw [take_lat (by omega), facM_snoc]
      have := facS_in (a := a) (b := b) (split_ok _ _ hv _ (lat_mem (show k < c.splits.length by omega))) h1 h2
      rw [Int.pow_succ]
      omega
  have hmul : ∀ n : Int, 0 ≤ n → n ≤ 25920 → -9223372036854775808 ≤ s * n ∧ s * n ≤ 9223372036854775807 := fun n h0 h1 => by
    have e1 : s * n ≤ 1000 * 25920 := by
      rcases Int.le_total 0 s with h | h
      · exact Int.mul_le_mul hs2 h1 h0 (by omega)
      · have : s * n ≤ 0 := Int.mul_nonpos_of_nonpos_of_nonneg h h0
        omega
    have e2 : -(1000 * 25920) ≤ s * n := by
      rcases Int.le_total 0 s with h | h
      · have : 0 ≤ s * n := Int.mul_nonneg h h0
        omega
      · have h3 : (-s) * n ≤ 1000 * 25920 := Int.mul_le_mul (by omega) h1 h0 (by omega)
        have h4 : (-s) * n = -(s * n) := Int.neg_mul s n
        omega
    omega
  have hfull := hbound c.splits.length (Nat.le_refl _)
  rw [List.take_length] at hfull
  have hp2 := hpow c.splits.length hl
  refine q94.calls X94_ok (h := Wk c km []) rfl (w94 c km s a b) ?_
  simp only [holds, Wk, evLk_km, lkN, lkB, true_and]
  refine ⟨fun h1 => ?_, fun h1 => ?_⟩
  · have hnone : lkK km a b = none := by
      cases h : lkK km a b with
      | none => rfl
      | some x => rw [h] at h1; simp at h1
    refine lp_count X94_ok c.splits.length (fun _ => True) (fun k => E94 c s a b (facM (c.splits.take k) a b) k) (fun _ => Wk c km []) rfl rfl trivial (fun k _ => ⟨rfl, rfl, ?_⟩) ?_
    · show ((km.map entE).all _ && true) = true
      simp [List.all_eq_true, entE, bel1, bel0, vi]
    intro k hk' _ Q' hn he hr
    obtain ⟨b1, b2⟩ := hbound k hk'
    have hp := hpow k (by omega)
    rw [b94]
    simp only [holds, Int.ofNat_eq_natCast, cI_S0, cI_S1, cI_S2, true_and]
    refine ⟨fun h2 => ?_, fun h2 => ?_⟩
    · have hlt : k < c.splits.length := by have := of_decide_eq_true h2; omega
      have hx := split_ok _ _ hv _ (lat_mem hlt)
      have hfi := facS_in (a := a) (b := b) hx b1 b2
      have hn1 := fun J => hn J hlt trivial
      simp only [take_lat hlt, facM_snoc, E94, facS] at hn1
      repeat' (first | (refine And.intro ?_ ?_) | (refine fun (_ : _ = _) => ?_))
      all_goals first
        | omega
        | exact ok_S (by simpa using hlt)
        | (simp_all; done)
        | (simp only [decide_eq_true_eq, decide_eq_false_iff_not] at *
           simp only [*, and_self, and_true, true_and, false_and, and_false, if_true, if_false] at hn1
           exact hn1 _)
    · have hge : k = c.splits.length := by have := of_decide_eq_false h2; omega
      subst hge
      rw [List.take_length]
      refine he _ _ _ (ret_tree X94_ok (doneK_ok rfl) (x94 c km s a b _ _ _ _ _) ?_)
      simp only [holds, Wk, evUp_km km a b _ _ hnone, mapIn, List.getElem?_cons_zero, List.set_cons_zero, true_and]
      refine ⟨hmul _ hfull.1 (by omega), rfl, [], ?_⟩
      simp only [updK, hnone]
      rfl
  · cases h : lkK km a b with
    | none => rw [h] at h1; simp at h1
    | some x =>
      have hx := lkK_ok hk h
      subst hx
      simp only [Option.getD_some]
      refine ⟨hmul _ hfull.1 (by omega), rfl, [], ?_⟩
      simp only [updK, h]
      rfl
end
end Go.Proofs.Ytdnefcjbcieecaa
namespace Go.Proofs.Ytdnefcjbcieecaa
open Go Go.Proofs
noncomputable section
theorem q60 : FunIs Try.prog 60 G60 c60 r60 := ⟨Try.f60, Try.func60, k60, e60, by kernel_rfl, by kernel_rfl⟩
def kA (v : V) (i : Nat) : Int := match v with
  | .agg cs => vI cs i
  | _ => 0
def kN (v : V) : Int := match v with
  | .d (.int _ n) => n
  | _ => 0
def dK (es : List (V × V)) : List (Int × Int × Int) := es.map fun p => (kA p.1 0, kA p.1 1, kN p.2)
@[simp] theorem dK_map (km : List (Int × Int × Int)) : dK (km.map entE) = km := by
  simp only [dK, List.map_map]
  have : ((fun p : V × V => (kA p.1 0, kA p.1 1, kN p.2)) ∘ entE) = id := by funext e; rfl
  rw [this, List.map_id]
theorem Wk_bel (c : Cmp) (km : List (Int × Int × Int)) (n : Nat) (hn : 0 < n) : (Wk c km []).all (blkBel n) = true := by
  have h0 : Nat.blt 0 n = true := by rw [Nat.blt_eq]; exact hn
  simp [Wk, Wbox, blkBel, List.all_eq_true, entE, bel1, bel0, vi, h0]
def asW (h : Heap) : Option (Cmp × List (Int × Int × Int) × Heap) := match h with
  | some (.map es) :: some (.box [x0, x1, x2, x3, x4, x5, .mp 0]) :: rest => match asC (.agg [x0, x1, x2, x3, x4, x5]) with
    | some c => some (c, dK es, rest)
    | none => none
  | _ => none
def putW (h : Heap) (km : List (Int × Int × Int)) : Heap := match h with
  | some (.map es) :: r => some (.map (km.map entE)) :: r
  | h => h
def ent94 : Ent := fun args h => match args, asW h with
  | [.ptr 1 0 0, .d (.int .i64 s), .agg [.d (.int .i64 a), .d (.int .i64 b)]], some (c, km, rest) =>
    some (h = Wk c km rest ∧ -1000 ≤ s ∧ s ≤ 1000 ∧ okSs (-1) c.splits = true ∧ c.splits.length ≤ 2 ∧ kmOk c km, vi (s * facM c.splits a b), some (putW h (updK c km a b)))
  | _, _ => none
theorem more_W {P : Program} {f : FuncId} {vs : List V} {c : Cmp} {km km' : List (Int × Int × Int)} {v : V} (ha : vs.all (bel2 2) = true) (hv : bel2 2 v = true) (hc : ACalls P f vs (Wk c km []) fun v1 h1 => v1 = v ∧ ∃ J, h1 = Wk c km' J) (rest : Heap) :
    ACalls P f vs (Wk c km rest) fun v1 h1 => v1 = v ∧ h1 = Wk c km' rest := by
  have h2 := ACalls.more (h0 := Wk c km []) (R := fun v1 k => v1 = v ∧ k = Wk c km' []) ha (Wk_bel c km 2 (by decide)) (hc.mono fun v1 h1 hh => by
    obtain ⟨rfl, J, rfl⟩ := hh
    have e : (Wk c km' J).take (Wk c km []).length = Wk c km' [] := rfl
    rw [e]
    exact ⟨hv, Wk_bel c km' 2 (by decide), rfl, rfl⟩) rest
  exact h2.mono fun v1 h1 ⟨k, _, ⟨e1, e2⟩, e3⟩ => ⟨e1, by rw [e3, e2]; rfl⟩
theorem ent94_ok : EntOk Try.prog 94 ent94 := by
  intro args h p v h' he hp
  unfold ent94 at he
  split at he
  · rename_i s a b c km rest hw
    cases he
    obtain ⟨h1, h2, h3, h4, h5, h6⟩ := hp
    subst h1
    exact more_W rfl rfl (a94 c km s a b h2 h3 h4 h5 h6) rest
  · cases he
def tab13 : Spec := (spAdd 94 ent94 tab11)
theorem tab13_ok : SpOk Try.prog tab13 := (spAdd_ok ent94_ok tab11_ok)
def X13 : Sx := mkX tab13
theorem X13_ok : SpOk Try.prog X13.sp := tab13_ok
def X60 : Sx := { sp := tab13, md := fun k => bif Nat.beq k 74 then 1 else bif Nat.beq k 81 then 1 else 0, sh := shI, sym := true }
theorem X60_ok : SpOk Try.prog X60.sp := tab13_ok
def setF (f : Nat → Int) (i : Nat) (x : Int) : Nat → Int := fun j => if j = i then x else f j
def cells4 (f : Nat → Int) : List V := [vi (f 0), vi (f 1), vi (f 2), vi (f 3)]
def fac (c : Cmp) (a b : Int) : Int := facM c.splits a b
def heldA (c : Cmp) (n : Int) : Nat → Nat → Int
  | 0 => fun _ => 0
  | k + 1 => setF (heldA c n k) k (lat c.held (k : Nat) * fac c (-1) n)
def isReg (c : Cmp) (t : Tru) (n : Int) (k : Nat) : Prop := regM c.closed (lat t.deliv (k : Nat)) ≠ -1 ∧ regM c.closed (lat t.deliv (k : Nat)) ≤ n
instance (c : Cmp) (t : Tru) (n : Int) (k : Nat) : Decidable (isReg c t n k) := inferInstanceAs (Decidable (_ ∧ _))
def unitsT (c : Cmp) (t : Tru) (n : Int) (k : Nat) : Int := (lat c.trades (k : Nat)).shares * fac c (lat t.sold (k : Nat)) n
def moveF (f : Nat → Int) (i j : Nat) (u : Int) : Nat → Int := setF (setF f i (f i - u)) j (setF f i (f i - u) j + u)
def heldT (c : Cmp) (t : Tru) (n : Int) : Nat → Nat → Int
  | 0 => heldA c n c.held.length
  | k + 1 => if isReg c t n k then moveF (heldT c t n k) (lat c.trades (k : Nat)).seller.toNat (lat c.trades (k : Nat)).buyer.toNat (unitsT c t n k) else heldT c t n k
def heldF (c : Cmp) (t : Tru) (n : Int) : Nat → Int := heldT c t n c.trades.length
def kmA (c : Cmp) (n : Int) (km : List (Int × Int × Int)) : Nat → List (Int × Int × Int)
  | 0 => km
  | k + 1 => updK c (kmA c n km k) (-1) n
def kmT (c : Cmp) (t : Tru) (n : Int) (km : List (Int × Int × Int)) : Nat → List (Int × Int × Int)
  | 0 => kmA c n km c.held.length
  | k + 1 => if isReg c t n k then updK c (kmT c t n km k) (lat t.sold (k : Nat)) n else kmT c t n km k
theorem kmA_ok {c : Cmp} {km : List (Int × Int × Int)} (h : kmOk c km) (n : Int) : ∀ k, kmOk c (kmA c n km k)
  | 0 => h
  | k + 1 => updK_ok (kmA_ok h n k) _ _
theorem kmT_ok {c : Cmp} {km : List (Int × Int × Int)} (h : kmOk c km) (t : Tru) (n : Int) : ∀ k, kmOk c (kmT c t n km k)
  | 0 => kmA_ok h n _
  | k + 1 => by
    rw [kmT]
    split
    · exact updK_ok (kmT_ok h t n k) _ _
    · exact kmT_ok h t n k
def E60a (c : Cmp) (t : Tru) (n : Int) (k : Nat) : Env := [(0, .ptr 1 0 0), (2, vi n), (4, .rptr (Uds t) 0), (6, .ptr 2 0 0), (17, .d (dsl eI c.held)), (18, vi c.held.length), (19, vi k)]
def E60b (c : Cmp) (t : Tru) (n : Int) (k : Nat) : Env := [(0, .ptr 1 0 0), (2, vi n), (4, .rptr (Uds t) 0), (6, .ptr 2 0 0), (36, .d (dsl eT c.trades)), (37, vi c.trades.length), (38, vi k)]
theorem w60 (c : Cmp) (t : Tru) (n : Int) (km : List (Int × Int × Int)) : sx X60 c60 [] (doneK r60) (envOf [.ptr 1 0 0, Uv t, vi n]) [] (Wk c km []) =
    Tr.lp (CCode.at c60 [(1 : Nat), (0 : Nat), (1 : Nat), (0 : Nat), (0 : Nat)]) [Fr.blk (0), Fr.seq (CCode.at c60 [(1 : Nat), (1 : Nat)])] [(0, V.ptr (1) (0) (0)), (2, V.d (D.int IntKind.i64 n)), (4, V.rptr (Uds t) (0)), (6, V.ptr (2) (0) (0)), (17, V.d (D.sl false (List.length (Cmp.held c)) (enc eI (Cmp.held c)))), (18, V.d (D.int IntKind.i64 (Int.ofNat (List.length (Cmp.held c))))), (19, V.d (D.int IntKind.i64 (0 : Int)))] [some (Blk.map (List.map entE km)), some (Blk.box [V.d (D.int IntKind.i64 (Cmp.houses c)), V.d (D.sl false (List.length (Cmp.held c)) (enc eI (Cmp.held c))), V.d (D.sl false (List.length (Cmp.trades c)) (enc eT (Cmp.trades c))), V.d (D.sl false (List.length (Cmp.divs c)) (enc eV (Cmp.divs c))), V.d (D.sl false (List.length (Cmp.splits c)) (enc eS (Cmp.splits c))), V.d (D.sl false (List.length (Cmp.closed c)) (enc eR (Cmp.closed c))), V.mp (0)]), some (Blk.box [V.d (D.int IntKind.i64 (0 : Int)), V.d (D.int IntKind.i64 (0 : Int)), V.d (D.int IntKind.i64 (0 : Int)), V.d (D.int IntKind.i64 (0 : Int))])] := by kernel_rfl
theorem b60a (c : Cmp) (t : Tru) (n : Int) (km : List (Int × Int × Int)) (k : Nat) (f : Nat → Int) : sx X60 (CCode.at c60 [1,0,1,0,0]) [] leafK (E60a c t n k) [] (Wk c km [some (.box (cells4 f))]) =
    let x1_ := (List.length (Cmp.held c))
    let x2_ := (decide (Int.ofNat k < Int.ofNat x1_))
    let x3_ := [some (Blk.box (cells4 f))]
    let x4_ := [V.d (D.int IntKind.i64 (cI (enc eI (Cmp.held c)) (1 : Nat) (Int.ofNat k) (0 : Nat) * facM (Cmp.splits (dCe c)) (-1 : Int) n))]
    let x5_ := (D.sl false x1_ (enc eI (Cmp.held c)))
    let x6_ := (Blk.box [V.d (D.int IntKind.i64 (Cmp.houses c)), V.d x5_, V.d (D.sl false (List.length (Cmp.trades c)) (enc eT (Cmp.trades c))), V.d (D.sl false (List.length (Cmp.divs c)) (enc eV (Cmp.divs c))), V.d (D.sl false (List.length (Cmp.splits c)) (enc eS (Cmp.splits c))), V.d (D.sl false (List.length (Cmp.closed c)) (enc eR (Cmp.closed c))), V.mp (0)])
    Tr.br x2_ (Tr.need ((0 : Int) ≤ Int.ofNat k ∧ Int.ofNat k < Int.ofNat x1_ ∧ okEl [0] (enc eI (Cmp.held c)) (1 : Nat) (Int.ofNat k)) (Tr.need (Wk c km x3_ = Wk (dCe c) (dK (List.map entE km)) x3_ ∧ (-1000 : Int) ≤ cI (enc eI (Cmp.held c)) (1 : Nat) (Int.ofNat k) (0 : Nat) ∧ cI (enc eI (Cmp.held c)) (1 : Nat) (Int.ofNat k) (0 : Nat) ≤ (1000 : Int) ∧ okSs (-1 : Int) (Cmp.splits (dCe c)) = true ∧ List.length (Cmp.splits (dCe c)) ≤ (2 : Nat) ∧ kmOk (dCe c) (dK (List.map entE km))) (Tr.need ((0 : Int) ≤ Int.ofNat k ∧ Int.ofNat k < Int.ofNat (4)) (Tr.need ((0 : Nat) + Int.toNat (Int.ofNat k) * (1 : Nat) + List.length x4_ ≤ List.length (cells4 f) ∧ List.length x4_ = (1 : Nat)) (Tr.need ((-9223372036854775808 : Int) ≤ Int.ofNat k + (1 : Int) ∧ Int.ofNat k + (1 : Int) ≤ (9223372036854775807 : Int)) (Tr.leaf CExit.normal [(0, V.ptr (1) (0) (0)), (2, V.d (D.int IntKind.i64 n)), (4, V.rptr (Uds t) (0)), (6, V.ptr (2) (0) (0)), (17, V.d x5_), (18, V.d (D.int IntKind.i64 (Int.ofNat x1_))), (19, V.d (D.int IntKind.i64 (Int.ofNat k + (1 : Int))))] [some (Blk.map (List.map entE (updK (dCe c) (dK (List.map entE km)) (-1 : Int) n))), some x6_, some (Blk.box (putAt (cells4 f) ((0 : Nat) + Int.toNat (Int.ofNat k) * (1 : Nat)) x4_))])))))) (Tr.leaf (CExit.exit (0)) [(0, V.ptr (1) (0) (0)), (2, V.d (D.int IntKind.i64 n)), (4, V.rptr (Uds t) (0)), (6, V.ptr (2) (0) (0)), (17, V.d x5_), (18, V.d (D.int IntKind.i64 (Int.ofNat x1_))), (19, V.d (D.int IntKind.i64 (Int.ofNat k))), (20, V.d (D.bool x2_))] [some (Blk.map (List.map entE km)), some x6_, some (Blk.box [V.d (D.int IntKind.i64 (f (0 : Nat))), V.d (D.int IntKind.i64 (f (1 : Nat))), V.d (D.int IntKind.i64 (f (2 : Nat))), V.d (D.int IntKind.i64 (f (3 : Nat)))])]) := by kernel_rfl
theorem x60a (c : Cmp) (t : Tru) (n : Int) (km : List (Int × Int × Int)) (f : Nat → Int) (u v w z : V) : sS X60 (doneK r60) [Fr.blk 0, Fr.seq (CCode.at c60 [1,1])] (.exit 0) [(0, .ptr 1 0 0), (2, vi n), (4, .rptr (Uds t) 0), (6, .ptr 2 0 0), (17, u), (18, v), (19, w), (20, z)] [] (Wk c km [some (.box (cells4 f))]) =
    Tr.lp (CCode.at c60 [(1 : Nat), (1 : Nat), (0 : Nat), (1 : Nat), (0 : Nat), (0 : Nat)]) [Fr.blk (2), Fr.seq (CCode.at c60 [(1 : Nat), (1 : Nat), (1 : Nat)])] [(0, V.ptr (1) (0) (0)), (2, V.d (D.int IntKind.i64 n)), (4, V.rptr (Uds t) (0)), (6, V.ptr (2) (0) (0)), (36, V.d (D.sl false (List.length (Cmp.trades c)) (enc eT (Cmp.trades c)))), (37, V.d (D.int IntKind.i64 (Int.ofNat (List.length (Cmp.trades c))))), (38, V.d (D.int IntKind.i64 (0 : Int)))] [some (Blk.map (List.map entE km)), some (Blk.box [V.d (D.int IntKind.i64 (Cmp.houses c)), V.d (D.sl false (List.length (Cmp.held c)) (enc eI (Cmp.held c))), V.d (D.sl false (List.length (Cmp.trades c)) (enc eT (Cmp.trades c))), V.d (D.sl false (List.length (Cmp.divs c)) (enc eV (Cmp.divs c))), V.d (D.sl false (List.length (Cmp.splits c)) (enc eS (Cmp.splits c))), V.d (D.sl false (List.length (Cmp.closed c)) (enc eR (Cmp.closed c))), V.mp (0)]), some (Blk.box [V.d (D.int IntKind.i64 (f (0 : Nat))), V.d (D.int IntKind.i64 (f (1 : Nat))), V.d (D.int IntKind.i64 (f (2 : Nat))), V.d (D.int IntKind.i64 (f (3 : Nat)))])] := by kernel_rfl
theorem b60b (c : Cmp) (t : Tru) (n : Int) (km : List (Int × Int × Int)) (k : Nat) (f : Nat → Int) : sx X60 (CCode.at c60 [1,1,0,1,0,0]) [] leafK (E60b c t n k) [] (Wk c km [some (.box (cells4 f))]) =
    let x1_ := (List.length (Cmp.trades c))
    let x2_ := (decide (Int.ofNat k < Int.ofNat x1_))
    let x3_ := (cI (enc eT (Cmp.trades c)) (7 : Nat) (Int.ofNat k) (0 : Nat))
    let x4_ := (cI (enc eT (Cmp.trades c)) (7 : Nat) (Int.ofNat k) (1))
    let x5_ := [V.d (D.int IntKind.i64 x3_), V.d (D.int IntKind.i64 x4_), V.d (D.int IntKind.i64 (cI (enc eT (Cmp.trades c)) (7 : Nat) (Int.ofNat k) (2))), V.d (D.int IntKind.i64 (cI (enc eT (Cmp.trades c)) (7 : Nat) (Int.ofNat k) (3))), V.d (D.int IntKind.i64 (cI (enc eT (Cmp.trades c)) (7 : Nat) (Int.ofNat k) (4))), V.d (D.int IntKind.i64 (cI (enc eT (Cmp.trades c)) (7 : Nat) (Int.ofNat k) (5))), V.d (D.int IntKind.i64 (cI (enc eT (Cmp.trades c)) (7 : Nat) (Int.ofNat k) (6)))]
    let x6_ := (D.int IntKind.i64 (0 : Int))
    let x7_ := [V.d x6_, V.d x6_, V.d x6_, V.d x6_, V.d x6_, V.d x6_, V.d x6_]
    let x8_ := (cI (enc eI (Tru.deliv t)) (1 : Nat) (Int.ofNat k) (0 : Nat))
    let x9_ := (Blk.map (List.map entE km))
    let x10_ := (D.sl false x1_ (enc eT (Cmp.trades c)))
    let x11_ := (Blk.box [V.d (D.int IntKind.i64 (Cmp.houses c)), V.d (D.sl false (List.length (Cmp.held c)) (enc eI (Cmp.held c))), V.d x10_, V.d (D.sl false (List.length (Cmp.divs c)) (enc eV (Cmp.divs c))), V.d (D.sl false (List.length (Cmp.splits c)) (enc eS (Cmp.splits c))), V.d (D.sl false (List.length (Cmp.closed c)) (enc eR (Cmp.closed c))), V.mp (0)])
    let x12_ := (Blk.box [V.d (D.int IntKind.i64 (f (0 : Nat))), V.d (D.int IntKind.i64 (f (1 : Nat))), V.d (D.int IntKind.i64 (f (2 : Nat))), V.d (D.int IntKind.i64 (f (3 : Nat)))])
    let x13_ := [some x9_, some x11_, some x12_, some (Blk.box x5_)]
    let x14_ := ((0 : Int) ≤ cI (enc eT (Cmp.trades c)) (7 : Nat) (Int.ofNat k) (0 : Nat) ∧ cI (enc eT (Cmp.trades c)) (7 : Nat) (Int.ofNat k) (0 : Nat) < Int.ofNat (4))
    let x15_ := ((0 : Nat) + Int.toNat x3_ * (1 : Nat))
    let x16_ := (cI (enc eI (Tru.sold t)) (1 : Nat) (Int.ofNat k) (0 : Nat))
    let x17_ := [V.d (D.int IntKind.i64 (vI (cells4 f) x15_ - cI (enc eT (Cmp.trades c)) (7 : Nat) (Int.ofNat k) (2) * facM (Cmp.splits (dCe c)) x16_ n))]
    let x18_ := ((0 : Int) ≤ cI (enc eT (Cmp.trades c)) (7 : Nat) (Int.ofNat k) (1) ∧ cI (enc eT (Cmp.trades c)) (7 : Nat) (Int.ofNat k) (1) < Int.ofNat (4))
    let x19_ := (putAt (cells4 f) x15_ x17_)
    let x20_ := ((0 : Nat) + Int.toNat x4_ * (1 : Nat))
    let x21_ := [V.d (D.int IntKind.i64 (vI x19_ x20_ + cI (enc eT (Cmp.trades c)) (7 : Nat) (Int.ofNat k) (2) * facM (Cmp.splits (dCe c)) x16_ n))]
    let x22_ := ((-9223372036854775808 : Int) ≤ Int.ofNat k + (1 : Int) ∧ Int.ofNat k + (1 : Int) ≤ (9223372036854775807 : Int))
    Tr.br x2_ (Tr.need ((0 : Int) ≤ Int.ofNat k ∧ Int.ofNat k < Int.ofNat x1_ ∧ okEl [0, 0, 0, 0, 0, 0, 0] (enc eT (Cmp.trades c)) (7 : Nat) (Int.ofNat k)) (Tr.need ((0 : Nat) + List.length x5_ ≤ List.length x7_ ∧ List.length x5_ = (7 : Nat)) (Tr.need ((0 : Int) ≤ Int.ofNat k ∧ Int.ofNat k < Int.ofNat (List.length (Tru.deliv t)) ∧ okEl [0] (enc eI (Tru.deliv t)) (1 : Nat) (Int.ofNat k)) (Tr.need (Cv (dCe c) = Cv c ∧ List.length (Cmp.closed (dCe c)) ≤ (140737488355328 : Nat)) (Tr.br (regM (Cmp.closed (dCe c)) x8_ != (-1 : Int)) (Tr.br (decide (regM (Cmp.closed (dCe c)) x8_ ≤ n)) (Tr.need ((0 : Int) ≤ Int.ofNat k ∧ Int.ofNat k < Int.ofNat (List.length (Tru.sold t)) ∧ okEl [0] (enc eI (Tru.sold t)) (1 : Nat) (Int.ofNat k)) (Tr.need (x13_ = Wk (dCe c) (dK (List.map entE km)) [some (Blk.box (cells4 f)), some (Blk.box (putAt x7_ (0 : Nat) x5_))] ∧ (-1000 : Int) ≤ cI (enc eT (Cmp.trades c)) (7 : Nat) (Int.ofNat k) (2) ∧ cI (enc eT (Cmp.trades c)) (7 : Nat) (Int.ofNat k) (2) ≤ (1000 : Int) ∧ okSs (-1 : Int) (Cmp.splits (dCe c)) = true ∧ List.length (Cmp.splits (dCe c)) ≤ (2 : Nat) ∧ kmOk (dCe c) (dK (List.map entE km))) (Tr.need x14_ (Tr.need ((cells4 f)[(0 : Nat) + Int.toNat x3_ * (1 : Nat)]? = some (V.d (D.int IntKind.i64 (vI (cells4 f) x15_)))) (Tr.need ((-9223372036854775808 : Int) ≤ vI (cells4 f) x15_ - cI (enc eT (Cmp.trades c)) (7 : Nat) (Int.ofNat k) (2) * facM (Cmp.splits (dCe c)) x16_ n ∧ vI (cells4 f) x15_ - cI (enc eT (Cmp.trades c)) (7 : Nat) (Int.ofNat k) (2) * facM (Cmp.splits (dCe c)) x16_ n ≤ (9223372036854775807 : Int)) (Tr.need x14_ (Tr.need ((0 : Nat) + Int.toNat x3_ * (1 : Nat) + List.length x17_ ≤ List.length (cells4 f) ∧ List.length x17_ = (1 : Nat)) (Tr.need x18_ (Tr.need (x19_[(0 : Nat) + Int.toNat x4_ * (1 : Nat)]? = some (V.d (D.int IntKind.i64 (vI x19_ x20_)))) (Tr.need ((-9223372036854775808 : Int) ≤ vI x19_ x20_ + cI (enc eT (Cmp.trades c)) (7 : Nat) (Int.ofNat k) (2) * facM (Cmp.splits (dCe c)) x16_ n ∧ vI x19_ x20_ + cI (enc eT (Cmp.trades c)) (7 : Nat) (Int.ofNat k) (2) * facM (Cmp.splits (dCe c)) x16_ n ≤ (9223372036854775807 : Int)) (Tr.need x18_ (Tr.need ((0 : Nat) + Int.toNat x4_ * (1 : Nat) + List.length x21_ ≤ List.length x19_ ∧ List.length x21_ = (1 : Nat)) (Tr.need x22_ (Tr.leaf CExit.normal [(0, V.ptr (1) (0) (0)), (2, V.d (D.int IntKind.i64 n)), (4, V.rptr (Uds t) (0)), (6, V.ptr (2) (0) (0)), (36, V.d x10_), (37, V.d (D.int IntKind.i64 (Int.ofNat x1_))), (38, V.d (D.int IntKind.i64 (Int.ofNat k + (1 : Int))))] [some (Blk.map (List.map entE (updK (dCe c) (dK (List.map entE km)) x16_ n))), some x11_, some (Blk.box (putAt x19_ x20_ x21_)), some (Blk.box x5_)])))))))))))))) (Tr.need x22_ (Tr.leaf CExit.normal [(0, V.ptr (1) (0) (0)), (2, V.d (D.int IntKind.i64 n)), (4, V.rptr (Uds t) (0)), (6, V.ptr (2) (0) (0)), (36, V.d x10_), (37, V.d (D.int IntKind.i64 (Int.ofNat x1_))), (38, V.d (D.int IntKind.i64 (Int.ofNat k + (1 : Int))))] x13_))) (Tr.need x22_ (Tr.leaf CExit.normal [(0, V.ptr (1) (0) (0)), (2, V.d (D.int IntKind.i64 n)), (4, V.rptr (Uds t) (0)), (6, V.ptr (2) (0) (0)), (36, V.d x10_), (37, V.d (D.int IntKind.i64 (Int.ofNat x1_))), (38, V.d (D.int IntKind.i64 (Int.ofNat k + (1 : Int))))] x13_))))))) (Tr.leaf (CExit.exit (2)) [(0, V.ptr (1) (0) (0)), (2, V.d (D.int IntKind.i64 n)), (4, V.rptr (Uds t) (0)), (6, V.ptr (2) (0) (0)), (36, V.d x10_), (37, V.d (D.int IntKind.i64 (Int.ofNat x1_))), (38, V.d (D.int IntKind.i64 (Int.ofNat k))), (39, V.d (D.bool x2_))] [some x9_, some x11_, some x12_]) := by kernel_rfl
theorem x60b (c : Cmp) (t : Tru) (n : Int) (km : List (Int × Int × Int)) (f : Nat → Int) (u v w z : V) : sS X60 (doneK r60) [Fr.blk 2, Fr.seq (CCode.at c60 [1,1,1])] (.exit 2) [(0, .ptr 1 0 0), (2, vi n), (4, .rptr (Uds t) 0), (6, .ptr 2 0 0), (36, u), (37, v), (38, w), (39, z)] [] (Wk c km [some (.box (cells4 f))]) =
    Tr.need ((0 : Nat) + List.length [V.d (D.int IntKind.i64 (f (0 : Nat))), V.d (D.int IntKind.i64 (f (1 : Nat))), V.d (D.int IntKind.i64 (f (2 : Nat))), V.d (D.int IntKind.i64 (f (3 : Nat)))] ≤ List.length (cells4 f) ∧ List.length [V.d (D.int IntKind.i64 (f (0 : Nat))), V.d (D.int IntKind.i64 (f (1 : Nat))), V.d (D.int IntKind.i64 (f (2 : Nat))), V.d (D.int IntKind.i64 (f (3 : Nat)))] = (4 : Nat)) (Tr.done (V.agg [V.d (D.int IntKind.i64 (f (0 : Nat))), V.d (D.int IntKind.i64 (f (1 : Nat))), V.d (D.int IntKind.i64 (f (2 : Nat))), V.d (D.int IntKind.i64 (f (3 : Nat)))]) [some (Blk.map (List.map entE km)), some (Blk.box [V.d (D.int IntKind.i64 (Cmp.houses c)), V.d (D.sl false (List.length (Cmp.held c)) (enc eI (Cmp.held c))), V.d (D.sl false (List.length (Cmp.trades c)) (enc eT (Cmp.trades c))), V.d (D.sl false (List.length (Cmp.divs c)) (enc eV (Cmp.divs c))), V.d (D.sl false (List.length (Cmp.splits c)) (enc eS (Cmp.splits c))), V.d (D.sl false (List.length (Cmp.closed c)) (enc eR (Cmp.closed c))), V.mp (0)]), some (Blk.box [V.d (D.int IntKind.i64 (f (0 : Nat))), V.d (D.int IntKind.i64 (f (1 : Nat))), V.d (D.int IntKind.i64 (f (2 : Nat))), V.d (D.int IntKind.i64 (f (3 : Nat)))])]) := by kernel_rfl
theorem Wk_belr (c : Cmp) (km : List (Int × Int × Int)) (rest : Heap) (n : Nat) (hn : 0 < n) (hr : rest.all (blkBel n) = true) : (Wk c km rest).all (blkBel n) = true := by
  have h0 : Nat.blt 0 n = true := by rw [Nat.blt_eq]; exact hn
  have : (Wk c km rest).all (blkBel n) = ((Wk c km []).all (blkBel n) && rest.all (blkBel n)) := by simp [Wk, Bool.and_assoc]
  rw [this, Wk_bel c km n hn, hr]; rfl
theorem facM_in {l : List Spl} (hv : okSs (-1) l = true) (hl : l.length ≤ 2) (a b : Int) : 0 ≤ facM l a b ∧ facM l a b ≤ 25920 := by
  have hbound : ∀ k, k ≤ l.length → 0 ≤ facM (l.take k) a b ∧ facM (l.take k) a b ≤ 720 * 6 ^ k := by
    intro k
    induction k with
    | zero => intro _; simp [facM]
    | succ k ih =>
      intro hk
      obtain ⟨h1, h2⟩ := ih (by omega)
      rw [take_lat (by omega), facM_snoc]
      have := facS_in (a := a) (b := b) (split_ok _ _ hv _ (lat_mem (show k < l.length by omega))) h1 h2
      rw [Int.pow_succ]
      omega
  have h := hbound l.length (Nat.le_refl _)
  rw [List.take_length] at h
  have hp : (720 : Int) * 6 ^ l.length ≤ 25920 := by
    match l.length, hl with
    | 0, _ => decide
    | 1, _ => decide
    | 2, _ => decide
  omega
theorem mul_in {s n : Int} (h0 : 0 ≤ s) (h1 : s ≤ 100) (h2 : 0 ≤ n) (h3 : n ≤ 25920) : 0 ≤ s * n ∧ s * n ≤ 2592000 :=
  ⟨Int.mul_nonneg h0 h2, by have : s * n ≤ 100 * 25920 := Int.mul_le_mul h1 h3 h2 (by omega); omega⟩
theorem held_in {c : Cmp} (hf : faultM c = 0) {k : Nat} (hk : k < c.held.length) : 0 ≤ lat c.held (k : Nat) ∧ lat c.held (k : Nat) ≤ 100 := by
  have := List.all_eq_true.1 (fault_ok hf).2.1 _ (lat_mem hk)
  simp only [Rng.has, inR, decide_eq_true_eq] at this
  exact this
theorem trade_in {c : Cmp} (hf : faultM c = 0) {k : Nat} (hk : k < c.trades.length) : okTr c.houses (lat c.trades (k : Nat)) = true := List.all_eq_true.1 (fault_ok hf).2.2.1 _ (lat_mem hk)
theorem fac_in {c : Cmp} (hf : faultM c = 0) (a b : Int) : 0 ≤ fac c a b ∧ fac c a b ≤ 25920 := by
  have h := fault_ok hf
  exact facM_in h.2.2.2.2.1 h.1.2.2.2.2.2.1 a b
theorem heldA_in {c : Cmp} (hf : faultM c = 0) (n : Int) : ∀ k, k ≤ c.held.length → ∀ i, 0 ≤ heldA c n k i ∧ heldA c n k i ≤ 2592000
  | 0, _, i => by simp [heldA]
  | k + 1, hk, i => by
    have ih := heldA_in hf n k (by omega) i
    have h1 := held_in hf (k := k) (by omega)
    have h2 := fac_in hf (-1) n
    have h3 := mul_in h1.1 h1.2 h2.1 h2.2
    simp only [heldA, setF]
    split <;> omega
theorem unitsT_in {c : Cmp} (hf : faultM c = 0) (t : Tru) (n : Int) {k : Nat} (hk : k < c.trades.length) : 0 ≤ unitsT c t n k ∧ unitsT c t n k ≤ 2592000 := by
  have h1 := trade_in hf hk
  simp only [okTr, Bool.and_eq_true, decide_eq_true_eq] at h1
  have h2 := fac_in hf (lat t.sold (k : Nat)) n
  exact mul_in (by omega) (by omega) h2.1 h2.2
theorem heldT_in {c : Cmp} (hf : faultM c = 0) (t : Tru) (n : Int) : ∀ k, k ≤ c.trades.length → ∀ i, -(2592000 * (2 * (k : Int) + 1)) ≤ heldT c t n k i ∧ heldT c t n k i ≤ 2592000 * (2 * (k : Int) + 1)
  | 0, _, i => by have := heldA_in hf n _ (Nat.le_refl _) i; simp only [heldT]; omega
  | k + 1, hk, i => by
    have ih := heldT_in hf t n k (by omega)
    have hu := unitsT_in hf t n (k := k) (by omega)
    rw [heldT]
    split
    · simp only [moveF, setF]
      have h1 := ih i
      have h2 := ih (lat c.trades (k : Nat)).seller.toNat
      have h3 := ih (lat c.trades (k : Nat)).buyer.toNat
      split <;> split <;> omega
    · have h1 := ih i; omega
theorem cells4_get (f : Nat → Int) {i : Int} (h0 : 0 ≤ i) (h : i < 4) : (cells4 f)[0 + i.toNat * 1]? = some (V.d (D.int IntKind.i64 (vI (cells4 f) (0 + i.toNat * 1)))) := by
  have : i = 0 ∨ i = 1 ∨ i = 2 ∨ i = 3 := by omega
  rcases this with rfl | rfl | rfl | rfl <;> rfl
theorem cells4_vI (f : Nat → Int) {i : Int} (h0 : 0 ≤ i) (h : i < 4) : vI (cells4 f) (0 + i.toNat * 1) = f i.toNat := by
  have : i = 0 ∨ i = 1 ∨ i = 2 ∨ i = 3 := by omega
  rcases this with rfl | rfl | rfl | rfl <;> rfl
theorem cells4_get2 (f : Nat → Int) {i : Int} (h0 : 0 ≤ i) (h : i < 4) : (cells4 f)[0 + i.toNat * 1]? = some (V.d (D.int IntKind.i64 (f i.toNat))) := by
  rw [cells4_get f h0 h, cells4_vI f h0 h]
theorem cells4_put (f : Nat → Int) {i : Int} (h0 : 0 ≤ i) (h : i < 4) (x : Int) : putAt (cells4 f) (0 + i.toNat * 1) [V.d (D.int IntKind.i64 x)] = cells4 (setF f i.toNat x) := by
  have : i = 0 ∨ i = 1 ∨ i = 2 ∨ i = 3 := by omega
  rcases this with rfl | rfl | rfl | rfl <;> rfl
theorem cells4_len (f : Nat → Int) : (cells4 f).length = 4 := rfl
theorem a60 (c : Cmp) (t : Tru) (n : Int) (km : List (Int × Int × Int)) (hf : faultM c = 0) (hs : t.sold.length = c.trades.length) (hd : t.deliv.length = c.trades.length) (hkm : kmOk c km) :
    ACalls Try.prog 60 [.ptr 1 0 0, Uv t, vi n] (Wk c km []) fun v h' => v = .agg (cells4 (heldF c t n)) ∧ ∃ J, h' = Wk c (kmT c t n km c.trades.length) J := by
  obtain ⟨⟨g1, g2, g3, g4, g5, g6, g7⟩, g8, g9, g10, g11, g12⟩ := fault_ok hf
  refine q60.calls X60_ok (h := Wk c km []) rfl (w60 c t n km) ?_
  simp only [holds]
  refine lp_count X60_ok c.held.length (fun _ => True) (E60a c t n) (fun k => Wk c (kmA c n km k) [some (.box (cells4 (heldA c n k)))]) rfl rfl trivial (fun k _ => ⟨rfl, rfl, Wk_belr _ _ _ 3 (by decide) rfl⟩) ?_
  intro k hk _ Q' hn he hr
  rw [b60a]
  simp only [holds, Int.ofNat_eq_natCast, cI_I, dCe, dC_enc, dK_map, true_and, cells4_len]
  refine ⟨fun h1 => ?_, fun h1 => ?_⟩
  · have hlt : k < c.held.length := by have := of_decide_eq_true h1; omega
    have hh := held_in hf hlt
    refine ⟨⟨by omega, by omega, ok_I (by simpa using hlt)⟩, ⟨by omega, by omega, g11, g6, kmA_ok hkm n k⟩, ⟨by omega, by omega⟩, ⟨by simp; omega, rfl⟩, ⟨by omega, by omega⟩, ?_⟩
    have := hn [] hlt trivial
    rw [cells4_put _ (by omega) (by omega)]
    exact this
  · have hge : k = c.held.length := by have := of_decide_eq_false h1; omega
    subst hge
    refine he _ _ _ (ret_tree X60_ok (doneK_ok rfl) (x60a c t n _ _ _ _ _ _) ?_)
    simp only [holds]
    refine lp_count X60_ok c.trades.length (fun _ => True) (E60b c t n) (fun k => Wk c (kmT c t n km k) [some (.box (cells4 (heldT c t n k)))]) rfl rfl trivial (fun k _ => ⟨rfl, rfl, Wk_belr _ _ _ 3 (by decide) rfl⟩) ?_
    clear hn he hr
    intro k hk _ Q' hn he hr
    rw [b60b]
    simp only [holds, Int.ofNat_eq_natCast, cI_I, cI_T0, cI_T1, cI_T2, dCe, dC_enc, dK_map, true_and, cells4_len]
    refine ⟨fun h1 => ?_, fun h1 => ?_⟩
    · have hlt : k < c.trades.length := by have := of_decide_eq_true h1; omega
      have ht := trade_in hf hlt
      simp only [okTr, Bool.and_eq_true, decide_eq_true_eq] at ht
      have hn1 := fun J => hn J hlt trivial
      have hu := unitsT_in hf t n hlt
      have hb := fun i => heldT_in hf t n k hk i
      have o1 : okEl [0, 0, 0, 0, 0, 0, 0] (enc eT c.trades) 7 (k : Nat) := ok_T (by simpa using hlt)
      have o2 : okEl [0] (enc eI t.deliv) 1 (k : Nat) := ok_I (by simp; omega)
      have o3 : okEl [0] (enc eI t.sold) 1 (k : Nat) := ok_I (by simp; omega)
      have k0 := kmT_ok hkm t n k
      refine ⟨⟨by omega, by omega, o1⟩, ⟨by simp, rfl⟩, ⟨by omega, by omega, o2⟩, by omega, fun h2 => ⟨fun h3 => ?_, fun h3 => ?_⟩, fun h2 => ?_⟩
      · have hreg : isReg c t n k := ⟨by simpa using h2, of_decide_eq_true h3⟩
        refine ⟨⟨by omega, by omega, o3⟩, ⟨rfl, by omega, by omega, g11, g6, k0⟩, ⟨by omega, by omega⟩, cells4_get _ (by omega) (by omega), ?_⟩
        rw [cells4_put _ (by omega) (by omega), cells4_vI _ (by omega) (by omega), cells4_vI _ (by omega) (by omega)]
        have e : (lat c.trades (k : Nat)).shares * facM c.splits (lat t.sold (k : Nat)) n = unitsT c t n k := rfl
        rw [e]
        simp only [kmT, heldT, if_pos hreg] at hn1
        have b1 := hb (lat c.trades (k : Nat)).seller.toNat
        have b2 : setF (heldT c t n k) (lat c.trades (k : Nat)).seller.toNat (heldT c t n k (lat c.trades (k : Nat)).seller.toNat - unitsT c t n k) (lat c.trades (k : Nat)).buyer.toNat ≤ 2592000 * (2 * (k : Int) + 1) ∧ -(2592000 * (2 * (k : Int) + 2)) ≤ setF (heldT c t n k) (lat c.trades (k : Nat)).seller.toNat (heldT c t n k (lat c.trades (k : Nat)).seller.toNat - unitsT c t n k) (lat c.trades (k : Nat)).buyer.toNat := by
          have b2 := hb (lat c.trades (k : Nat)).buyer.toNat
          simp only [setF]
          split <;> omega
        refine ⟨⟨by omega, by omega⟩, ⟨by omega, by omega⟩, ⟨by simp; omega, rfl⟩, ⟨by omega, by omega⟩, cells4_get2 _ (by omega) (by omega), ⟨by omega, by omega⟩, ⟨by omega, by omega⟩, ⟨by simp [cells4]; omega, rfl⟩, ⟨by omega, by omega⟩, ?_⟩
        rw [cells4_put _ (by omega) (by omega)]
        exact hn1 _
      · have hreg : ¬ isReg c t n k := fun h => by have := of_decide_eq_false h3; exact this h.2
        simp only [kmT, heldT, if_neg hreg] at hn1
        exact ⟨⟨by omega, by omega⟩, hn1 _⟩
      · have hreg : ¬ isReg c t n k := fun h => by have := h.1; simp_all
        simp only [kmT, heldT, if_neg hreg] at hn1
        exact ⟨⟨by omega, by omega⟩, hn1 _⟩
    · have hge : k = c.trades.length := by have := of_decide_eq_false h1; omega
      subst hge
      refine he _ _ _ (ret_tree X60_ok (doneK_ok rfl) (x60b c t n _ _ _ _ _ _) ?_)
      simp only [holds]
      exact ⟨⟨by simp [cells4], rfl⟩, rfl, [some (.box (cells4 (heldT c t n c.trades.length)))], rfl⟩
end
end Go.Proofs.Ytdnefcjbcieecaa
namespace Go.Proofs.Ytdnefcjbcieecaa
open Go Go.Proofs
def G51 : Cfg := ⟨[], [(0, [2, 3]), (1, [6]), (2, [4])], 15, []⟩
def r51 : List CRes := [.tmp 4]
def c51 : CCode :=
(.seq (.region [
  ⟨(some 2), none, .simple (.box false (.tmp 0))⟩,
  ⟨(some 3), none, .simple (.box false (.tmp 1))⟩,
  ⟨(some 4), none, .simple (.move (.const (.bool false)))⟩] (some [2, 3]))
(.seq (.region [
  ⟨(some 8), none, .simple (.load (some 6) (.tmp 2))⟩,
  ⟨(some 9), none, .simple (.load (some 2) (.tmp 3))⟩,
  ⟨(some 10), none, .call (.func 58) [(.tmp 8), (.tmp 9)]⟩,
  ⟨(some 7), none, .simple (.move (.tmp 10))⟩,
  ⟨(some 11), none, .simple (.extract (.tmp 7) 0)⟩,
  ⟨(some 12), none, .simple (.extract (.tmp 7) 1)⟩,
  ⟨(some 5), none, .simple (.move (.tmp 11))⟩,
  ⟨(some 6), none, .simple (.move (.tmp 12))⟩] (some [6]))
(.seq (.region [
  ⟨(some 13), none, .simple (.move (.tmp 6))⟩,
  ⟨(some 14), none, .simple (.bin .eql (.tmp 13) (.const (.int .i64 0)))⟩,
  ⟨(some 4), none, .simple (.move (.tmp 14))⟩] (some [4]))
.ret)))
theorem k51 : Try.f51.body.bind (compC Try.prog G51) = some c51 := by kernel_rfl
theorem e51 : compRes Try.prog Try.f51.results.toList = some r51 := by kernel_rfl
def G24 : Cfg := ⟨[85, 11], [(0, [2, 3, 4]), (1, [2, 3, 4, 7]), (2, [2, 3, 4, 7, 8]), (3, [2, 3, 4, 7, 8, 16]), (5, [2, 3, 4, 7, 8, 9]), (6, [2, 3, 4, 7, 8, 9, 10]), (7, [2, 3, 4, 7, 8, 9, 10, 31]), (9, [2, 3, 4, 7, 8, 9, 10, 11]), (10, [2, 3, 4, 7, 8, 9, 10, 11, 12]), (11, [2, 3, 4, 7, 8, 9, 10, 11, 49]), (12, [2, 3, 4, 7, 8, 9, 10, 11, 53]), (13, [2, 3, 4, 7, 8, 9, 10, 11]), (14, [2, 3, 4, 7, 8, 9, 10, 11, 69]), (15, [2, 3, 4, 7, 8, 9, 10]), (8, [2, 3, 4, 7, 8, 9, 10]), (16, [2, 3, 4, 7, 8]), (4, [2, 3, 4, 7, 8]), (17, [6])], 87, []⟩
def r24 : List CRes := [.tmp 6]
def c24 : CCode :=
(.seq (.region [
  ⟨(some 3), none, .simple (.box false (.tmp 0))⟩,
  ⟨(some 4), none, .simple (.box false (.tmp 1))⟩,
  ⟨(some 6), none, .simple (.move (.const (.slice none 0 0)))⟩] (some [2, 3, 4]))
(.seq (.region [
  ⟨(some 7), none, .simple (.move (.const (.slice none 0 0)))⟩] (some [2, 3, 4, 7]))
(.seq (.seq (.region [
  ⟨(some 8), none, .simple (.move (.const (.int .i64 0)))⟩] (some [2, 3, 4, 7, 8]))
(.block 0 (.loop (.seq (.seq (.region [
    ⟨(some 13), none, .simple (.move (.tmp 8))⟩,
    ⟨(some 14), none, .simple (.fieldAddr 0 (.tmp 3))⟩,
    ⟨(some 15), none, .simple (.load none (.tmp 14))⟩,
    ⟨(some 16), none, .simple (.bin .lss (.tmp 13) (.tmp 15))⟩] (some [2, 3, 4, 7, 8, 16]))
  (.cond (.tmp 16)
   .skip
   (.exit 0)))
  (.seq (.block 1 (.seq (.region [
     ⟨(some 19), none, .simple (.load (some 6) (.tmp 3))⟩,
     ⟨(some 20), none, .simple (.fieldAddr 1 (.tmp 3))⟩,
     ⟨(some 21), none, .simple (.load none (.tmp 20))⟩,
     ⟨(some 22), none, .simple (.move (.tmp 8))⟩,
     ⟨(some 23), none, .simple (.indexS 1 (.tmp 21) (.tmp 22))⟩,
     ⟨(some 24), none, .simple (.load none (.tmp 23))⟩,
     ⟨(some 25), none, .simple (.move (.tmp 2))⟩,
     ⟨(some 26), none, .call (.func 63) [(.tmp 19), (.tmp 24), (.const (.int .i64 (-1))), (.tmp 25)]⟩,
     ⟨(some 9), none, .simple (.move (.tmp 26))⟩] (some [2, 3, 4, 7, 8, 9]))
   (.seq (.seq (.region [
     ⟨(some 10), none, .simple (.move (.const (.int .i64 0)))⟩] (some [2, 3, 4, 7, 8, 9, 10]))
   (.block 2 (.loop (.seq (.seq (.region [
       ⟨(some 27), none, .simple (.move (.tmp 10))⟩,
       ⟨(some 28), none, .simple (.fieldAddr 2 (.tmp 3))⟩,
       ⟨(some 29), none, .simple (.load none (.tmp 28))⟩,
       ⟨(some 30), none, .simple (.len (.tmp 29))⟩,
       ⟨(some 31), none, .simple (.bin .lss (.tmp 27) (.tmp 30))⟩] (some [2, 3, 4, 7, 8, 9, 10, 31]))
     (.cond (.tmp 31)
      .skip
      (.exit 2)))
     (.seq (.block 3 (.seq (.region [
        ⟨(some 34), none, .simple (.fieldAddr 2 (.tmp 3))⟩,
        ⟨(some 35), none, .simple (.load none (.tmp 34))⟩,
        ⟨(some 36), none, .simple (.move (.tmp 10))⟩,
        ⟨(some 37), none, .simple (.indexS 7 (.tmp 35) (.tmp 36))⟩,
        ⟨(some 38), none, .simple (.load (some 7) (.tmp 37))⟩,
        ⟨(some 11), none, .simple (.alloc [(.d (.int .i64 0)), (.d (.int .i64 0)), (.d (.int .i64 0)), (.d (.int .i64 0)), (.d (.int .i64 0)), (.d (.int .i64 0)), (.d (.int .i64 0))])⟩,
        ⟨none, none, .simple (.store 7 (.tmp 11) (.tmp 38))⟩] (some [2, 3, 4, 7, 8, 9, 10, 11]))
      (.seq (.seq (.region [
        ⟨(some 39), none, .simple (.load (some 6) (.tmp 3))⟩,
        ⟨(some 40), none, .simple (.fieldAddr 1 (.tmp 4))⟩,
        ⟨(some 41), none, .simple (.load none (.tmp 40))⟩,
        ⟨(some 42), none, .simple (.move (.tmp 10))⟩,
        ⟨(some 43), none, .simple (.indexS 1 (.tmp 41) (.tmp 42))⟩,
        ⟨(some 44), none, .simple (.load none (.tmp 43))⟩,
        ⟨(some 45), none, .call (.func 49) [(.tmp 39), (.tmp 44)]⟩,
        ⟨(some 12), none, .simple (.move (.tmp 45))⟩] (some [2, 3, 4, 7, 8, 9, 10, 11, 12]))
      (.seq (.region [
        ⟨(some 46), none, .simple (.move (.tmp 12))⟩,
        ⟨(some 47), none, .simple (.move (.tmp 2))⟩,
        ⟨(some 48), none, .call (.func 23) [(.tmp 46), (.const (.int .i64 0)), (.tmp 47)]⟩,
        ⟨(some 49), none, .simple (.un .not (.tmp 48))⟩] (some [2, 3, 4, 7, 8, 9, 10, 11, 49]))
      (.cond (.tmp 49)
       (.exit 3)
       .skip)))
      (.seq (.seq (.region [
        ⟨(some 50), none, .simple (.fieldAddr 1 (.tmp 11))⟩,
        ⟨(some 51), none, .simple (.load none (.tmp 50))⟩,
        ⟨(some 52), none, .simple (.move (.tmp 8))⟩,
        ⟨(some 53), none, .simple (.bin .eql (.tmp 51) (.tmp 52))⟩] (some [2, 3, 4, 7, 8, 9, 10, 11, 53]))
      (.cond (.tmp 53)
       (.region [
         ⟨(some 54), none, .simple (.move (.tmp 9))⟩,
         ⟨(some 55), none, .simple (.load (some 6) (.tmp 3))⟩,
         ⟨(some 56), none, .simple (.fieldAddr 2 (.tmp 11))⟩,
         ⟨(some 57), none, .simple (.load none (.tmp 56))⟩,
         ⟨(some 58), none, .simple (.fieldAddr 0 (.tmp 4))⟩,
         ⟨(some 59), none, .simple (.load none (.tmp 58))⟩,
         ⟨(some 60), none, .simple (.move (.tmp 10))⟩,
         ⟨(some 61), none, .simple (.indexS 1 (.tmp 59) (.tmp 60))⟩,
         ⟨(some 62), none, .simple (.load none (.tmp 61))⟩,
         ⟨(some 63), none, .simple (.move (.tmp 2))⟩,
         ⟨(some 64), none, .callx (.func 63) [(.tmp 55), (.tmp 57), (.tmp 62), (.tmp 63)]⟩,
         ⟨(some 65), none, .simple (.bin .add (.tmp 54) (.tmp 64))⟩,
         ⟨(some 9), none, .simple (.move (.tmp 65))⟩] (some [2, 3, 4, 7, 8, 9, 10, 11]))
       .skip))
      (.seq (.region [
        ⟨(some 66), none, .simple (.fieldAddr 0 (.tmp 11))⟩,
        ⟨(some 67), none, .simple (.load none (.tmp 66))⟩,
        ⟨(some 68), none, .simple (.move (.tmp 8))⟩,
        ⟨(some 69), none, .simple (.bin .eql (.tmp 67) (.tmp 68))⟩] (some [2, 3, 4, 7, 8, 9, 10, 11, 69]))
      (.cond (.tmp 69)
       (.region [
         ⟨(some 70), none, .simple (.move (.tmp 9))⟩,
         ⟨(some 71), none, .simple (.load (some 6) (.tmp 3))⟩,
         ⟨(some 72), none, .simple (.fieldAddr 2 (.tmp 11))⟩,
         ⟨(some 73), none, .simple (.load none (.tmp 72))⟩,
         ⟨(some 74), none, .simple (.fieldAddr 0 (.tmp 4))⟩,
         ⟨(some 75), none, .simple (.load none (.tmp 74))⟩,
         ⟨(some 76), none, .simple (.move (.tmp 10))⟩,
         ⟨(some 77), none, .simple (.indexS 1 (.tmp 75) (.tmp 76))⟩,
         ⟨(some 78), none, .simple (.load none (.tmp 77))⟩,
         ⟨(some 79), none, .simple (.move (.tmp 2))⟩,
         ⟨(some 80), none, .callx (.func 63) [(.tmp 71), (.tmp 73), (.tmp 78), (.tmp 79)]⟩,
         ⟨(some 81), none, .simple (.bin .sub (.tmp 70) (.tmp 80))⟩,
         ⟨(some 9), none, .simple (.move (.tmp 81))⟩] (some [2, 3, 4, 7, 8, 9, 10]))
       .skip))))))
     (.region [
       ⟨(some 32), none, .simple (.move (.tmp 10))⟩,
       ⟨(some 33), none, .simple (.bin .add (.tmp 32) (.const (.int .i64 1)))⟩,
       ⟨(some 10), none, .simple (.move (.tmp 33))⟩] (some [2, 3, 4, 7, 8, 9, 10])))))))
   (.region [
     ⟨(some 82), none, .simple (.move (.tmp 7))⟩,
     ⟨(some 83), none, .simple (.move (.tmp 9))⟩,
     ⟨(some 84), none, .simple (.bslice false 3 1 1 [(.int .i64 0)] [(0, (.tmp 83))])⟩,
     ⟨(some 85), none, .app 3 1 8 (.tmp 82) (.tmp 84)⟩,
     ⟨(some 7), none, .simple (.move (.tmp 85))⟩] (some [2, 3, 4, 7, 8])))))
  (.region [
    ⟨(some 17), none, .simple (.move (.tmp 8))⟩,
    ⟨(some 18), none, .simple (.bin .add (.tmp 17) (.const (.int .i64 1)))⟩,
    ⟨(some 8), none, .simple (.move (.tmp 18))⟩] (some [2, 3, 4, 7, 8])))))))
(.seq (.region [
  ⟨(some 86), none, .simple (.move (.tmp 7))⟩,
  ⟨(some 6), none, .simple (.move (.tmp 86))⟩] (some [6]))
.ret))))
theorem k24 : Try.f24.body.bind (compC Try.prog G24) = some c24 := by kernel_rfl
theorem e24 : compRes Try.prog Try.f24.results.toList = some r24 := by kernel_rfl
def G44 : Cfg := ⟨[], [(0, [2, 3]), (1, [2, 3, 11]), (2, [4]), (3, [2, 3, 5]), (4, [2, 3, 5, 13]), (6, [2, 3, 5, 6]), (7, [2, 3, 5, 6, 7]), (8, [2, 3, 5, 6, 7, 23]), (10, [2, 3, 5, 6, 7, 30]), (11, [4]), (9, [2, 3, 5, 6, 7]), (5, [2, 3, 5]), (12, [4])], 31, []⟩
def r44 : List CRes := [.tmp 4]
def c44 : CCode :=
(.seq (.region [
  ⟨(some 2), none, .simple (.box false (.tmp 0))⟩,
  ⟨(some 3), none, .simple (.box false (.tmp 1))⟩,
  ⟨(some 4), none, .simple (.move (.const (.bool false)))⟩] (some [2, 3]))
(.seq (.seq (.region [
  ⟨(some 8), none, .simple (.load (some 6) (.tmp 2))⟩,
  ⟨(some 9), none, .simple (.load (some 2) (.tmp 3))⟩,
  ⟨(some 10), none, .call (.func 62) [(.tmp 8), (.tmp 9)]⟩,
  ⟨(some 11), none, .simple (.un .not (.tmp 10))⟩] (some [2, 3, 11]))
(.cond (.tmp 11)
 (.seq (.region [
   ⟨(some 4), none, .simple (.move (.const (.bool false)))⟩] (some [4]))
 .ret)
 .skip))
(.seq (.seq (.region [
  ⟨(some 5), none, .simple (.move (.const (.int .i64 0)))⟩] (some [2, 3, 5]))
(.block 0 (.loop (.seq (.seq (.region [
    ⟨(some 12), none, .simple (.move (.tmp 5))⟩,
    ⟨(some 13), none, .simple (.bin .leq (.tmp 12) (.const (.int .i64 11)))⟩] (some [2, 3, 5, 13]))
  (.cond (.tmp 13)
   .skip
   (.exit 0)))
  (.seq (.block 1 (.seq (.region [
     ⟨(some 16), none, .simple (.load (some 6) (.tmp 2))⟩,
     ⟨(some 17), none, .simple (.load (some 2) (.tmp 3))⟩,
     ⟨(some 18), none, .simple (.move (.tmp 5))⟩,
     ⟨(some 19), none, .call (.func 24) [(.tmp 16), (.tmp 17), (.tmp 18)]⟩,
     ⟨(some 6), none, .simple (.move (.tmp 19))⟩] (some [2, 3, 5, 6]))
   (.seq (.region [
     ⟨(some 7), none, .simple (.move (.const (.int .i64 0)))⟩] (some [2, 3, 5, 6, 7]))
   (.block 2 (.loop (.seq (.seq (.region [
       ⟨(some 20), none, .simple (.move (.tmp 7))⟩,
       ⟨(some 21), none, .simple (.move (.tmp 6))⟩,
       ⟨(some 22), none, .simple (.len (.tmp 21))⟩,
       ⟨(some 23), none, .simple (.bin .lss (.tmp 20) (.tmp 22))⟩] (some [2, 3, 5, 6, 7, 23]))
     (.cond (.tmp 23)
      .skip
      (.exit 2)))
     (.seq (.block 3 (.seq (.region [
        ⟨(some 26), none, .simple (.move (.tmp 6))⟩,
        ⟨(some 27), none, .simple (.move (.tmp 7))⟩,
        ⟨(some 28), none, .simple (.indexS 1 (.tmp 26) (.tmp 27))⟩,
        ⟨(some 29), none, .simple (.load none (.tmp 28))⟩,
        ⟨(some 30), none, .simple (.bin .lss (.tmp 29) (.const (.int .i64 0)))⟩] (some [2, 3, 5, 6, 7, 30]))
      (.cond (.tmp 30)
       (.seq (.region [
         ⟨(some 4), none, .simple (.move (.const (.bool false)))⟩] (some [4]))
       .ret)
       .skip)))
     (.region [
       ⟨(some 24), none, .simple (.move (.tmp 7))⟩,
       ⟨(some 25), none, .simple (.bin .add (.tmp 24) (.const (.int .i64 1)))⟩,
       ⟨(some 7), none, .simple (.move (.tmp 25))⟩] (some [2, 3, 5, 6, 7])))))))))
  (.region [
    ⟨(some 14), none, .simple (.move (.tmp 5))⟩,
    ⟨(some 15), none, .simple (.bin .add (.tmp 14) (.const (.int .i64 1)))⟩,
    ⟨(some 5), none, .simple (.move (.tmp 15))⟩] (some [2, 3, 5])))))))
(.seq (.region [
  ⟨(some 4), none, .simple (.move (.const (.bool true)))⟩] (some [4]))
.ret))))
theorem k44 : Try.f44.body.bind (compC Try.prog G44) = some c44 := by kernel_rfl
theorem e44 : compRes Try.prog Try.f44.results.toList = some r44 := by kernel_rfl
def G62 : Cfg := ⟨[6], [(0, [2, 3]), (1, [2, 3, 22]), (2, [4]), (3, [2, 3, 5]), (4, [2, 3, 5, 27]), (6, [2, 3, 5, 6]), (7, [2, 3, 5, 75]), (8, [4]), (5, [2, 3, 5]), (9, [4])], 76, []⟩
def r62 : List CRes := [.tmp 4]
def c62 : CCode :=
(.seq (.region [
  ⟨(some 2), none, .simple (.box false (.tmp 0))⟩,
  ⟨(some 3), none, .simple (.box false (.tmp 1))⟩,
  ⟨(some 4), none, .simple (.move (.const (.bool false)))⟩] (some [2, 3]))
(.seq (.seq (.region [
  ⟨(some 7), none, .simple (.fieldAddr 0 (.tmp 3))⟩,
  ⟨(some 8), none, .simple (.load none (.tmp 7))⟩,
  ⟨(some 9), none, .simple (.len (.tmp 8))⟩,
  ⟨(some 10), none, .simple (.fieldAddr 2 (.tmp 2))⟩,
  ⟨(some 11), none, .simple (.load none (.tmp 10))⟩,
  ⟨(some 12), none, .simple (.len (.tmp 11))⟩,
  ⟨(some 13), none, .simple (.bin .neq (.tmp 9) (.tmp 12))⟩,
  ⟨(some 14), none, .simple (.move (.tmp 13))⟩,
  ⟨(some 15), (some (14, false)), .simple (.fieldAddr 1 (.tmp 3))⟩,
  ⟨(some 16), (some (14, false)), .simple (.load none (.tmp 15))⟩,
  ⟨(some 17), (some (14, false)), .simple (.len (.tmp 16))⟩,
  ⟨(some 18), (some (14, false)), .simple (.fieldAddr 2 (.tmp 2))⟩,
  ⟨(some 19), (some (14, false)), .simple (.load none (.tmp 18))⟩,
  ⟨(some 20), (some (14, false)), .simple (.len (.tmp 19))⟩,
  ⟨(some 21), (some (14, false)), .simple (.bin .neq (.tmp 17) (.tmp 20))⟩,
  ⟨(some 22), none, .simple (.pick (.tmp 14) (.const (.bool true)) (.tmp 21))⟩] (some [2, 3, 22]))
(.cond (.tmp 22)
 (.seq (.region [
   ⟨(some 4), none, .simple (.move (.const (.bool false)))⟩] (some [4]))
 .ret)
 .skip))
(.seq (.seq (.region [
  ⟨(some 5), none, .simple (.move (.const (.int .i64 0)))⟩] (some [2, 3, 5]))
(.block 0 (.loop (.seq (.seq (.region [
    ⟨(some 23), none, .simple (.move (.tmp 5))⟩,
    ⟨(some 24), none, .simple (.fieldAddr 2 (.tmp 2))⟩,
    ⟨(some 25), none, .simple (.load none (.tmp 24))⟩,
    ⟨(some 26), none, .simple (.len (.tmp 25))⟩,
    ⟨(some 27), none, .simple (.bin .lss (.tmp 23) (.tmp 26))⟩] (some [2, 3, 5, 27]))
  (.cond (.tmp 27)
   .skip
   (.exit 0)))
  (.seq (.block 1 (.seq (.region [
     ⟨(some 30), none, .simple (.fieldAddr 2 (.tmp 2))⟩,
     ⟨(some 31), none, .simple (.load none (.tmp 30))⟩,
     ⟨(some 32), none, .simple (.move (.tmp 5))⟩,
     ⟨(some 33), none, .simple (.indexS 7 (.tmp 31) (.tmp 32))⟩,
     ⟨(some 34), none, .simple (.load (some 7) (.tmp 33))⟩,
     ⟨(some 6), none, .simple (.alloc [(.d (.int .i64 0)), (.d (.int .i64 0)), (.d (.int .i64 0)), (.d (.int .i64 0)), (.d (.int .i64 0)), (.d (.int .i64 0)), (.d (.int .i64 0))])⟩,
     ⟨none, none, .simple (.store 7 (.tmp 6) (.tmp 34))⟩] (some [2, 3, 5, 6]))
   (.seq (.region [
     ⟨(some 35), none, .simple (.fieldAddr 0 (.tmp 3))⟩,
     ⟨(some 36), none, .simple (.load none (.tmp 35))⟩,
     ⟨(some 37), none, .simple (.move (.tmp 5))⟩,
     ⟨(some 38), none, .simple (.indexS 1 (.tmp 36) (.tmp 37))⟩,
     ⟨(some 39), none, .simple (.load none (.tmp 38))⟩,
     ⟨(some 40), none, .simple (.fieldAddr 3 (.tmp 6))⟩,
     ⟨(some 41), none, .simple (.fieldAddr 0 (.tmp 40))⟩,
     ⟨(some 42), none, .simple (.load none (.tmp 41))⟩,
     ⟨(some 43), none, .simple (.fieldAddr 3 (.tmp 6))⟩,
     ⟨(some 44), none, .simple (.fieldAddr 1 (.tmp 43))⟩,
     ⟨(some 45), none, .simple (.load none (.tmp 44))⟩,
     ⟨(some 46), none, .call (.func 23) [(.tmp 39), (.tmp 42), (.tmp 45)]⟩,
     ⟨(some 47), none, .simple (.un .not (.tmp 46))⟩,
     ⟨(some 48), none, .simple (.move (.tmp 47))⟩,
     ⟨(some 49), (some (48, false)), .simple (.fieldAddr 1 (.tmp 3))⟩,
     ⟨(some 50), (some (48, false)), .simple (.load none (.tmp 49))⟩,
     ⟨(some 51), (some (48, false)), .simple (.move (.tmp 5))⟩,
     ⟨(some 52), (some (48, false)), .simple (.indexS 1 (.tmp 50) (.tmp 51))⟩,
     ⟨(some 53), (some (48, false)), .simple (.load none (.tmp 52))⟩,
     ⟨(some 54), (some (48, false)), .simple (.fieldAddr 5 (.tmp 6))⟩,
     ⟨(some 55), (some (48, false)), .simple (.fieldAddr 0 (.tmp 54))⟩,
     ⟨(some 56), (some (48, false)), .simple (.load none (.tmp 55))⟩,
     ⟨(some 57), (some (48, false)), .simple (.fieldAddr 5 (.tmp 6))⟩,
     ⟨(some 58), (some (48, false)), .simple (.fieldAddr 1 (.tmp 57))⟩,
     ⟨(some 59), (some (48, false)), .simple (.load none (.tmp 58))⟩,
     ⟨(some 60), (some (48, false)), .call (.func 23) [(.tmp 53), (.tmp 56), (.tmp 59)]⟩,
     ⟨(some 61), (some (48, false)), .simple (.un .not (.tmp 60))⟩,
     ⟨(some 62), none, .simple (.pick (.tmp 48) (.const (.bool true)) (.tmp 61))⟩,
     ⟨(some 63), none, .simple (.move (.tmp 62))⟩,
     ⟨(some 64), (some (63, false)), .simple (.fieldAddr 1 (.tmp 3))⟩,
     ⟨(some 65), (some (63, false)), .simple (.load none (.tmp 64))⟩,
     ⟨(some 66), (some (63, false)), .simple (.move (.tmp 5))⟩,
     ⟨(some 67), (some (63, false)), .simple (.indexS 1 (.tmp 65) (.tmp 66))⟩,
     ⟨(some 68), (some (63, false)), .simple (.load none (.tmp 67))⟩,
     ⟨(some 69), (some (63, false)), .simple (.fieldAddr 0 (.tmp 3))⟩,
     ⟨(some 70), (some (63, false)), .simple (.load none (.tmp 69))⟩,
     ⟨(some 71), (some (63, false)), .simple (.move (.tmp 5))⟩,
     ⟨(some 72), (some (63, false)), .simple (.indexS 1 (.tmp 70) (.tmp 71))⟩,
     ⟨(some 73), (some (63, false)), .simple (.load none (.tmp 72))⟩,
     ⟨(some 74), (some (63, false)), .simple (.bin .lss (.tmp 68) (.tmp 73))⟩,
     ⟨(some 75), none, .simple (.pick (.tmp 63) (.const (.bool true)) (.tmp 74))⟩] (some [2, 3, 5, 75]))
   (.cond (.tmp 75)
    (.seq (.region [
      ⟨(some 4), none, .simple (.move (.const (.bool false)))⟩] (some [4]))
    .ret)
    .skip))))
  (.region [
    ⟨(some 28), none, .simple (.move (.tmp 5))⟩,
    ⟨(some 29), none, .simple (.bin .add (.tmp 28) (.const (.int .i64 1)))⟩,
    ⟨(some 5), none, .simple (.move (.tmp 29))⟩] (some [2, 3, 5])))))))
(.seq (.region [
  ⟨(some 4), none, .simple (.move (.const (.bool true)))⟩] (some [4]))
.ret))))
theorem k62 : Try.f62.body.bind (compC Try.prog G62) = some c62 := by kernel_rfl
theorem e62 : compRes Try.prog Try.f62.results.toList = some r62 := by kernel_rfl
def G63 : Cfg := ⟨[12], [(0, [1, 2, 3, 4]), (1, [2, 3, 4, 9]), (2, [3, 4, 9, 10]), (3, [3, 4, 9, 10, 19]), (5, [3, 4, 9, 10, 11]), (6, [3, 4, 9, 10, 11, 26]), (8, [3, 4, 9, 10, 11, 12]), (9, [3, 4, 9, 10, 11, 12, 37]), (10, [3, 4, 9, 10, 11]), (7, [3, 4, 9, 10, 11]), (4, [3, 4, 9, 10]), (11, [8])], 46, []⟩
def r63 : List CRes := [.tmp 8]
def c63 : CCode :=
(.seq (.region [
  ⟨(some 4), none, .simple (.box false (.tmp 0))⟩,
  ⟨(some 8), none, .simple (.move (.const (.int .i64 0)))⟩] (some [1, 2, 3, 4]))
(.seq (.region [
  ⟨(some 13), none, .simple (.move (.tmp 1))⟩,
  ⟨(some 14), none, .simple (.bin .mul (.const (.int .i64 720)) (.tmp 13))⟩,
  ⟨(some 9), none, .simple (.move (.tmp 14))⟩] (some [2, 3, 4, 9]))
(.seq (.seq (.region [
  ⟨(some 15), none, .simple (.move (.tmp 2))⟩,
  ⟨(some 16), none, .simple (.bin .add (.tmp 15) (.const (.int .i64 1)))⟩,
  ⟨(some 10), none, .simple (.move (.tmp 16))⟩] (some [3, 4, 9, 10]))
(.block 0 (.loop (.seq (.seq (.region [
    ⟨(some 17), none, .simple (.move (.tmp 10))⟩,
    ⟨(some 18), none, .simple (.move (.tmp 3))⟩,
    ⟨(some 19), none, .simple (.bin .leq (.tmp 17) (.tmp 18))⟩] (some [3, 4, 9, 10, 19]))
  (.cond (.tmp 19)
   .skip
   (.exit 0)))
  (.seq (.block 1 (.seq (.region [
     ⟨(some 11), none, .simple (.move (.const (.int .i64 0)))⟩] (some [3, 4, 9, 10, 11]))
   (.block 2 (.loop (.seq (.seq (.region [
       ⟨(some 22), none, .simple (.move (.tmp 11))⟩,
       ⟨(some 23), none, .simple (.fieldAddr 4 (.tmp 4))⟩,
       ⟨(some 24), none, .simple (.load none (.tmp 23))⟩,
       ⟨(some 25), none, .simple (.len (.tmp 24))⟩,
       ⟨(some 26), none, .simple (.bin .lss (.tmp 22) (.tmp 25))⟩] (some [3, 4, 9, 10, 11, 26]))
     (.cond (.tmp 26)
      .skip
      (.exit 2)))
     (.seq (.block 3 (.seq (.region [
        ⟨(some 29), none, .simple (.fieldAddr 4 (.tmp 4))⟩,
        ⟨(some 30), none, .simple (.load none (.tmp 29))⟩,
        ⟨(some 31), none, .simple (.move (.tmp 11))⟩,
        ⟨(some 32), none, .simple (.indexS 3 (.tmp 30) (.tmp 31))⟩,
        ⟨(some 33), none, .simple (.load (some 3) (.tmp 32))⟩,
        ⟨(some 12), none, .simple (.alloc [(.d (.int .i64 0)), (.d (.int .i64 0)), (.d (.int .i64 0))])⟩,
        ⟨none, none, .simple (.store 3 (.tmp 12) (.tmp 33))⟩] (some [3, 4, 9, 10, 11, 12]))
      (.seq (.region [
        ⟨(some 34), none, .simple (.fieldAddr 0 (.tmp 12))⟩,
        ⟨(some 35), none, .simple (.load none (.tmp 34))⟩,
        ⟨(some 36), none, .simple (.move (.tmp 10))⟩,
        ⟨(some 37), none, .simple (.bin .eql (.tmp 35) (.tmp 36))⟩] (some [3, 4, 9, 10, 11, 12, 37]))
      (.cond (.tmp 37)
       (.region [
         ⟨(some 38), none, .simple (.move (.tmp 9))⟩,
         ⟨(some 39), none, .simple (.fieldAddr 1 (.tmp 12))⟩,
         ⟨(some 40), none, .simple (.load none (.tmp 39))⟩,
         ⟨(some 41), none, .simple (.bin .mul (.tmp 38) (.tmp 40))⟩,
         ⟨(some 42), none, .simple (.fieldAddr 2 (.tmp 12))⟩,
         ⟨(some 43), none, .simple (.load none (.tmp 42))⟩,
         ⟨(some 44), none, .simple (.bin .quo (.tmp 41) (.tmp 43))⟩,
         ⟨(some 9), none, .simple (.move (.tmp 44))⟩] (some [3, 4, 9, 10, 11]))
       .skip))))
     (.region [
       ⟨(some 27), none, .simple (.move (.tmp 11))⟩,
       ⟨(some 28), none, .simple (.bin .add (.tmp 27) (.const (.int .i64 1)))⟩,
       ⟨(some 11), none, .simple (.move (.tmp 28))⟩] (some [3, 4, 9, 10, 11]))))))))
  (.region [
    ⟨(some 20), none, .simple (.move (.tmp 10))⟩,
    ⟨(some 21), none, .simple (.bin .add (.tmp 20) (.const (.int .i64 1)))⟩,
    ⟨(some 10), none, .simple (.move (.tmp 21))⟩] (some [3, 4, 9, 10])))))))
(.seq (.region [
  ⟨(some 45), none, .simple (.move (.tmp 9))⟩,
  ⟨(some 8), none, .simple (.move (.tmp 45))⟩] (some [8]))
.ret))))
theorem k63 : Try.f63.body.bind (compC Try.prog G63) = some c63 := by kernel_rfl
theorem e63 : compRes Try.prog Try.f63.results.toList = some r63 := by kernel_rfl
def G22 : Cfg := ⟨[], [(0, [2, 3]), (1, [2, 3, 5]), (2, [2, 3, 5, 9]), (3, [4]), (4, [2, 3, 14]), (5, [4]), (6, [18]), (7, [4]), (8, [4])], 19, []⟩
def r22 : List CRes := [.tmp 4]
def c22 : CCode :=
(.seq (.region [
  ⟨(some 2), none, .simple (.box false (.tmp 0))⟩,
  ⟨(some 3), none, .simple (.box false (.tmp 1))⟩,
  ⟨(some 4), none, .simple (.move (.const (.int .i64 0)))⟩] (some [2, 3]))
(.seq (.seq (.region [
  ⟨(some 6), none, .simple (.load (some 6) (.tmp 2))⟩,
  ⟨(some 7), none, .call (.func 34) [(.tmp 6)]⟩,
  ⟨(some 5), none, .simple (.move (.tmp 7))⟩] (some [2, 3, 5]))
(.seq (.region [
  ⟨(some 8), none, .simple (.move (.tmp 5))⟩,
  ⟨(some 9), none, .simple (.bin .neq (.tmp 8) (.const (.int .i64 0)))⟩] (some [2, 3, 5, 9]))
(.cond (.tmp 9)
 (.seq (.region [
   ⟨(some 10), none, .simple (.move (.tmp 5))⟩,
   ⟨(some 4), none, .simple (.move (.tmp 10))⟩] (some [4]))
 .ret)
 .skip)))
(.seq (.seq (.region [
  ⟨(some 11), none, .simple (.load (some 6) (.tmp 2))⟩,
  ⟨(some 12), none, .simple (.load (some 2) (.tmp 3))⟩,
  ⟨(some 13), none, .call (.func 62) [(.tmp 11), (.tmp 12)]⟩,
  ⟨(some 14), none, .simple (.un .not (.tmp 13))⟩] (some [2, 3, 14]))
(.cond (.tmp 14)
 (.seq (.region [
   ⟨(some 4), none, .simple (.move (.const (.int .i64 2)))⟩] (some [4]))
 .ret)
 .skip))
(.seq (.seq (.region [
  ⟨(some 15), none, .simple (.load (some 6) (.tmp 2))⟩,
  ⟨(some 16), none, .simple (.load (some 2) (.tmp 3))⟩,
  ⟨(some 17), none, .call (.func 44) [(.tmp 15), (.tmp 16)]⟩,
  ⟨(some 18), none, .simple (.un .not (.tmp 17))⟩] (some [18]))
(.cond (.tmp 18)
 (.seq (.region [
   ⟨(some 4), none, .simple (.move (.const (.int .i64 11)))⟩] (some [4]))
 .ret)
 .skip))
(.seq (.region [
  ⟨(some 4), none, .simple (.move (.const (.int .i64 0)))⟩] (some [4]))
.ret)))))
theorem k22 : Try.f22.body.bind (compC Try.prog G22) = some c22 := by kernel_rfl
theorem e22 : compRes Try.prog Try.f22.results.toList = some r22 := by kernel_rfl
def G3 : Cfg := ⟨[], [(0, [2, 3, 4]), (1, [2, 3, 4, 16]), (2, [6]), (3, [2, 3, 4, 7, 8, 9]), (4, [2, 3, 4, 7, 8, 9, 10]), (5, [2, 3, 4, 7, 8, 9, 10, 37]), (6, [2, 3, 4, 7, 8, 9, 10]), (7, [2, 3, 4, 7, 8, 9, 10, 39]), (8, [6]), (9, [7, 8, 9, 11]), (10, [7, 8, 11, 73]), (11, [6]), (12, [7, 8, 11, 12]), (13, [7, 8, 11, 12, 77]), (15, [7, 8, 11, 12, 101]), (16, [6]), (14, [7, 8, 11, 12]), (17, [6])], 103, []⟩
def r3 : List CRes := [.tmp 6]
def c3 : CCode :=
(.seq (.region [
  ⟨(some 3), none, .simple (.box false (.tmp 0))⟩,
  ⟨(some 4), none, .simple (.box false (.tmp 1))⟩,
  ⟨(some 6), none, .simple (.move (.const (.bool false)))⟩] (some [2, 3, 4]))
(.seq (.seq (.region [
  ⟨(some 13), none, .simple (.load (some 6) (.tmp 3))⟩,
  ⟨(some 14), none, .simple (.load (some 2) (.tmp 4))⟩,
  ⟨(some 15), none, .call (.func 17) [(.tmp 13), (.tmp 14)]⟩,
  ⟨(some 16), none, .simple (.un .not (.tmp 15))⟩] (some [2, 3, 4, 16]))
(.cond (.tmp 16)
 (.seq (.region [
   ⟨(some 17), none, .call (.func 18) []⟩,
   ⟨(some 6), none, .simple (.move (.tmp 17))⟩] (some [6]))
 .ret)
 .skip))
(.seq (.region [
  ⟨(some 19), none, .simple (.load (some 6) (.tmp 3))⟩,
  ⟨(some 21), none, .simple (.load (some 2) (.tmp 4))⟩,
  ⟨(some 23), none, .simple (.move (.tmp 2))⟩,
  ⟨(some 20), none, .callx (.func 20) [(.tmp 19)]⟩,
  ⟨(some 22), none, .callx (.func 21) [(.tmp 21)]⟩,
  ⟨(some 24), none, .call (.func 19) [(.tmp 20), (.tmp 22), (.tmp 23)]⟩,
  ⟨(some 18), none, .simple (.move (.tmp 24))⟩,
  ⟨(some 25), none, .simple (.extract (.tmp 18) 0)⟩,
  ⟨(some 26), none, .simple (.extract (.tmp 18) 1)⟩,
  ⟨(some 27), none, .simple (.extract (.tmp 18) 2)⟩,
  ⟨(some 7), none, .simple (.move (.tmp 25))⟩,
  ⟨(some 8), none, .simple (.move (.tmp 26))⟩,
  ⟨(some 9), none, .simple (.move (.tmp 27))⟩] (some [2, 3, 4, 7, 8, 9]))
(.seq (.region [
  ⟨(some 28), none, .simple (.load (some 6) (.tmp 3))⟩,
  ⟨(some 29), none, .simple (.load (some 2) (.tmp 4))⟩,
  ⟨(some 30), none, .call (.func 22) [(.tmp 28), (.tmp 29)]⟩,
  ⟨(some 10), none, .simple (.move (.tmp 30))⟩] (some [2, 3, 4, 7, 8, 9, 10]))
(.seq (.seq (.region [
  ⟨(some 31), none, .simple (.move (.tmp 10))⟩,
  ⟨(some 32), none, .simple (.bin .eql (.tmp 31) (.const (.int .i64 0)))⟩,
  ⟨(some 33), none, .simple (.move (.tmp 32))⟩,
  ⟨(some 34), (some (33, true)), .simple (.move (.tmp 2))⟩,
  ⟨(some 35), (some (33, true)), .call (.func 23) [(.tmp 34), (.const (.int .i64 0)), (.const (.int .i64 11))]⟩,
  ⟨(some 36), (some (33, true)), .simple (.un .not (.tmp 35))⟩,
  ⟨(some 37), none, .simple (.pick (.tmp 33) (.tmp 36) (.const (.bool false)))⟩] (some [2, 3, 4, 7, 8, 9, 10, 37]))
(.cond (.tmp 37)
 (.region [
   ⟨(some 10), none, .simple (.move (.const (.int .i64 2)))⟩] (some [2, 3, 4, 7, 8, 9, 10]))
 .skip))
(.seq (.seq (.region [
  ⟨(some 38), none, .simple (.move (.tmp 10))⟩,
  ⟨(some 39), none, .simple (.bin .neq (.tmp 38) (.const (.int .i64 0)))⟩] (some [2, 3, 4, 7, 8, 9, 10, 39]))
(.cond (.tmp 39)
 (.seq (.region [
   ⟨(some 40), none, .simple (.move (.tmp 9))⟩,
   ⟨(some 41), none, .simple (.move (.tmp 10))⟩,
   ⟨(some 42), none, .simple (.bin .eql (.tmp 40) (.tmp 41))⟩,
   ⟨(some 43), none, .simple (.move (.tmp 42))⟩,
   ⟨(some 44), (some (43, true)), .simple (.move (.tmp 7))⟩,
   ⟨(some 45), (some (43, true)), .simple (.len (.tmp 44))⟩,
   ⟨(some 46), (some (43, true)), .simple (.move (.tmp 8))⟩,
   ⟨(some 47), (some (43, true)), .simple (.len (.tmp 46))⟩,
   ⟨(some 48), (some (43, true)), .simple (.bin .add (.tmp 45) (.tmp 47))⟩,
   ⟨(some 49), (some (43, true)), .simple (.bin .eql (.tmp 48) (.const (.int .i64 0)))⟩,
   ⟨(some 50), none, .simple (.pick (.tmp 43) (.tmp 49) (.const (.bool false)))⟩,
   ⟨(some 51), none, .simple (.move (.tmp 50))⟩,
   ⟨(some 52), (some (51, true)), .call (.func 18) []⟩,
   ⟨(some 53), none, .simple (.pick (.tmp 51) (.tmp 52) (.const (.bool false)))⟩,
   ⟨(some 6), none, .simple (.move (.tmp 53))⟩] (some [6]))
 .ret)
 .skip))
(.seq (.region [
  ⟨(some 54), none, .simple (.load (some 6) (.tmp 3))⟩,
  ⟨(some 55), none, .simple (.load (some 2) (.tmp 4))⟩,
  ⟨(some 56), none, .simple (.move (.tmp 2))⟩,
  ⟨(some 57), none, .call (.func 24) [(.tmp 54), (.tmp 55), (.tmp 56)]⟩,
  ⟨(some 11), none, .simple (.move (.tmp 57))⟩] (some [7, 8, 9, 11]))
(.seq (.seq (.region [
  ⟨(some 58), none, .simple (.move (.tmp 9))⟩,
  ⟨(some 59), none, .simple (.bin .neq (.tmp 58) (.const (.int .i64 0)))⟩,
  ⟨(some 60), none, .simple (.move (.tmp 59))⟩,
  ⟨(some 61), (some (60, false)), .simple (.move (.tmp 7))⟩,
  ⟨(some 62), (some (60, false)), .simple (.len (.tmp 61))⟩,
  ⟨(some 63), (some (60, false)), .simple (.move (.tmp 11))⟩,
  ⟨(some 64), (some (60, false)), .simple (.len (.tmp 63))⟩,
  ⟨(some 65), (some (60, false)), .simple (.bin .neq (.tmp 62) (.tmp 64))⟩,
  ⟨(some 66), none, .simple (.pick (.tmp 60) (.const (.bool true)) (.tmp 65))⟩,
  ⟨(some 67), none, .simple (.move (.tmp 66))⟩,
  ⟨(some 68), (some (67, false)), .simple (.move (.tmp 8))⟩,
  ⟨(some 69), (some (67, false)), .simple (.len (.tmp 68))⟩,
  ⟨(some 70), (some (67, false)), .simple (.move (.tmp 11))⟩,
  ⟨(some 71), (some (67, false)), .simple (.len (.tmp 70))⟩,
  ⟨(some 72), (some (67, false)), .simple (.bin .neq (.tmp 69) (.tmp 71))⟩,
  ⟨(some 73), none, .simple (.pick (.tmp 67) (.const (.bool true)) (.tmp 72))⟩] (some [7, 8, 11, 73]))
(.cond (.tmp 73)
 (.seq (.region [
   ⟨(some 6), none, .simple (.move (.const (.bool false)))⟩] (some [6]))
 .ret)
 .skip))
(.seq (.seq (.region [
  ⟨(some 12), none, .simple (.move (.const (.int .i64 0)))⟩] (some [7, 8, 11, 12]))
(.block 0 (.loop (.seq (.seq (.region [
    ⟨(some 74), none, .simple (.move (.tmp 12))⟩,
    ⟨(some 75), none, .simple (.move (.tmp 11))⟩,
    ⟨(some 76), none, .simple (.len (.tmp 75))⟩,
    ⟨(some 77), none, .simple (.bin .lss (.tmp 74) (.tmp 76))⟩] (some [7, 8, 11, 12, 77]))
  (.cond (.tmp 77)
   .skip
   (.exit 0)))
  (.seq (.block 1 (.seq (.region [
     ⟨(some 80), none, .simple (.move (.tmp 7))⟩,
     ⟨(some 81), none, .simple (.move (.tmp 12))⟩,
     ⟨(some 82), none, .simple (.indexS 1 (.tmp 80) (.tmp 81))⟩,
     ⟨(some 83), none, .simple (.load none (.tmp 82))⟩,
     ⟨(some 84), none, .simple (.move (.tmp 11))⟩,
     ⟨(some 85), none, .simple (.move (.tmp 12))⟩,
     ⟨(some 86), none, .simple (.indexS 1 (.tmp 84) (.tmp 85))⟩,
     ⟨(some 87), none, .simple (.load none (.tmp 86))⟩,
     ⟨(some 88), none, .simple (.bin .quo (.tmp 87) (.const (.int .i64 720)))⟩,
     ⟨(some 89), none, .simple (.bin .neq (.tmp 83) (.tmp 88))⟩,
     ⟨(some 90), none, .simple (.move (.tmp 89))⟩,
     ⟨(some 91), (some (90, false)), .simple (.move (.tmp 8))⟩,
     ⟨(some 92), (some (90, false)), .simple (.move (.tmp 12))⟩,
     ⟨(some 93), (some (90, false)), .simple (.indexS 1 (.tmp 91) (.tmp 92))⟩,
     ⟨(some 94), (some (90, false)), .simple (.load none (.tmp 93))⟩,
     ⟨(some 95), (some (90, false)), .simple (.move (.tmp 11))⟩,
     ⟨(some 96), (some (90, false)), .simple (.move (.tmp 12))⟩,
     ⟨(some 97), (some (90, false)), .simple (.indexS 1 (.tmp 95) (.tmp 96))⟩,
     ⟨(some 98), (some (90, false)), .simple (.load none (.tmp 97))⟩,
     ⟨(some 99), (some (90, false)), .simple (.bin .rem (.tmp 98) (.const (.int .i64 720)))⟩,
     ⟨(some 100), (some (90, false)), .simple (.bin .neq (.tmp 94) (.tmp 99))⟩,
     ⟨(some 101), none, .simple (.pick (.tmp 90) (.const (.bool true)) (.tmp 100))⟩] (some [7, 8, 11, 12, 101]))
   (.cond (.tmp 101)
    (.seq (.region [
      ⟨(some 6), none, .simple (.move (.const (.bool false)))⟩] (some [6]))
    .ret)
    .skip)))
  (.region [
    ⟨(some 78), none, .simple (.move (.tmp 12))⟩,
    ⟨(some 79), none, .simple (.bin .add (.tmp 78) (.const (.int .i64 1)))⟩,
    ⟨(some 12), none, .simple (.move (.tmp 79))⟩] (some [7, 8, 11, 12])))))))
(.seq (.region [
  ⟨(some 102), none, .call (.func 18) []⟩,
  ⟨(some 6), none, .simple (.move (.tmp 102))⟩] (some [6]))
.ret))))))))))
theorem k3 : Try.f3.body.bind (compC Try.prog G3) = some c3 := by kernel_rfl
theorem e3 : compRes Try.prog Try.f3.results.toList = some r3 := by kernel_rfl
def G4 : Cfg := ⟨[14], [(0, [2, 3, 4]), (1, [2, 3, 4, 18]), (2, [6]), (3, [2, 3, 4, 7, 8]), (4, [2, 3, 4, 7, 8, 9, 10]), (5, [2, 3, 4, 7, 8, 9, 10, 11, 12]), (6, [2, 3, 4, 7, 8, 9, 10, 11, 12, 13]), (7, [2, 3, 4, 7, 8, 9, 10, 11, 12, 13, 60]), (8, [2, 3, 4, 7, 8, 9, 10, 11, 12, 13]), (9, [2, 3, 4, 7, 8, 9, 10, 11, 12, 13, 62]), (10, [6]), (11, [3, 4, 7, 8, 9, 10, 11, 12, 14]), (12, [6])], 132, []⟩
def r4 : List CRes := [.tmp 6]
def c4 : CCode :=
(.seq (.region [
  ⟨(some 3), none, .simple (.box false (.tmp 0))⟩,
  ⟨(some 4), none, .simple (.box false (.tmp 1))⟩,
  ⟨(some 6), none, .simple (.move (.const (.bool false)))⟩] (some [2, 3, 4]))
(.seq (.seq (.region [
  ⟨(some 15), none, .simple (.load (some 6) (.tmp 3))⟩,
  ⟨(some 16), none, .simple (.load (some 2) (.tmp 4))⟩,
  ⟨(some 17), none, .call (.func 17) [(.tmp 15), (.tmp 16)]⟩,
  ⟨(some 18), none, .simple (.un .not (.tmp 17))⟩] (some [2, 3, 4, 18]))
(.cond (.tmp 18)
 (.seq (.region [
   ⟨(some 19), none, .call (.func 18) []⟩,
   ⟨(some 6), none, .simple (.move (.tmp 19))⟩] (some [6]))
 .ret)
 .skip))
(.seq (.region [
  ⟨(some 21), none, .simple (.load (some 6) (.tmp 3))⟩,
  ⟨(some 23), none, .simple (.load (some 2) (.tmp 4))⟩,
  ⟨(some 25), none, .simple (.move (.tmp 2))⟩,
  ⟨(some 22), none, .callx (.func 20) [(.tmp 21)]⟩,
  ⟨(some 24), none, .callx (.func 21) [(.tmp 23)]⟩,
  ⟨(some 26), none, .call (.func 25) [(.tmp 22), (.tmp 24), (.tmp 25)]⟩,
  ⟨(some 20), none, .simple (.move (.tmp 26))⟩,
  ⟨(some 27), none, .simple (.extract (.tmp 20) 0)⟩,
  ⟨(some 28), none, .simple (.extract (.tmp 20) 1)⟩,
  ⟨(some 7), none, .simple (.move (.tmp 27))⟩,
  ⟨(some 8), none, .simple (.move (.tmp 28))⟩] (some [2, 3, 4, 7, 8]))
(.seq (.region [
  ⟨(some 30), none, .simple (.load (some 6) (.tmp 3))⟩,
  ⟨(some 32), none, .simple (.load (some 2) (.tmp 4))⟩,
  ⟨(some 34), none, .simple (.move (.tmp 2))⟩,
  ⟨(some 31), none, .callx (.func 20) [(.tmp 30)]⟩,
  ⟨(some 33), none, .callx (.func 21) [(.tmp 32)]⟩,
  ⟨(some 35), none, .call (.func 26) [(.tmp 31), (.tmp 33), (.tmp 34)]⟩,
  ⟨(some 29), none, .simple (.move (.tmp 35))⟩,
  ⟨(some 36), none, .simple (.extract (.tmp 29) 0)⟩,
  ⟨(some 37), none, .simple (.extract (.tmp 29) 1)⟩,
  ⟨(some 9), none, .simple (.move (.tmp 36))⟩,
  ⟨(some 10), none, .simple (.move (.tmp 37))⟩] (some [2, 3, 4, 7, 8, 9, 10]))
(.seq (.region [
  ⟨(some 39), none, .simple (.load (some 6) (.tmp 3))⟩,
  ⟨(some 41), none, .simple (.load (some 2) (.tmp 4))⟩,
  ⟨(some 43), none, .simple (.move (.tmp 2))⟩,
  ⟨(some 40), none, .callx (.func 20) [(.tmp 39)]⟩,
  ⟨(some 42), none, .callx (.func 21) [(.tmp 41)]⟩,
  ⟨(some 44), none, .call (.func 27) [(.tmp 40), (.tmp 42), (.tmp 43)]⟩,
  ⟨(some 38), none, .simple (.move (.tmp 44))⟩,
  ⟨(some 45), none, .simple (.extract (.tmp 38) 0)⟩,
  ⟨(some 46), none, .simple (.extract (.tmp 38) 1)⟩,
  ⟨(some 11), none, .simple (.move (.tmp 45))⟩,
  ⟨(some 12), none, .simple (.move (.tmp 46))⟩] (some [2, 3, 4, 7, 8, 9, 10, 11, 12]))
(.seq (.region [
  ⟨(some 47), none, .simple (.load (some 6) (.tmp 3))⟩,
  ⟨(some 48), none, .simple (.load (some 2) (.tmp 4))⟩,
  ⟨(some 49), none, .call (.func 22) [(.tmp 47), (.tmp 48)]⟩,
  ⟨(some 13), none, .simple (.move (.tmp 49))⟩] (some [2, 3, 4, 7, 8, 9, 10, 11, 12, 13]))
(.seq (.seq (.region [
  ⟨(some 50), none, .simple (.move (.tmp 13))⟩,
  ⟨(some 51), none, .simple (.bin .eql (.tmp 50) (.const (.int .i64 0)))⟩,
  ⟨(some 52), none, .simple (.move (.tmp 51))⟩,
  ⟨(some 53), (some (52, true)), .simple (.move (.tmp 2))⟩,
  ⟨(some 54), (some (52, true)), .simple (.fieldAddr 3 (.tmp 3))⟩,
  ⟨(some 55), (some (52, true)), .simple (.load none (.tmp 54))⟩,
  ⟨(some 56), (some (52, true)), .simple (.len (.tmp 55))⟩,
  ⟨(some 57), (some (52, true)), .simple (.bin .sub (.tmp 56) (.const (.int .i64 1)))⟩,
  ⟨(some 58), (some (52, true)), .call (.func 23) [(.tmp 53), (.const (.int .i64 0)), (.tmp 57)]⟩,
  ⟨(some 59), (some (52, true)), .simple (.un .not (.tmp 58))⟩,
  ⟨(some 60), none, .simple (.pick (.tmp 52) (.tmp 59) (.const (.bool false)))⟩] (some [2, 3, 4, 7, 8, 9, 10, 11, 12, 13, 60]))
(.cond (.tmp 60)
 (.region [
   ⟨(some 13), none, .simple (.move (.const (.int .i64 2)))⟩] (some [2, 3, 4, 7, 8, 9, 10, 11, 12, 13]))
 .skip))
(.seq (.seq (.region [
  ⟨(some 61), none, .simple (.move (.tmp 13))⟩,
  ⟨(some 62), none, .simple (.bin .neq (.tmp 61) (.const (.int .i64 0)))⟩] (some [2, 3, 4, 7, 8, 9, 10, 11, 12, 13, 62]))
(.cond (.tmp 62)
 (.seq (.region [
   ⟨(some 63), none, .simple (.move (.tmp 8))⟩,
   ⟨(some 64), none, .simple (.move (.tmp 13))⟩,
   ⟨(some 65), none, .simple (.bin .eql (.tmp 63) (.tmp 64))⟩,
   ⟨(some 66), none, .simple (.move (.tmp 65))⟩,
   ⟨(some 67), (some (66, true)), .simple (.move (.tmp 10))⟩,
   ⟨(some 68), (some (66, true)), .simple (.move (.tmp 13))⟩,
   ⟨(some 69), (some (66, true)), .simple (.bin .eql (.tmp 67) (.tmp 68))⟩,
   ⟨(some 70), none, .simple (.pick (.tmp 66) (.tmp 69) (.const (.bool false)))⟩,
   ⟨(some 71), none, .simple (.move (.tmp 70))⟩,
   ⟨(some 72), (some (71, true)), .simple (.move (.tmp 12))⟩,
   ⟨(some 73), (some (71, true)), .simple (.move (.tmp 13))⟩,
   ⟨(some 74), (some (71, true)), .simple (.bin .eql (.tmp 72) (.tmp 73))⟩,
   ⟨(some 75), none, .simple (.pick (.tmp 71) (.tmp 74) (.const (.bool false)))⟩,
   ⟨(some 76), none, .simple (.move (.tmp 75))⟩,
   ⟨(some 77), (some (76, true)), .simple (.move (.tmp 7))⟩,
   ⟨(some 78), (some (76, true)), .simple (.len (.tmp 77))⟩,
   ⟨(some 79), (some (76, true)), .simple (.move (.tmp 9))⟩,
   ⟨(some 80), (some (76, true)), .simple (.len (.tmp 79))⟩,
   ⟨(some 81), (some (76, true)), .simple (.bin .add (.tmp 78) (.tmp 80))⟩,
   ⟨(some 82), (some (76, true)), .simple (.move (.tmp 11))⟩,
   ⟨(some 83), (some (76, true)), .simple (.len (.tmp 82))⟩,
   ⟨(some 84), (some (76, true)), .simple (.bin .add (.tmp 81) (.tmp 83))⟩,
   ⟨(some 85), (some (76, true)), .simple (.bin .eql (.tmp 84) (.const (.int .i64 0)))⟩,
   ⟨(some 86), none, .simple (.pick (.tmp 76) (.tmp 85) (.const (.bool false)))⟩,
   ⟨(some 87), none, .simple (.move (.tmp 86))⟩,
   ⟨(some 88), (some (87, true)), .call (.func 18) []⟩,
   ⟨(some 89), none, .simple (.pick (.tmp 87) (.tmp 88) (.const (.bool false)))⟩,
   ⟨(some 6), none, .simple (.move (.tmp 89))⟩] (some [6]))
 .ret)
 .skip))
(.seq (.region [
  ⟨(some 90), none, .simple (.fieldAddr 3 (.tmp 3))⟩,
  ⟨(some 91), none, .simple (.load none (.tmp 90))⟩,
  ⟨(some 92), none, .simple (.move (.tmp 2))⟩,
  ⟨(some 93), none, .simple (.indexS 3 (.tmp 91) (.tmp 92))⟩,
  ⟨(some 94), none, .simple (.load (some 3) (.tmp 93))⟩,
  ⟨(some 14), none, .simple (.alloc [(.d (.int .i64 0)), (.d (.int .i64 0)), (.d (.int .i64 0))])⟩,
  ⟨none, none, .simple (.store 3 (.tmp 14) (.tmp 94))⟩] (some [3, 4, 7, 8, 9, 10, 11, 12, 14]))
(.seq (.region [
  ⟨(some 95), none, .simple (.move (.tmp 8))⟩,
  ⟨(some 96), none, .simple (.bin .eql (.tmp 95) (.const (.int .i64 0)))⟩,
  ⟨(some 97), none, .simple (.move (.tmp 96))⟩,
  ⟨(some 98), (some (97, true)), .simple (.move (.tmp 7))⟩,
  ⟨(some 99), (some (97, true)), .simple (.load (some 6) (.tmp 3))⟩,
  ⟨(some 100), (some (97, true)), .simple (.load (some 2) (.tmp 4))⟩,
  ⟨(some 101), (some (97, true)), .simple (.load (some 3) (.tmp 14))⟩,
  ⟨(some 102), (some (97, true)), .call (.func 29) [(.tmp 99), (.tmp 100), (.tmp 101)]⟩,
  ⟨(some 103), (some (97, true)), .call (.func 28) [(.tmp 98), (.tmp 102)]⟩,
  ⟨(some 104), none, .simple (.pick (.tmp 97) (.tmp 103) (.const (.bool false)))⟩,
  ⟨(some 105), none, .simple (.move (.tmp 104))⟩,
  ⟨(some 106), (some (105, true)), .simple (.move (.tmp 10))⟩,
  ⟨(some 107), (some (105, true)), .simple (.bin .eql (.tmp 106) (.const (.int .i64 0)))⟩,
  ⟨(some 108), none, .simple (.pick (.tmp 105) (.tmp 107) (.const (.bool false)))⟩,
  ⟨(some 109), none, .simple (.move (.tmp 108))⟩,
  ⟨(some 110), (some (109, true)), .simple (.move (.tmp 9))⟩,
  ⟨(some 111), (some (109, true)), .simple (.load (some 6) (.tmp 3))⟩,
  ⟨(some 112), (some (109, true)), .simple (.load (some 2) (.tmp 4))⟩,
  ⟨(some 113), (some (109, true)), .simple (.load (some 3) (.tmp 14))⟩,
  ⟨(some 114), (some (109, true)), .call (.func 30) [(.tmp 111), (.tmp 112), (.tmp 113)]⟩,
  ⟨(some 115), (some (109, true)), .call (.func 28) [(.tmp 110), (.tmp 114)]⟩,
  ⟨(some 116), none, .simple (.pick (.tmp 109) (.tmp 115) (.const (.bool false)))⟩,
  ⟨(some 117), none, .simple (.move (.tmp 116))⟩,
  ⟨(some 118), (some (117, true)), .simple (.move (.tmp 12))⟩,
  ⟨(some 119), (some (117, true)), .simple (.bin .eql (.tmp 118) (.const (.int .i64 0)))⟩,
  ⟨(some 120), none, .simple (.pick (.tmp 117) (.tmp 119) (.const (.bool false)))⟩,
  ⟨(some 121), none, .simple (.move (.tmp 120))⟩,
  ⟨(some 122), (some (121, true)), .simple (.move (.tmp 11))⟩,
  ⟨(some 123), (some (121, true)), .simple (.load (some 6) (.tmp 3))⟩,
  ⟨(some 124), (some (121, true)), .simple (.load (some 2) (.tmp 4))⟩,
  ⟨(some 125), (some (121, true)), .simple (.load (some 3) (.tmp 14))⟩,
  ⟨(some 126), (some (121, true)), .call (.func 31) [(.tmp 123), (.tmp 124), (.tmp 125)]⟩,
  ⟨(some 127), (some (121, true)), .call (.func 28) [(.tmp 122), (.tmp 126)]⟩,
  ⟨(some 128), none, .simple (.pick (.tmp 121) (.tmp 127) (.const (.bool false)))⟩,
  ⟨(some 129), none, .simple (.move (.tmp 128))⟩,
  ⟨(some 130), (some (129, true)), .call (.func 18) []⟩,
  ⟨(some 131), none, .simple (.pick (.tmp 129) (.tmp 130) (.const (.bool false)))⟩,
  ⟨(some 6), none, .simple (.move (.tmp 131))⟩] (some [6]))
.ret))))))))))
theorem k4 : Try.f4.body.bind (compC Try.prog G4) = some c4 := by kernel_rfl
theorem e4 : compRes Try.prog Try.f4.results.toList = some r4 := by kernel_rfl
def G29 : Cfg := ⟨[], [(0, [3, 4, 5]), (1, [5, 7]), (2, [5, 7, 8]), (3, [5, 7, 8, 17]), (5, [5, 7, 8]), (4, [5, 7, 8]), (6, [6])], 31, []⟩
def r29 : List CRes := [.tmp 6]
def c29 : CCode :=
(.seq (.region [
  ⟨(some 3), none, .simple (.box false (.tmp 0))⟩,
  ⟨(some 4), none, .simple (.box false (.tmp 1))⟩,
  ⟨(some 5), none, .simple (.box false (.tmp 2))⟩,
  ⟨(some 6), none, .simple (.move (.const (.slice none 0 0)))⟩] (some [3, 4, 5]))
(.seq (.region [
  ⟨(some 9), none, .simple (.load (some 6) (.tmp 3))⟩,
  ⟨(some 10), none, .simple (.load (some 2) (.tmp 4))⟩,
  ⟨(some 11), none, .simple (.fieldAddr 1 (.tmp 5))⟩,
  ⟨(some 12), none, .simple (.load none (.tmp 11))⟩,
  ⟨(some 13), none, .call (.func 24) [(.tmp 9), (.tmp 10), (.tmp 12)]⟩,
  ⟨(some 7), none, .simple (.move (.tmp 13))⟩] (some [5, 7]))
(.seq (.seq (.region [
  ⟨(some 8), none, .simple (.move (.const (.int .i64 0)))⟩] (some [5, 7, 8]))
(.block 0 (.loop (.seq (.seq (.region [
    ⟨(some 14), none, .simple (.move (.tmp 8))⟩,
    ⟨(some 15), none, .simple (.move (.tmp 7))⟩,
    ⟨(some 16), none, .simple (.len (.tmp 15))⟩,
    ⟨(some 17), none, .simple (.bin .lss (.tmp 14) (.tmp 16))⟩] (some [5, 7, 8, 17]))
  (.cond (.tmp 17)
   .skip
   (.exit 0)))
  (.seq (.block 1 (.region [
     ⟨(some 20), none, .simple (.move (.tmp 7))⟩,
     ⟨(some 21), none, .simple (.move (.tmp 8))⟩,
     ⟨(some 22), none, .simple (.fieldAddr 2 (.tmp 5))⟩,
     ⟨(some 23), none, .simple (.load none (.tmp 22))⟩,
     ⟨(some 24), none, .simple (.move (.tmp 7))⟩,
     ⟨(some 25), none, .simple (.move (.tmp 8))⟩,
     ⟨(some 26), none, .simple (.indexS 1 (.tmp 24) (.tmp 25))⟩,
     ⟨(some 27), none, .simple (.load none (.tmp 26))⟩,
     ⟨(some 28), none, .simple (.bin .mul (.tmp 23) (.tmp 27))⟩,
     ⟨(some 29), none, .simple (.indexS 1 (.tmp 20) (.tmp 21))⟩,
     ⟨none, none, .simple (.store 1 (.tmp 29) (.tmp 28))⟩] (some [5, 7, 8])))
  (.region [
    ⟨(some 18), none, .simple (.move (.tmp 8))⟩,
    ⟨(some 19), none, .simple (.bin .add (.tmp 18) (.const (.int .i64 1)))⟩,
    ⟨(some 8), none, .simple (.move (.tmp 19))⟩] (some [5, 7, 8])))))))
(.seq (.region [
  ⟨(some 30), none, .simple (.move (.tmp 7))⟩,
  ⟨(some 6), none, .simple (.move (.tmp 30))⟩] (some [6]))
.ret))))
theorem k29 : Try.f29.body.bind (compC Try.prog G29) = some c29 := by kernel_rfl
theorem e29 : compRes Try.prog Try.f29.results.toList = some r29 := by kernel_rfl
def G30 : Cfg := ⟨[91], [(0, [3, 4, 5]), (1, [3, 4, 5, 7]), (2, [3, 4, 5, 7, 8]), (3, [3, 4, 5, 7, 8, 15]), (5, [3, 4, 5, 7, 8, 9]), (6, [3, 4, 5, 7, 8, 9, 10]), (7, [3, 4, 5, 7, 8, 9, 10, 39]), (8, [3, 4, 5, 7, 8, 9, 10]), (9, [3, 4, 5, 7, 8, 10, 68]), (10, [3, 4, 5, 7, 8, 10]), (11, [3, 4, 5, 7, 8]), (4, [3, 4, 5, 7, 8]), (12, [6])], 93, []⟩
def r30 : List CRes := [.tmp 6]
def c30 : CCode :=
(.seq (.region [
  ⟨(some 3), none, .simple (.box false (.tmp 0))⟩,
  ⟨(some 4), none, .simple (.box false (.tmp 1))⟩,
  ⟨(some 5), none, .simple (.box false (.tmp 2))⟩,
  ⟨(some 6), none, .simple (.move (.const (.slice none 0 0)))⟩] (some [3, 4, 5]))
(.seq (.region [
  ⟨(some 7), none, .simple (.move (.const (.slice none 0 0)))⟩] (some [3, 4, 5, 7]))
(.seq (.seq (.region [
  ⟨(some 8), none, .simple (.move (.const (.int .i64 0)))⟩] (some [3, 4, 5, 7, 8]))
(.block 0 (.loop (.seq (.seq (.region [
    ⟨(some 11), none, .simple (.move (.tmp 8))⟩,
    ⟨(some 12), none, .simple (.fieldAddr 2 (.tmp 3))⟩,
    ⟨(some 13), none, .simple (.load none (.tmp 12))⟩,
    ⟨(some 14), none, .simple (.len (.tmp 13))⟩,
    ⟨(some 15), none, .simple (.bin .lss (.tmp 11) (.tmp 14))⟩] (some [3, 4, 5, 7, 8, 15]))
  (.cond (.tmp 15)
   .skip
   (.exit 0)))
  (.seq (.block 1 (.seq (.region [
     ⟨(some 18), none, .simple (.load (some 6) (.tmp 3))⟩,
     ⟨(some 19), none, .simple (.fieldAddr 1 (.tmp 4))⟩,
     ⟨(some 20), none, .simple (.load none (.tmp 19))⟩,
     ⟨(some 21), none, .simple (.move (.tmp 8))⟩,
     ⟨(some 22), none, .simple (.indexS 1 (.tmp 20) (.tmp 21))⟩,
     ⟨(some 23), none, .simple (.load none (.tmp 22))⟩,
     ⟨(some 25), none, .simple (.fieldAddr 1 (.tmp 5))⟩,
     ⟨(some 26), none, .simple (.load none (.tmp 25))⟩,
     ⟨(some 24), none, .callx (.func 49) [(.tmp 18), (.tmp 23)]⟩,
     ⟨(some 27), none, .call (.func 23) [(.tmp 24), (.const (.int .i64 0)), (.tmp 26)]⟩,
     ⟨(some 9), none, .simple (.move (.tmp 27))⟩] (some [3, 4, 5, 7, 8, 9]))
   (.seq (.region [
     ⟨(some 10), none, .simple (.move (.const (.int .i64 0)))⟩] (some [3, 4, 5, 7, 8, 9, 10]))
   (.seq (.seq (.region [
     ⟨(some 28), none, .simple (.fieldAddr 0 (.tmp 4))⟩,
     ⟨(some 29), none, .simple (.load none (.tmp 28))⟩,
     ⟨(some 30), none, .simple (.move (.tmp 8))⟩,
     ⟨(some 31), none, .simple (.indexS 1 (.tmp 29) (.tmp 30))⟩,
     ⟨(some 32), none, .simple (.load none (.tmp 31))⟩,
     ⟨(some 33), none, .simple (.fieldAddr 0 (.tmp 5))⟩,
     ⟨(some 34), none, .simple (.load none (.tmp 33))⟩,
     ⟨(some 35), none, .simple (.bin .lss (.tmp 32) (.tmp 34))⟩,
     ⟨(some 36), none, .simple (.move (.tmp 35))⟩,
     ⟨(some 37), (some (36, true)), .simple (.move (.tmp 9))⟩,
     ⟨(some 38), (some (36, true)), .simple (.un .not (.tmp 37))⟩,
     ⟨(some 39), none, .simple (.pick (.tmp 36) (.tmp 38) (.const (.bool false)))⟩] (some [3, 4, 5, 7, 8, 9, 10, 39]))
   (.cond (.tmp 39)
    (.region [
      ⟨(some 40), none, .simple (.fieldAddr 2 (.tmp 5))⟩,
      ⟨(some 41), none, .simple (.load none (.tmp 40))⟩,
      ⟨(some 42), none, .simple (.load (some 6) (.tmp 3))⟩,
      ⟨(some 43), none, .simple (.fieldAddr 2 (.tmp 3))⟩,
      ⟨(some 44), none, .simple (.load none (.tmp 43))⟩,
      ⟨(some 45), none, .simple (.move (.tmp 8))⟩,
      ⟨(some 46), none, .simple (.indexS 7 (.tmp 44) (.tmp 45))⟩,
      ⟨(some 47), none, .simple (.fieldAddr 2 (.tmp 46))⟩,
      ⟨(some 48), none, .simple (.load none (.tmp 47))⟩,
      ⟨(some 49), none, .simple (.fieldAddr 0 (.tmp 4))⟩,
      ⟨(some 50), none, .simple (.load none (.tmp 49))⟩,
      ⟨(some 51), none, .simple (.move (.tmp 8))⟩,
      ⟨(some 52), none, .simple (.indexS 1 (.tmp 50) (.tmp 51))⟩,
      ⟨(some 53), none, .simple (.load none (.tmp 52))⟩,
      ⟨(some 54), none, .simple (.fieldAddr 1 (.tmp 5))⟩,
      ⟨(some 55), none, .simple (.load none (.tmp 54))⟩,
      ⟨(some 56), none, .callx (.func 63) [(.tmp 42), (.tmp 48), (.tmp 53), (.tmp 55)]⟩,
      ⟨(some 57), none, .simple (.bin .mul (.tmp 41) (.tmp 56))⟩,
      ⟨(some 10), none, .simple (.move (.tmp 57))⟩] (some [3, 4, 5, 7, 8, 9, 10]))
    .skip))
   (.seq (.seq (.region [
     ⟨(some 58), none, .simple (.fieldAddr 0 (.tmp 4))⟩,
     ⟨(some 59), none, .simple (.load none (.tmp 58))⟩,
     ⟨(some 60), none, .simple (.move (.tmp 8))⟩,
     ⟨(some 61), none, .simple (.indexS 1 (.tmp 59) (.tmp 60))⟩,
     ⟨(some 62), none, .simple (.load none (.tmp 61))⟩,
     ⟨(some 63), none, .simple (.fieldAddr 0 (.tmp 5))⟩,
     ⟨(some 64), none, .simple (.load none (.tmp 63))⟩,
     ⟨(some 65), none, .simple (.bin .geq (.tmp 62) (.tmp 64))⟩,
     ⟨(some 66), none, .simple (.move (.tmp 65))⟩,
     ⟨(some 67), (some (66, true)), .simple (.move (.tmp 9))⟩,
     ⟨(some 68), none, .simple (.pick (.tmp 66) (.tmp 67) (.const (.bool false)))⟩] (some [3, 4, 5, 7, 8, 10, 68]))
   (.cond (.tmp 68)
    (.region [
      ⟨(some 69), none, .simple (.fieldAddr 2 (.tmp 5))⟩,
      ⟨(some 70), none, .simple (.load none (.tmp 69))⟩,
      ⟨(some 71), none, .simple (.un .neg (.tmp 70))⟩,
      ⟨(some 72), none, .simple (.load (some 6) (.tmp 3))⟩,
      ⟨(some 73), none, .simple (.fieldAddr 2 (.tmp 3))⟩,
      ⟨(some 74), none, .simple (.load none (.tmp 73))⟩,
      ⟨(some 75), none, .simple (.move (.tmp 8))⟩,
      ⟨(some 76), none, .simple (.indexS 7 (.tmp 74) (.tmp 75))⟩,
      ⟨(some 77), none, .simple (.fieldAddr 2 (.tmp 76))⟩,
      ⟨(some 78), none, .simple (.load none (.tmp 77))⟩,
      ⟨(some 79), none, .simple (.fieldAddr 0 (.tmp 4))⟩,
      ⟨(some 80), none, .simple (.load none (.tmp 79))⟩,
      ⟨(some 81), none, .simple (.move (.tmp 8))⟩,
      ⟨(some 82), none, .simple (.indexS 1 (.tmp 80) (.tmp 81))⟩,
      ⟨(some 83), none, .simple (.load none (.tmp 82))⟩,
      ⟨(some 84), none, .simple (.fieldAddr 1 (.tmp 5))⟩,
      ⟨(some 85), none, .simple (.load none (.tmp 84))⟩,
      ⟨(some 86), none, .callx (.func 63) [(.tmp 72), (.tmp 78), (.tmp 83), (.tmp 85)]⟩,
      ⟨(some 87), none, .simple (.bin .mul (.tmp 71) (.tmp 86))⟩,
      ⟨(some 10), none, .simple (.move (.tmp 87))⟩] (some [3, 4, 5, 7, 8, 10]))
    .skip))
   (.region [
     ⟨(some 88), none, .simple (.move (.tmp 7))⟩,
     ⟨(some 89), none, .simple (.move (.tmp 10))⟩,
     ⟨(some 90), none, .simple (.bslice false 3 1 1 [(.int .i64 0)] [(0, (.tmp 89))])⟩,
     ⟨(some 91), none, .app 3 1 8 (.tmp 88) (.tmp 90)⟩,
     ⟨(some 7), none, .simple (.move (.tmp 91))⟩] (some [3, 4, 5, 7, 8])))))))
  (.region [
    ⟨(some 16), none, .simple (.move (.tmp 8))⟩,
    ⟨(some 17), none, .simple (.bin .add (.tmp 16) (.const (.int .i64 1)))⟩,
    ⟨(some 8), none, .simple (.move (.tmp 17))⟩] (some [3, 4, 5, 7, 8])))))))
(.seq (.region [
  ⟨(some 92), none, .simple (.move (.tmp 7))⟩,
  ⟨(some 6), none, .simple (.move (.tmp 92))⟩] (some [6]))
.ret))))
theorem k30 : Try.f30.body.bind (compC Try.prog G30) = some c30 := by kernel_rfl
theorem e30 : compRes Try.prog Try.f30.results.toList = some r30 := by kernel_rfl
def G31 : Cfg := ⟨[99, 11], [(0, [3, 4, 5]), (1, [3, 4, 5, 7]), (2, [3, 4, 5, 7, 8]), (3, [3, 4, 5, 7, 8, 15]), (5, [3, 4, 5, 7, 8, 9]), (6, [3, 4, 5, 7, 8, 9, 10]), (7, [3, 4, 5, 7, 8, 9, 10, 31]), (9, [3, 4, 5, 7, 8, 9, 10, 11]), (10, [3, 4, 5, 7, 8, 9, 10, 11, 52]), (11, [3, 4, 5, 7, 8, 9, 10, 11]), (12, [3, 4, 5, 7, 8, 9, 10, 11, 79]), (13, [3, 4, 5, 7, 8, 9, 10]), (8, [3, 4, 5, 7, 8, 9, 10]), (14, [3, 4, 5, 7, 8]), (4, [3, 4, 5, 7, 8]), (15, [6])], 101, []⟩
def r31 : List CRes := [.tmp 6]
def c31 : CCode :=
(.seq (.region [
  ⟨(some 3), none, .simple (.box false (.tmp 0))⟩,
  ⟨(some 4), none, .simple (.box false (.tmp 1))⟩,
  ⟨(some 5), none, .simple (.box false (.tmp 2))⟩,
  ⟨(some 6), none, .simple (.move (.const (.slice none 0 0)))⟩] (some [3, 4, 5]))
(.seq (.region [
  ⟨(some 7), none, .simple (.move (.const (.slice none 0 0)))⟩] (some [3, 4, 5, 7]))
(.seq (.seq (.region [
  ⟨(some 8), none, .simple (.move (.const (.int .i64 0)))⟩] (some [3, 4, 5, 7, 8]))
(.block 0 (.loop (.seq (.seq (.region [
    ⟨(some 12), none, .simple (.move (.tmp 8))⟩,
    ⟨(some 13), none, .simple (.fieldAddr 0 (.tmp 3))⟩,
    ⟨(some 14), none, .simple (.load none (.tmp 13))⟩,
    ⟨(some 15), none, .simple (.bin .lss (.tmp 12) (.tmp 14))⟩] (some [3, 4, 5, 7, 8, 15]))
  (.cond (.tmp 15)
   .skip
   (.exit 0)))
  (.seq (.block 1 (.seq (.region [
     ⟨(some 18), none, .simple (.load (some 6) (.tmp 3))⟩,
     ⟨(some 19), none, .simple (.fieldAddr 1 (.tmp 3))⟩,
     ⟨(some 20), none, .simple (.load none (.tmp 19))⟩,
     ⟨(some 21), none, .simple (.move (.tmp 8))⟩,
     ⟨(some 22), none, .simple (.indexS 1 (.tmp 20) (.tmp 21))⟩,
     ⟨(some 23), none, .simple (.load none (.tmp 22))⟩,
     ⟨(some 24), none, .simple (.fieldAddr 1 (.tmp 5))⟩,
     ⟨(some 25), none, .simple (.load none (.tmp 24))⟩,
     ⟨(some 26), none, .call (.func 63) [(.tmp 18), (.tmp 23), (.const (.int .i64 (-1))), (.tmp 25)]⟩,
     ⟨(some 9), none, .simple (.move (.tmp 26))⟩] (some [3, 4, 5, 7, 8, 9]))
   (.seq (.seq (.region [
     ⟨(some 10), none, .simple (.move (.const (.int .i64 0)))⟩] (some [3, 4, 5, 7, 8, 9, 10]))
   (.block 2 (.loop (.seq (.seq (.region [
       ⟨(some 27), none, .simple (.move (.tmp 10))⟩,
       ⟨(some 28), none, .simple (.fieldAddr 2 (.tmp 3))⟩,
       ⟨(some 29), none, .simple (.load none (.tmp 28))⟩,
       ⟨(some 30), none, .simple (.len (.tmp 29))⟩,
       ⟨(some 31), none, .simple (.bin .lss (.tmp 27) (.tmp 30))⟩] (some [3, 4, 5, 7, 8, 9, 10, 31]))
     (.cond (.tmp 31)
      .skip
      (.exit 2)))
     (.seq (.block 3 (.seq (.region [
        ⟨(some 34), none, .simple (.fieldAddr 2 (.tmp 3))⟩,
        ⟨(some 35), none, .simple (.load none (.tmp 34))⟩,
        ⟨(some 36), none, .simple (.move (.tmp 10))⟩,
        ⟨(some 37), none, .simple (.indexS 7 (.tmp 35) (.tmp 36))⟩,
        ⟨(some 38), none, .simple (.load (some 7) (.tmp 37))⟩,
        ⟨(some 11), none, .simple (.alloc [(.d (.int .i64 0)), (.d (.int .i64 0)), (.d (.int .i64 0)), (.d (.int .i64 0)), (.d (.int .i64 0)), (.d (.int .i64 0)), (.d (.int .i64 0))])⟩,
        ⟨none, none, .simple (.store 7 (.tmp 11) (.tmp 38))⟩] (some [3, 4, 5, 7, 8, 9, 10, 11]))
      (.seq (.seq (.region [
        ⟨(some 39), none, .simple (.fieldAddr 0 (.tmp 4))⟩,
        ⟨(some 40), none, .simple (.load none (.tmp 39))⟩,
        ⟨(some 41), none, .simple (.move (.tmp 10))⟩,
        ⟨(some 42), none, .simple (.indexS 1 (.tmp 40) (.tmp 41))⟩,
        ⟨(some 43), none, .simple (.load none (.tmp 42))⟩,
        ⟨(some 44), none, .simple (.fieldAddr 0 (.tmp 5))⟩,
        ⟨(some 45), none, .simple (.load none (.tmp 44))⟩,
        ⟨(some 46), none, .simple (.bin .lss (.tmp 43) (.tmp 45))⟩,
        ⟨(some 47), none, .simple (.move (.tmp 46))⟩,
        ⟨(some 48), (some (47, true)), .simple (.fieldAddr 1 (.tmp 11))⟩,
        ⟨(some 49), (some (47, true)), .simple (.load none (.tmp 48))⟩,
        ⟨(some 50), (some (47, true)), .simple (.move (.tmp 8))⟩,
        ⟨(some 51), (some (47, true)), .simple (.bin .eql (.tmp 49) (.tmp 50))⟩,
        ⟨(some 52), none, .simple (.pick (.tmp 47) (.tmp 51) (.const (.bool false)))⟩] (some [3, 4, 5, 7, 8, 9, 10, 11, 52]))
      (.cond (.tmp 52)
       (.region [
         ⟨(some 53), none, .simple (.move (.tmp 9))⟩,
         ⟨(some 54), none, .simple (.load (some 6) (.tmp 3))⟩,
         ⟨(some 55), none, .simple (.fieldAddr 2 (.tmp 11))⟩,
         ⟨(some 56), none, .simple (.load none (.tmp 55))⟩,
         ⟨(some 57), none, .simple (.fieldAddr 0 (.tmp 4))⟩,
         ⟨(some 58), none, .simple (.load none (.tmp 57))⟩,
         ⟨(some 59), none, .simple (.move (.tmp 10))⟩,
         ⟨(some 60), none, .simple (.indexS 1 (.tmp 58) (.tmp 59))⟩,
         ⟨(some 61), none, .simple (.load none (.tmp 60))⟩,
         ⟨(some 62), none, .simple (.fieldAddr 1 (.tmp 5))⟩,
         ⟨(some 63), none, .simple (.load none (.tmp 62))⟩,
         ⟨(some 64), none, .callx (.func 63) [(.tmp 54), (.tmp 56), (.tmp 61), (.tmp 63)]⟩,
         ⟨(some 65), none, .simple (.bin .add (.tmp 53) (.tmp 64))⟩,
         ⟨(some 9), none, .simple (.move (.tmp 65))⟩] (some [3, 4, 5, 7, 8, 9, 10, 11]))
       .skip))
      (.seq (.region [
        ⟨(some 66), none, .simple (.fieldAddr 0 (.tmp 4))⟩,
        ⟨(some 67), none, .simple (.load none (.tmp 66))⟩,
        ⟨(some 68), none, .simple (.move (.tmp 10))⟩,
        ⟨(some 69), none, .simple (.indexS 1 (.tmp 67) (.tmp 68))⟩,
        ⟨(some 70), none, .simple (.load none (.tmp 69))⟩,
        ⟨(some 71), none, .simple (.fieldAddr 0 (.tmp 5))⟩,
        ⟨(some 72), none, .simple (.load none (.tmp 71))⟩,
        ⟨(some 73), none, .simple (.bin .lss (.tmp 70) (.tmp 72))⟩,
        ⟨(some 74), none, .simple (.move (.tmp 73))⟩,
        ⟨(some 75), (some (74, true)), .simple (.fieldAddr 0 (.tmp 11))⟩,
        ⟨(some 76), (some (74, true)), .simple (.load none (.tmp 75))⟩,
        ⟨(some 77), (some (74, true)), .simple (.move (.tmp 8))⟩,
        ⟨(some 78), (some (74, true)), .simple (.bin .eql (.tmp 76) (.tmp 77))⟩,
        ⟨(some 79), none, .simple (.pick (.tmp 74) (.tmp 78) (.const (.bool false)))⟩] (some [3, 4, 5, 7, 8, 9, 10, 11, 79]))
      (.cond (.tmp 79)
       (.region [
         ⟨(some 80), none, .simple (.move (.tmp 9))⟩,
         ⟨(some 81), none, .simple (.load (some 6) (.tmp 3))⟩,
         ⟨(some 82), none, .simple (.fieldAddr 2 (.tmp 11))⟩,
         ⟨(some 83), none, .simple (.load none (.tmp 82))⟩,
         ⟨(some 84), none, .simple (.fieldAddr 0 (.tmp 4))⟩,
         ⟨(some 85), none, .simple (.load none (.tmp 84))⟩,
         ⟨(some 86), none, .simple (.move (.tmp 10))⟩,
         ⟨(some 87), none, .simple (.indexS 1 (.tmp 85) (.tmp 86))⟩,
         ⟨(some 88), none, .simple (.load none (.tmp 87))⟩,
         ⟨(some 89), none, .simple (.fieldAddr 1 (.tmp 5))⟩,
         ⟨(some 90), none, .simple (.load none (.tmp 89))⟩,
         ⟨(some 91), none, .callx (.func 63) [(.tmp 81), (.tmp 83), (.tmp 88), (.tmp 90)]⟩,
         ⟨(some 92), none, .simple (.bin .sub (.tmp 80) (.tmp 91))⟩,
         ⟨(some 9), none, .simple (.move (.tmp 92))⟩] (some [3, 4, 5, 7, 8, 9, 10]))
       .skip)))))
     (.region [
       ⟨(some 32), none, .simple (.move (.tmp 10))⟩,
       ⟨(some 33), none, .simple (.bin .add (.tmp 32) (.const (.int .i64 1)))⟩,
       ⟨(some 10), none, .simple (.move (.tmp 33))⟩] (some [3, 4, 5, 7, 8, 9, 10])))))))
   (.region [
     ⟨(some 93), none, .simple (.move (.tmp 7))⟩,
     ⟨(some 94), none, .simple (.fieldAddr 2 (.tmp 5))⟩,
     ⟨(some 95), none, .simple (.load none (.tmp 94))⟩,
     ⟨(some 96), none, .simple (.move (.tmp 9))⟩,
     ⟨(some 97), none, .simple (.bin .mul (.tmp 95) (.tmp 96))⟩,
     ⟨(some 98), none, .simple (.bslice false 3 1 1 [(.int .i64 0)] [(0, (.tmp 97))])⟩,
     ⟨(some 99), none, .app 3 1 8 (.tmp 93) (.tmp 98)⟩,
     ⟨(some 7), none, .simple (.move (.tmp 99))⟩] (some [3, 4, 5, 7, 8])))))
  (.region [
    ⟨(some 16), none, .simple (.move (.tmp 8))⟩,
    ⟨(some 17), none, .simple (.bin .add (.tmp 16) (.const (.int .i64 1)))⟩,
    ⟨(some 8), none, .simple (.move (.tmp 17))⟩] (some [3, 4, 5, 7, 8])))))))
(.seq (.region [
  ⟨(some 100), none, .simple (.move (.tmp 7))⟩,
  ⟨(some 6), none, .simple (.move (.tmp 100))⟩] (some [6]))
.ret))))
theorem k31 : Try.f31.body.bind (compC Try.prog G31) = some c31 := by kernel_rfl
theorem e31 : compRes Try.prog Try.f31.results.toList = some r31 := by kernel_rfl
end Go.Proofs.Ytdnefcjbcieecaa
namespace Go.Proofs.Ytdnefcjbcieecaa
open Go Go.Proofs
noncomputable section
theorem q113 : FunIs Try.prog 113 G113 c113 r113 := ⟨Try.f113, Try.func113, k113, e113, by kernel_rfl, by kernel_rfl⟩
theorem q96 : FunIs Try.prog 96 G96 c96 r96 := ⟨Try.f96, Try.func96, k96, e96, by kernel_rfl, by kernel_rfl⟩
theorem q93 : FunIs Try.prog 93 G93 c93 r93 := ⟨Try.f93, Try.func93, k93, e93, by kernel_rfl, by kernel_rfl⟩
theorem q92 : FunIs Try.prog 92 G92 c92 r92 := ⟨Try.f92, Try.func92, k92, e92, by kernel_rfl, by kernel_rfl⟩
theorem q58 : FunIs Try.prog 58 G58 c58 r58 := ⟨Try.f58, Try.func58, k58, e58, by kernel_rfl, by kernel_rfl⟩
theorem q51 : FunIs Try.prog 51 G51 c51 r51 := ⟨Try.f51, Try.func51, k51, e51, by kernel_rfl, by kernel_rfl⟩
def E113 (l : List Int) (m : Int) (k : Nat) : Env := [(0, vsl eI l), (3, vi m), (4, vi ((k : Int) + 1))]
def minK (l : List Int) : Nat → Int
  | 0 => lat l 0
  | k + 1 => min2 (minK l k) (lat l ((k : Int) + 1))
def leastL (l : List Int) : Int := minK l (l.length - 1)
theorem w113 (l : List Int) : sx X13 c113 [] (doneK r113) (envOf [vsl eI l]) [] [] =
    Tr.br (decide (Int.ofNat (List.length l) < (1 : Int))) Tr.fail (Tr.need ((0 : Int) ≤ (0 : Int) ∧ (0 : Int) < Int.ofNat (List.length l) ∧ okEl [0] (enc eI l) (1 : Nat) (0 : Int)) (Tr.lp (CCode.at c113 [(1 : Nat), (1 : Nat), (1 : Nat), (0 : Nat), (1 : Nat), (0 : Nat), (0 : Nat)]) [Fr.blk (0), Fr.seq (CCode.at c113 [(1 : Nat), (1 : Nat), (1 : Nat), (1 : Nat)])] [(0, V.d (D.sl false (List.length l) (enc eI l))), (3, V.d (D.int IntKind.i64 (cI (enc eI l) (1 : Nat) (0 : Int) (0 : Nat)))), (4, V.d (D.int IntKind.i64 (1 : Int)))] [])) := by kernel_rfl
theorem b113 (l : List Int) (m : Int) (k : Nat) : sx X13 (CCode.at c113 [1,1,1,0,1,0,0]) [] (bodyK r113) (E113 l m k) [] [] =
    Tr.br (decide (Int.ofNat k + (1 : Int) < Int.ofNat (List.length l))) (Tr.need ((0 : Int) ≤ Int.ofNat k + (1 : Int) ∧ Int.ofNat k + (1 : Int) < Int.ofNat (List.length l) ∧ okEl [0] (enc eI l) (1 : Nat) (Int.ofNat k + (1 : Int))) (Tr.need ((-9223372036854775808 : Int) ≤ Int.ofNat k + (1 : Int) + (1 : Int) ∧ Int.ofNat k + (1 : Int) + (1 : Int) ≤ (9223372036854775807 : Int)) (Tr.leaf CExit.normal [(0, V.d (D.sl false (List.length l) (enc eI l))), (3, V.d (D.int IntKind.i64 (min2 m (cI (enc eI l) (1 : Nat) (Int.ofNat k + (1 : Int)) (0 : Nat))))), (4, V.d (D.int IntKind.i64 (Int.ofNat k + (1 : Int) + (1 : Int))))] []))) (Tr.leaf (CExit.exit (0)) [(0, V.d (D.sl false (List.length l) (enc eI l))), (3, V.d (D.int IntKind.i64 m)), (4, V.d (D.int IntKind.i64 (Int.ofNat k + (1 : Int)))), (15, V.d (D.bool (decide (Int.ofNat k + (1 : Int) < Int.ofNat (List.length l)))))] []) := by kernel_rfl
theorem x113 (l : List Int) (m : Int) (u v : V) : sS X13 (doneK r113) [Fr.blk 0, Fr.seq (CCode.at c113 [1,1,1,1])] (.exit 0) [(0, vsl eI l), (3, vi m), (4, u), (15, v)] [] [] =
    Tr.done (V.d (D.int IntKind.i64 m)) [] := by kernel_rfl
theorem y113 (l : List Int) (h0 : 0 < l.length) (hl : l.length ≤ 1000000) : Yields Try.prog 113 [vsl eI l] (vi (leastL l)) := by
  refine q113.yieldsK X13_ok rfl rfl rfl (w113 l) ?_
  simp only [holds, Int.ofNat_eq_natCast, cI_I]
  refine ⟨fun h => ?_, fun _ => ⟨⟨by omega, by omega, ok_I (by simpa using h0)⟩, ?_⟩⟩
  · have := of_decide_eq_true h; omega
  refine lp_countK X13_ok rfl (l.length - 1) (fun _ => True) (fun k => E113 l (minK l k) k) (fun _ => []) rfl rfl trivial (fun k _ => ⟨rfl, rfl, rfl⟩) ?_
  intro k hk _ Q' hn he
  rw [b113]
  simp only [holds, Int.ofNat_eq_natCast, cI_I]
  refine ⟨fun h1 => ?_, fun h1 => ?_⟩
  · have hlt : k + 1 < l.length := by have := of_decide_eq_true h1; omega
    exact ⟨⟨by omega, by omega, ok_I (by omega)⟩, ⟨by omega, by omega⟩, hn _ (by omega) trivial⟩
  · have hge : k = l.length - 1 := by have := of_decide_eq_false h1; omega
    refine he _ _ _ (ret_tree X13_ok (doneK_ok rfl) (x113 _ _ _ _) ?_)
    simp only [holds]
    subst hge
    exact .refl _
def ent113 : Ent := fun args _ => match args with
  | [.d (.sl false n cs)] => some (okL eI 1 gI n cs ∧ 0 < n ∧ n ≤ 1000000, vi (leastL (dec 1 gI n cs)), none)
  | _ => none
theorem ent113_ok : EntOk Try.prog 113 ent113 := by
  intro args h p v h' he hp
  unfold ent113 at he
  split at he
  · cases he; rw [okL_vsl hp.1]; exact y113 _ (by rw [dec_len]; exact hp.2.1) (by rw [dec_len]; exact hp.2.2) h
  · cases he
def tab14 : Spec := (spAdd 113 ent113 tab13)
theorem tab14_ok : SpOk Try.prog tab14 := (spAdd_ok ent113_ok tab13_ok)
def X14 : Sx := mkX tab14
theorem X14_ok : SpOk Try.prog X14.sp := tab14_ok
theorem w96 (l : List Int) (h0 : 0 < l.length) (hl : l.length ≤ 1000000) : sx X14 c96 [] (doneF 0 r96) (envOf [vsl eI l]) [] [] =
    Tr.need (okL eI (1 : Nat) gI (List.length l) (enc eI l) ∧ (0 : Nat) < List.length l ∧ List.length l ≤ (1000000 : Nat)) (Tr.done (V.d (D.int IntKind.i64 (leastL (dec (1 : Nat) gI (List.length l) (enc eI l))))) []) := by kernel_rfl
theorem y96 (l : List Int) (h0 : 0 < l.length) (hl : l.length ≤ 1000000) : Yields Try.prog 96 [vsl eI l] (vi (leastL l)) := by
  refine q96.yields X14_ok rfl rfl rfl (w96 l h0 hl) ?_
  simp only [holds]
  simp only [okL_I, dec_I]
  exact ⟨⟨by omega, h0, hl⟩, .refl _⟩
def ent96 : Ent := fun args _ => match args with
  | [.d (.sl false n cs)] => some (okL eI 1 gI n cs ∧ 0 < n ∧ n ≤ 1000000, vi (leastL (dec 1 gI n cs)), none)
  | _ => none
theorem ent96_ok : EntOk Try.prog 96 ent96 := by
  intro args h p v h' he hp
  unfold ent96 at he
  split at he
  · cases he; rw [okL_vsl hp.1]; exact y96 _ (by rw [dec_len]; exact hp.2.1) (by rw [dec_len]; exact hp.2.2) h
  · cases he
def ent60 : Ent := fun args h => match args, asW h with
  | [.ptr 1 0 0, x, .d (.int .i64 n)], some (c, km, rest) => match asU x with
    | some t => some (h = Wk c km rest ∧ Uv t = x ∧ faultM c = 0 ∧ t.sold.length = c.trades.length ∧ t.deliv.length = c.trades.length ∧ kmOk c km, .agg (cells4 (heldF c t n)), some (putW h (kmT c t n km c.trades.length)))
    | none => none
  | _, _ => none
theorem ent60_ok : EntOk Try.prog 60 ent60 := by
  intro args h p v h' he hp
  unfold ent60 at he
  split at he
  · rename_i x n c km rest hw
    split at he
    · cases he
      obtain ⟨h1, rfl, h3, h4, h5, h6⟩ := hp
      subst h1
      exact more_W rfl rfl (a60 c _ n km h3 h4 h5 h6) rest
    · cases he
  · cases he
def datK (c : Cmp) (t : Tru) (k : Nat) : Bool := (lat c.trades k).sold.has (lat t.sold k) && (lat c.trades k).deliv.has (lat t.deliv k) && decide (lat t.sold k ≤ lat t.deliv k)
def datedB (c : Cmp) (t : Tru) : Bool := decide (t.sold.length = c.trades.length ∧ t.deliv.length = c.trades.length ∧ ∀ k, k < c.trades.length → datK c t k = true)
def E92 (c : Cmp) (t : Tru) (k : Nat) : Env := [(3, .rptr (Uds t) 0), (24, .d (dsl eT c.trades)), (25, vi c.trades.length), (26, vi k)]
theorem w92 (c : Cmp) (t : Tru) : sx X13 c92 [] (doneK r92) (envOf [Cv c, Uv t]) [] [] =
    Tr.br (Int.ofNat (List.length (Tru.sold t)) != Int.ofNat (List.length (Cmp.trades c))) (Tr.done (V.d (D.bool false)) []) (Tr.br (Int.ofNat (List.length (Tru.deliv t)) != Int.ofNat (List.length (Cmp.trades c))) (Tr.done (V.d (D.bool false)) []) (Tr.lp (CCode.at c92 [(1 : Nat), (1 : Nat), (0 : Nat), (1 : Nat), (0 : Nat), (0 : Nat)]) [Fr.blk (0), Fr.seq (CCode.at c92 [(1 : Nat), (1 : Nat), (1 : Nat)])] [(3, V.rptr (Uds t) (0)), (24, V.d (D.sl false (List.length (Cmp.trades c)) (enc eT (Cmp.trades c)))), (25, V.d (D.int IntKind.i64 (Int.ofNat (List.length (Cmp.trades c))))), (26, V.d (D.int IntKind.i64 (0 : Int)))] [])) := by kernel_rfl
theorem b92 (c : Cmp) (t : Tru) (k : Nat) : sx X13 (CCode.at c92 [1,1,0,1,0,0]) [] (bodyK r92) (E92 c t k) [] [] =
    let x1_ := (List.length (Cmp.trades c))
    let x2_ := (decide (Int.ofNat k < Int.ofNat x1_))
    let x3_ := ((0 : Int) ≤ Int.ofNat k ∧ Int.ofNat k < Int.ofNat (List.length (Tru.sold t)) ∧ okEl [0] (enc eI (Tru.sold t)) (1 : Nat) (Int.ofNat k))
    let x4_ := ((0 : Int) ≤ Int.ofNat k ∧ Int.ofNat k < Int.ofNat (List.length (Tru.deliv t)) ∧ okEl [0] (enc eI (Tru.deliv t)) (1 : Nat) (Int.ofNat k))
    Tr.br x2_ (Tr.need ((0 : Int) ≤ Int.ofNat k ∧ Int.ofNat k < Int.ofNat x1_ ∧ okEl [0, 0, 0, 0, 0, 0, 0] (enc eT (Cmp.trades c)) (7 : Nat) (Int.ofNat k)) (Tr.need x3_ (Tr.need True (Tr.br (!Rng.has { lo := cI (enc eT (Cmp.trades c)) (7 : Nat) (Int.ofNat k) (3), hi := cI (enc eT (Cmp.trades c)) (7 : Nat) (Int.ofNat k) (4) } (cI (enc eI (Tru.sold t)) (1 : Nat) (Int.ofNat k) (0 : Nat))) (Tr.done (V.d (D.bool false)) []) (Tr.need x4_ (Tr.need True (Tr.br (!Rng.has { lo := cI (enc eT (Cmp.trades c)) (7 : Nat) (Int.ofNat k) (5), hi := cI (enc eT (Cmp.trades c)) (7 : Nat) (Int.ofNat k) (6) } (cI (enc eI (Tru.deliv t)) (1 : Nat) (Int.ofNat k) (0 : Nat))) (Tr.done (V.d (D.bool false)) []) (Tr.need x4_ (Tr.need x3_ (Tr.br (decide (cI (enc eI (Tru.deliv t)) (1 : Nat) (Int.ofNat k) (0 : Nat) < cI (enc eI (Tru.sold t)) (1 : Nat) (Int.ofNat k) (0 : Nat))) (Tr.done (V.d (D.bool false)) []) (Tr.need ((-9223372036854775808 : Int) ≤ Int.ofNat k + (1 : Int) ∧ Int.ofNat k + (1 : Int) ≤ (9223372036854775807 : Int)) (Tr.leaf CExit.normal [(3, V.rptr (Uds t) (0)), (24, V.d (D.sl false x1_ (enc eT (Cmp.trades c)))), (25, V.d (D.int IntKind.i64 (Int.ofNat x1_))), (26, V.d (D.int IntKind.i64 (Int.ofNat k + (1 : Int))))] [some (Blk.box [V.d (D.int IntKind.i64 (cI (enc eT (Cmp.trades c)) (7 : Nat) (Int.ofNat k) (0 : Nat))), V.d (D.int IntKind.i64 (cI (enc eT (Cmp.trades c)) (7 : Nat) (Int.ofNat k) (1))), V.d (D.int IntKind.i64 (cI (enc eT (Cmp.trades c)) (7 : Nat) (Int.ofNat k) (2))), V.d (D.int IntKind.i64 (cI (enc eT (Cmp.trades c)) (7 : Nat) (Int.ofNat k) (3))), V.d (D.int IntKind.i64 (cI (enc eT (Cmp.trades c)) (7 : Nat) (Int.ofNat k) (4))), V.d (D.int IntKind.i64 (cI (enc eT (Cmp.trades c)) (7 : Nat) (Int.ofNat k) (5))), V.d (D.int IntKind.i64 (cI (enc eT (Cmp.trades c)) (7 : Nat) (Int.ofNat k) (6)))])])))))))))))) (Tr.leaf (CExit.exit (0)) [(3, V.rptr (Uds t) (0)), (24, V.d (D.sl false x1_ (enc eT (Cmp.trades c)))), (25, V.d (D.int IntKind.i64 (Int.ofNat x1_))), (26, V.d (D.int IntKind.i64 (Int.ofNat k))), (27, V.d (D.bool x2_))] []) := by kernel_rfl
theorem x92 (u x v w z : V) : sS X13 (doneK r92) [Fr.blk 0, Fr.seq (CCode.at c92 [1,1,1])] (.exit 0) [(3, x), (24, u), (25, v), (26, w), (27, z)] [] [] =
    Tr.done (V.d (D.bool true)) [] := by kernel_rfl
theorem y92 (c : Cmp) (t : Tru) (hl : c.trades.length ≤ 1000000) : Yields Try.prog 92 [Cv c, Uv t] (vb (datedB c t)) := by
  refine q92.yieldsK X13_ok rfl rfl rfl (w92 c t) ?_
  simp only [holds, Int.ofNat_eq_natCast]
  have hno : datedB c t = false → VLe (V.d (.bool false)) (vb (datedB c t)) := fun h => .of_eq (congrArg vb h.symm)
  refine ⟨fun h => hno ?_, fun h1 => ⟨fun h => hno ?_, fun h2 => ?_⟩⟩
  · simp [datedB]; intro h2; simp [h2] at h
  · simp [datedB]; intro _ h2; simp [h2] at h
  have l1 : t.sold.length = c.trades.length := by simp at h1; omega
  have l2 : t.deliv.length = c.trades.length := by simp at h2; omega
  refine lp_countK X13_ok rfl c.trades.length (fun k => ∀ j, j < k → datK c t j = true) (E92 c t) (fun _ => []) rfl rfl (fun j hj => by omega) (fun k _ => ⟨rfl, rfl, rfl⟩) ?_
  intro k hk hA Q' hn he
  rw [b92]
  simp only [holds, Int.ofNat_eq_natCast, cI_I, cI_T3, cI_T4, cI_T5, cI_T6, true_and]
  refine ⟨fun h1 => ?_, fun h1 => ?_⟩
  · have hlt : k < c.trades.length := by have := of_decide_eq_true h1; omega
    have hf1 : datK c t k = false → VLe (V.d (.bool false)) (vb (datedB c t)) := fun h => hno (by
      simp only [datedB, decide_eq_false_iff_not]
      intro ⟨_, _, h4⟩
      rw [h4 k hlt] at h; cases h)
    have hn1 : datK c t k = true → ∀ J, _ := fun h J => hn J hlt (step_all hA h)
    have o1 : okEl [0, 0, 0, 0, 0, 0, 0] (enc eT c.trades) 7 (k : Nat) := ok_T (by simpa using hlt)
    have o2 : okEl [0] (enc eI t.deliv) 1 (k : Nat) := ok_I (by simp; omega)
    have o3 : okEl [0] (enc eI t.sold) 1 (k : Nat) := ok_I (by simp; omega)
    repeat' (first | (refine And.intro ?_ ?_) | (refine fun (_ : _ = _) => ?_))
    all_goals first
      | omega
      | assumption
      | exact hf1 (by simp_all [datK])
      | exact hn1 (by simp_all [datK]) _
  · have hge : k = c.trades.length := by have := of_decide_eq_false h1; omega
    refine he _ _ _ (ret_tree X13_ok (doneK_ok rfl) (x92 _ _ _ _ _) ?_)
    simp only [holds]
    refine .of_eq (congrArg vb ?_)
    simp only [datedB]
    exact (decide_eq_true ⟨l1, l2, fun j hj => hA j (by omega)⟩).symm
def ent92 := entCU (fun c _ => c.trades.length ≤ 1000000) (fun c t => vb (datedB c t))
theorem ent92_ok : EntOk Try.prog 92 ent92 := entCU_ok fun c t h => y92 c t h
def tab15 : Spec := (spAdd 92 ent92 (spAdd 60 ent60 (spAdd 96 ent96 tab14)))
theorem tab15_ok : SpOk Try.prog tab15 := (spAdd_ok ent92_ok (spAdd_ok ent60_ok (spAdd_ok ent96_ok tab14_ok)))
def X15 : Sx := mkX tab15
theorem X15_ok : SpOk Try.prog X15.sp := tab15_ok
theorem w93 (c : Cmp) (t : Tru) (km : List (Int × Int × Int)) : sx X15 c93 [] (doneK r93) (envOf [.ptr 1 0 0, Uv t]) [] (Wk c km []) =
    Tr.lp (CCode.at c93 [(1 : Nat), (1 : Nat), (0 : Nat), (1 : Nat), (0 : Nat), (0 : Nat)]) [Fr.blk (0), Fr.seq (CCode.at c93 [(1 : Nat), (1 : Nat), (1 : Nat)])] [(0, V.ptr (1) (0) (0)), (3, V.rptr (Uds t) (0)), (5, V.ptr (2) (0) (0)), (8, V.d (D.int IntKind.i64 (0 : Int)))] [some (Blk.map (List.map entE km)), some (Blk.box [V.d (D.int IntKind.i64 (Cmp.houses c)), V.d (D.sl false (List.length (Cmp.held c)) (enc eI (Cmp.held c))), V.d (D.sl false (List.length (Cmp.trades c)) (enc eT (Cmp.trades c))), V.d (D.sl false (List.length (Cmp.divs c)) (enc eV (Cmp.divs c))), V.d (D.sl false (List.length (Cmp.splits c)) (enc eS (Cmp.splits c))), V.d (D.sl false (List.length (Cmp.closed c)) (enc eR (Cmp.closed c))), V.mp (0)]), some (Blk.box [V.d (D.int IntKind.i64 (0 : Int)), V.d (D.int IntKind.i64 (0 : Int)), V.d (D.int IntKind.i64 (0 : Int)), V.d (D.int IntKind.i64 (0 : Int))])] := by kernel_rfl
def E93 (t : Tru) (k : Nat) : Env := [(0, .ptr 1 0 0), (3, .rptr (Uds t) 0), (5, .ptr 2 0 0), (8, vi k)]
theorem b93 (c : Cmp) (t : Tru) (km : List (Int × Int × Int)) (k : Nat) (f : Nat → Int) : sx X15 (CCode.at c93 [1,1,0,1,0,0]) [] leafK (E93 t k) [] (Wk c km [some (.box (cells4 f))]) =
    let x1_ := (decide (Int.ofNat k < (12 : Int)))
    let x2_ := [some (Blk.box (cells4 f))]
    let x3_ := (heldF (dCe c) (dUe t) (Int.ofNat k) (0 : Nat))
    let x4_ := (heldF (dCe c) (dUe t) (Int.ofNat k) (1 : Nat))
    let x5_ := (heldF (dCe c) (dUe t) (Int.ofNat k) (2 : Nat))
    let x6_ := (heldF (dCe c) (dUe t) (Int.ofNat k) (3 : Nat))
    let x7_ := [D.int IntKind.i64 x3_, D.int IntKind.i64 x4_, D.int IntKind.i64 x5_, D.int IntKind.i64 x6_]
    let x8_ := [D.int IntKind.i64 (f (0 : Nat)), D.int IntKind.i64 (f (1 : Nat)), D.int IntKind.i64 (f (2 : Nat)), D.int IntKind.i64 (f (3 : Nat))]
    let x9_ := ((-9223372036854775808 : Int) ≤ Int.ofNat k + (1 : Int) ∧ Int.ofNat k + (1 : Int) ≤ (9223372036854775807 : Int))
    let x10_ := (Blk.map (List.map entE (kmT (dCe c) (dUe t) (Int.ofNat k) (dK (List.map entE km)) (List.length (Cmp.trades (dCe c))))))
    let x11_ := (Blk.box [V.d (D.int IntKind.i64 (Cmp.houses c)), V.d (D.sl false (List.length (Cmp.held c)) (enc eI (Cmp.held c))), V.d (D.sl false (List.length (Cmp.trades c)) (enc eT (Cmp.trades c))), V.d (D.sl false (List.length (Cmp.divs c)) (enc eV (Cmp.divs c))), V.d (D.sl false (List.length (Cmp.splits c)) (enc eS (Cmp.splits c))), V.d (D.sl false (List.length (Cmp.closed c)) (enc eR (Cmp.closed c))), V.mp (0)])
    let x12_ := (Blk.box [V.d (D.int IntKind.i64 (f (0 : Nat))), V.d (D.int IntKind.i64 (f (1 : Nat))), V.d (D.int IntKind.i64 (f (2 : Nat))), V.d (D.int IntKind.i64 (f (3 : Nat)))])
    let x13_ := (Blk.box [V.d (D.int IntKind.i64 x3_), V.d (D.int IntKind.i64 x4_), V.d (D.int IntKind.i64 x5_), V.d (D.int IntKind.i64 x6_)])
    let x14_ := (Int.toNat (Int.ofNat (4)) - Int.toNat (0 : Int))
    let x15_ := (List.take (x14_ * (1 : Nat)) (List.drop ((0 : Nat) + Int.toNat (0 : Int) * (1 : Nat)) x7_))
    Tr.br x1_ (Tr.need (Wk c km x2_ = Wk (dCe c) (dK (List.map entE km)) x2_ ∧ Uv (dUe t) = Uv t ∧ faultM (dCe c) = (0 : Int) ∧ List.length (Tru.sold (dUe t)) = List.length (Cmp.trades (dCe c)) ∧ List.length (Tru.deliv (dUe t)) = List.length (Cmp.trades (dCe c)) ∧ kmOk (dCe c) (dK (List.map entE km))) (Tr.need (DP.P (dp True)) (Tr.br (if false = true then !eqDs x7_ x8_ else eqDs x7_ x8_) (Tr.need x9_ (Tr.leaf CExit.normal [(0, V.ptr (1) (0) (0)), (3, V.rptr (Uds t) (0)), (5, V.ptr (2) (0) (0)), (8, V.d (D.int IntKind.i64 (Int.ofNat k + (1 : Int))))] [some x10_, some x11_, some x12_, some x13_])) (Tr.need ((0 : Int) ≤ (0 : Int) ∧ (0 : Int) ≤ Int.ofNat (4) ∧ Int.ofNat (4) ≤ Int.ofNat (4) ∧ (0 : Nat) + (4 : Nat) * (1 : Nat) ≤ List.length x7_) (Tr.need (okL eI (1 : Nat) gI x14_ x15_ ∧ (0 : Nat) < Int.toNat (Int.ofNat (4)) - Int.toNat (0 : Int) ∧ Int.toNat (Int.ofNat (4)) - Int.toNat (0 : Int) ≤ (1000000 : Nat)) (Tr.br (decide (leastL (dec (1 : Nat) gI x14_ x15_) < (0 : Int))) (Tr.leaf CExit.ret [(4, V.d (D.bool false))] [some x10_, some x11_, some x12_, none]) (Tr.need x9_ (Tr.leaf CExit.normal [(0, V.ptr (1) (0) (0)), (3, V.rptr (Uds t) (0)), (5, V.ptr (2) (0) (0)), (8, V.d (D.int IntKind.i64 (Int.ofNat k + (1 : Int))))] [some x10_, some x11_, some x13_, none])))))))) (Tr.leaf (CExit.exit (0)) [(0, V.ptr (1) (0) (0)), (3, V.rptr (Uds t) (0)), (5, V.ptr (2) (0) (0)), (8, V.d (D.int IntKind.i64 (Int.ofNat k))), (9, V.d (D.bool x1_))] [some (Blk.map (List.map entE km)), some x11_, some x12_]) := by kernel_rfl
theorem x93 (u x y v w : V) (h : Heap) : sS X15 (doneK r93) [Fr.blk 0, Fr.seq (CCode.at c93 [1,1,1])] (.exit 0) [(0, x), (3, y), (5, u), (8, v), (9, w)] [] h =
    Tr.done (V.d (D.bool true)) h := by kernel_rfl
theorem t93 (b : Bool) (h : Heap) : sS X15 (doneK r93) [Fr.blk 0, Fr.seq (CCode.at c93 [1,1,1])] .ret [(4, vb b)] [] h =
    Tr.done (V.d (D.bool b)) h := by kernel_rfl
def fitsB (c : Cmp) (t : Tru) : Bool := @decide (∀ j : Nat, j < 12 → ∀ i, i < 4 → 0 ≤ heldF c t j i) (Classical.propDecidable _)
def kmF (c : Cmp) (t : Tru) (km : List (Int × Int × Int)) : Nat → List (Int × Int × Int)
  | 0 => km
  | k + 1 => kmT c t (k : Nat) (kmF c t km k) c.trades.length
theorem kmF_ok {c : Cmp} {km : List (Int × Int × Int)} (h : kmOk c km) (t : Tru) : ∀ k, kmOk c (kmF c t km k)
  | 0 => h
  | k + 1 => kmT_ok (kmF_ok h t k) t _ _
def bef (c : Cmp) (t : Tru) : Nat → Nat → Int
  | 0 => fun _ => 0
  | k + 1 => heldF c t (k : Nat)
theorem least4 (a b c d : Int) : leastL (dec 1 gI (Int.toNat (Int.ofNat 4) - Int.toNat 0) (List.take ((Int.toNat (Int.ofNat 4) - Int.toNat 0) * 1) (List.drop (0 + Int.toNat 0 * 1) [D.int IntKind.i64 a, D.int IntKind.i64 b, D.int IntKind.i64 c, D.int IntKind.i64 d]))) = min2 (min2 (min2 a b) c) d := rfl
theorem okL4 (a b c d : Int) : okL eI 1 gI (Int.toNat (Int.ofNat 4) - Int.toNat 0) (List.take ((Int.toNat (Int.ofNat 4) - Int.toNat 0) * 1) (List.drop (0 + Int.toNat 0 * 1) [D.int IntKind.i64 a, D.int IntKind.i64 b, D.int IntKind.i64 c, D.int IntKind.i64 d])) := ⟨rfl, by decide⟩
theorem min2_le (a b : Int) : min2 a b ≤ a ∧ min2 a b ≤ b := by unfold min2; split <;> omega
theorem lt4 {p : Nat → Prop} (h0 : p 0) (h1 : p 1) (h2 : p 2) (h3 : p 3) : ∀ i, i < 4 → p i := fun i h => by
  match i, h with
  | 0, _ => exact h0
  | 1, _ => exact h1
  | 2, _ => exact h2
  | 3, _ => exact h3
theorem a93 (c : Cmp) (t : Tru) (km : List (Int × Int × Int)) (hf : faultM c = 0) (hs : t.sold.length = c.trades.length) (hd : t.deliv.length = c.trades.length) (hkm : kmOk c km) :
    ACalls Try.prog 93 [.ptr 1 0 0, Uv t] (Wk c km []) fun v h' => v = vb (fitsB c t) ∧ ∃ k J, (fitsB c t = true → k = 12) ∧ h' = Wk c (kmF c t km k) J := by
  refine q93.calls X15_ok (h := Wk c km []) rfl (w93 c t km) ?_
  simp only [holds]
  refine lp_count X15_ok 12 (fun k => ∀ j, j < k → ∀ i, i < 4 → 0 ≤ heldF c t (j : Nat) i) (E93 t) (fun k => Wk c (kmF c t km k) [some (.box (cells4 (bef c t k)))]) rfl rfl (fun j hj => by omega) (fun k _ => ⟨rfl, rfl, Wk_belr _ _ _ 3 (by decide) rfl⟩) ?_
  intro k hk hA Q' hn he hr
  rw [b93]
  simp only [holds, least4, Int.ofNat_eq_natCast, dCe, dC_enc, dUe, dU_enc, dK_map, true_and]
  refine ⟨fun h1 => ?_, fun h1 => ?_⟩
  · have hlt : k < 12 := by have := of_decide_eq_true h1; omega
    refine ⟨⟨hf, hs, hd, kmF_ok hkm t k⟩, fun h2 => ⟨by omega, ?_⟩, fun h2 => ⟨by simp, ⟨okL4 _ _ _ _, by decide, by decide⟩, fun h3 => ?_, fun h3 => ⟨by omega, ?_⟩⟩⟩
    · have h2' : eqDs [D.int IntKind.i64 (heldF c t (k : Nat) 0), D.int IntKind.i64 (heldF c t (k : Nat) 1), D.int IntKind.i64 (heldF c t (k : Nat) 2), D.int IntKind.i64 (heldF c t (k : Nat) 3)] [D.int IntKind.i64 (bef c t k 0), D.int IntKind.i64 (bef c t k 1), D.int IntKind.i64 (bef c t k 2), D.int IntKind.i64 (bef c t k 3)] = true := h2
      simp only [eqDs, eqD, Bool.and_eq_true, beq_iff_eq, true_and, and_true] at h2'
      obtain ⟨e0, e1, e2, e3⟩ := h2'
      have hb : ∀ i, i < 4 → 0 ≤ bef c t k i := by
        cases k with
        | zero => intro i _; exact Int.le_refl _
        | succ k => exact hA k (by omega)
      have hnn : ∀ i, i < 4 → 0 ≤ heldF c t (k : Nat) i := lt4 (p := fun i => 0 ≤ heldF c t (k : Nat) i) (e0 ▸ hb 0 (by decide)) (e1 ▸ hb 1 (by decide)) (e2 ▸ hb 2 (by decide)) (e3 ▸ hb 3 (by decide))
      have hc : cells4 (bef c t k) = cells4 (heldF c t (k : Nat)) := by simp only [cells4, e0, e1, e2, e3]
      have := hn [some (.box (cells4 (heldF c t (k : Nat))))] hlt (step_all hA hnn)
      simp only [kmF, bef] at this
      rw [← hc] at this
      rw [e0, e1, e2, e3]
      exact this
    · refine hr _ _ (ret_tree X15_ok (doneK_ok rfl) (t93 false _) ?_)
      simp only [holds]
      have hfb : fitsB c t = false := by
        simp only [fitsB, decide_eq_false_iff_not]
        intro h
        have hm : min2 (min2 (min2 (heldF c t (k : Nat) 0) (heldF c t (k : Nat) 1)) (heldF c t (k : Nat) 2)) (heldF c t (k : Nat) 3) < 0 := of_decide_eq_true h3
        have g := h k hlt
        have g0 := g 0 (by decide); have g1 := g 1 (by decide); have g2 := g 2 (by decide); have g3 := g 3 (by decide)
        unfold min2 at hm
        split at hm <;> split at hm <;> split at hm <;> omega
      refine ⟨by rw [hfb]; rfl, k + 1, _, fun h => ?_, rfl⟩
      rw [hfb] at h; cases h
    · have hm : ¬ min2 (min2 (min2 (heldF c t (k : Nat) 0) (heldF c t (k : Nat) 1)) (heldF c t (k : Nat) 2)) (heldF c t (k : Nat) 3) < 0 := of_decide_eq_false h3
      have m1 := min2_le (min2 (min2 (heldF c t (k : Nat) 0) (heldF c t (k : Nat) 1)) (heldF c t (k : Nat) 2)) (heldF c t (k : Nat) 3)
      have m2 := min2_le (min2 (heldF c t (k : Nat) 0) (heldF c t (k : Nat) 1)) (heldF c t (k : Nat) 2)
      have m3 := min2_le (heldF c t (k : Nat) 0) (heldF c t (k : Nat) 1)
      exact hn [none] hlt (step_all hA (lt4 (p := fun i => 0 ≤ heldF c t (k : Nat) i) (by omega) (by omega) (by omega) (by omega)))
  · have hge : k = 12 := by have := of_decide_eq_false h1; omega
    subst hge
    refine he _ _ _ (ret_tree X15_ok (doneK_ok rfl) (x93 _ _ _ _ _ _) ?_)
    simp only [holds]
    have hfb : fitsB c t = true := by
      simp only [fitsB, decide_eq_true_eq]
      exact hA
    exact ⟨by rw [hfb]; rfl, 12, _, fun _ => rfl, rfl⟩
theorem dated_len {c : Cmp} {t : Tru} (h : datedB c t = true) : t.sold.length = c.trades.length ∧ t.deliv.length = c.trades.length := by
  have := of_decide_eq_true h
  exact ⟨this.1, this.2.1⟩
def askE (c : Cmp) (t : Tru) : Int := if faultM c ≠ 0 then faultM c else if datedB c t = false then 2 else if fitsB c t = false then 11 else 0
def ent72 : Ent := fun args h => match args, h with
  | [x], [] => match asC x with
    | some c => some (Cv c = x, .ptr 1 0 0, some (Wk c [] []))
    | none => none
  | _, _ => none
theorem ent72_ok : EntOk Try.prog 72 ent72 := by
  intro args h p v h' he hp
  unfold ent72 at he
  split at he
  · split at he
    · cases he; rw [← hp]; exact a72 _
    · cases he
  · cases he
def tab16 : Spec := (spAdd 72 ent72 tab15)
theorem tab16_ok : SpOk Try.prog tab16 := (spAdd_ok ent72_ok tab15_ok)
def X58 : Sx := { sp := tab16, md := fun k => bif Nat.beq k 23 then 1 else 0, sh := shI }
theorem X58_ok : SpOk Try.prog X58.sp := tab16_ok
theorem w58 (c : Cmp) (t : Tru) : sx X58 c58 [] (doneK r58) (envOf [Cv c, Uv t]) [] [] =
    Tr.need (Cv (dCe c) = Cv c ∧ True) (Tr.br (faultM (dCe c) != (0 : Int)) (Tr.done (V.tup [V.d D.nilp, V.d (D.int IntKind.i64 (faultM (dCe c)))]) []) (Tr.need (Cv (dCe c) = Cv c) (Tr.need (Cv (dCe c) = Cv c ∧ Uv (dUe t) = Uv t ∧ List.length (Cmp.trades (dCe c)) ≤ (1000000 : Nat)) (Tr.br (!datedB (dCe c) (dUe t)) (Tr.done (V.tup [V.d D.nilp, V.d (D.int IntKind.i64 (2 : Int))]) [some (Blk.map []), some (Blk.box [V.d (D.int IntKind.i64 (Cmp.houses (dCe c))), V.d (D.sl false (List.length (Cmp.held (dCe c))) (enc eI (Cmp.held (dCe c)))), V.d (D.sl false (List.length (Cmp.trades (dCe c))) (enc eT (Cmp.trades (dCe c)))), V.d (D.sl false (List.length (Cmp.divs (dCe c))) (enc eV (Cmp.divs (dCe c)))), V.d (D.sl false (List.length (Cmp.splits (dCe c))) (enc eS (Cmp.splits (dCe c)))), V.d (D.sl false (List.length (Cmp.closed (dCe c))) (enc eR (Cmp.closed (dCe c)))), V.mp (0)])]) (Tr.clB false (V.d (D.fn (Fn.func (93)))) [V.ptr (1) (0) (0), Uv t] [some (Blk.map []), some (Blk.box [V.d (D.int IntKind.i64 (Cmp.houses (dCe c))), V.d (D.sl false (List.length (Cmp.held (dCe c))) (enc eI (Cmp.held (dCe c)))), V.d (D.sl false (List.length (Cmp.trades (dCe c))) (enc eT (Cmp.trades (dCe c)))), V.d (D.sl false (List.length (Cmp.divs (dCe c))) (enc eV (Cmp.divs (dCe c)))), V.d (D.sl false (List.length (Cmp.splits (dCe c))) (enc eS (Cmp.splits (dCe c)))), V.d (D.sl false (List.length (Cmp.closed (dCe c))) (enc eR (Cmp.closed (dCe c)))), V.mp (0)])] fun b h' => Tr.br (!b) (Tr.done (V.tup [V.d D.nilp, V.d (D.int IntKind.i64 (11 : Int))]) h') (Tr.done (V.tup [V.ptr (1) (0) (0), V.d (D.int IntKind.i64 (0 : Int))]) h')))))) := by kernel_rfl
def Asked (c : Cmp) (t : Tru) (v : V) (h' : Heap) : Prop := (askE c t ≠ 0 ∧ v = .tup [.d .nilp, vi (askE c t)] ∧ h' = []) ∨ (askE c t = 0 ∧ v = .tup [.ptr 1 0 0, vi 0] ∧ h' = Wk c (kmF c t [] 12) [])
theorem a58 (c : Cmp) (t : Tru) : ACalls Try.prog 58 [Cv c, Uv t] [] (Asked c t) := by
  refine ACalls.cutAt (ACalls.mono (R := fun v h' => (askE c t ≠ 0 ∧ v = .tup [.d .nilp, vi (askE c t)]) ∨ (askE c t = 0 ∧ v = .tup [.ptr 1 0 0, vi 0] ∧ ∃ J, h' = Wk c (kmF c t [] 12) J)) ?_ ?_)
  · refine q58.calls X58_ok (h := []) rfl (w58 c t) ?_
    simp only [holds, dCe, dC_enc, dUe, dU_enc, true_and, and_true]
    refine ⟨fun h1 => ?_, fun h1 => ?_⟩
    · have h1 : faultM c ≠ 0 := by simpa using h1
      have e : askE c t = faultM c := by simp [askE, h1]
      rw [e]
      exact .inl ⟨h1, rfl⟩
    · have h1 : faultM c = 0 := by simpa using h1
      have hb := (fault_ok h1).1
      refine ⟨by omega, fun h2 => ?_, fun h2 => ?_⟩
      · have h2 : datedB c t = false := by simpa using h2
        have e : askE c t = 2 := by simp [askE, h1, h2]
        rw [e]
        exact .inl ⟨by decide, rfl⟩
      · have h2 : datedB c t = true := by simpa using h2
        obtain ⟨l1, l2⟩ := dated_len h2
        refine callV_holds ?_ (a93 c t [] h1 l1 l2 (kmOk_nil c))
        rintro v h' ⟨rfl, k, J, hk, rfl⟩
        refine ⟨fitsB c t, rfl, fun e => (by cases e), fun h3 => ?_, fun h3 => ?_⟩
        · have h3 : fitsB c t = false := by simpa using h3
          have e : askE c t = 11 := by simp [askE, h1, h2, h3]
          rw [e]
          exact .inl ⟨by decide, rfl⟩
        · have h3 : fitsB c t = true := by simpa using h3
          have e : askE c t = 0 := by simp [askE, h1, h2, h3]
          rw [hk h3]
          exact .inr ⟨e, rfl, J, rfl⟩
  · rintro v h' (⟨h1, rfl⟩ | ⟨h1, rfl, J, rfl⟩)
    · exact ⟨0, Nat.le_refl _, Nat.zero_le _, rfl, by simp, .inl ⟨h1, rfl, by simp⟩⟩
    · refine ⟨2, by decide, by simp [Wk], rfl, ?_, .inr ⟨h1, rfl, rfl⟩⟩
      exact Wk_bel c _ 2 (by decide)
def alt58 : FuncId → List V → Heap → Option ((V × Heap) × (V × Heap)) := fun f args h => bif Nat.beq f 58 then match args, h with
  | [x, y], [] => match asC x, asU y with
    | some c, some t => some ((.tup [.d .nilp, vi (askE c t)], []), (.tup [.ptr 1 0 0, vi 0], Wk c (kmF c t [] 12) []))
    | _, _ => none
  | _, _ => none else none
def X51 : Sx := { sp := tab16, md := fun k => bif Nat.beq k 10 then 4 else 0, sh := shI, alt := alt58 }
theorem X51_ok : SpOk Try.prog X51.sp := tab16_ok
theorem w51 (c : Cmp) (t : Tru) : sx X51 c51 [] (doneK r51) (envOf [Cv c, Uv t]) [] [] =
    Tr.alt false (58) [Cv c, Uv t] [] (V.tup [V.d D.nilp, V.d (D.int IntKind.i64 (askE (dCe c) (dUe t)))]) [] (V.tup [V.ptr (1) (0) (0), V.d (D.int IntKind.i64 (0 : Int))]) [some (Blk.map (List.map entE (kmF (dCe c) (dUe t) [] (12 : Nat)))), some (Blk.box [V.d (D.int IntKind.i64 (Cmp.houses (dCe c))), V.d (D.sl false (List.length (Cmp.held (dCe c))) (enc eI (Cmp.held (dCe c)))), V.d (D.sl false (List.length (Cmp.trades (dCe c))) (enc eT (Cmp.trades (dCe c)))), V.d (D.sl false (List.length (Cmp.divs (dCe c))) (enc eV (Cmp.divs (dCe c)))), V.d (D.sl false (List.length (Cmp.splits (dCe c))) (enc eS (Cmp.splits (dCe c)))), V.d (D.sl false (List.length (Cmp.closed (dCe c))) (enc eR (Cmp.closed (dCe c)))), V.mp (0)])] (Tr.done (V.d (D.bool (askE (dCe c) (dUe t) == (0 : Int)))) []) (Tr.done (V.d (D.bool ((0 : Int) == (0 : Int)))) [some (Blk.map (List.map entE (kmF (dCe c) (dUe t) [] (12 : Nat)))), some (Blk.box [V.d (D.int IntKind.i64 (Cmp.houses (dCe c))), V.d (D.sl false (List.length (Cmp.held (dCe c))) (enc eI (Cmp.held (dCe c)))), V.d (D.sl false (List.length (Cmp.trades (dCe c))) (enc eT (Cmp.trades (dCe c)))), V.d (D.sl false (List.length (Cmp.divs (dCe c))) (enc eV (Cmp.divs (dCe c)))), V.d (D.sl false (List.length (Cmp.splits (dCe c))) (enc eS (Cmp.splits (dCe c)))), V.d (D.sl false (List.length (Cmp.closed (dCe c))) (enc eR (Cmp.closed (dCe c)))), V.mp (0)])]) := by kernel_rfl
theorem y51 (c : Cmp) (t : Tru) : Yields Try.prog 51 [Cv c, Uv t] (vb (askE c t == 0)) := by
  refine q51.yieldsK X51_ok rfl rfl rfl (w51 c t) ?_
  simp only [holds, dCe, dC_enc, dUe, dU_enc]
  refine (a58 c t).mono ?_
  rintro v h' (⟨h1, rfl, rfl⟩ | ⟨h1, rfl, rfl⟩)
  · exact .inl ⟨rfl, rfl, fun e => (by cases e), .refl _⟩
  · exact .inr ⟨rfl, rfl, fun e => (by cases e), by rw [h1]; exact .refl _⟩
end
end Go.Proofs.Ytdnefcjbcieecaa
