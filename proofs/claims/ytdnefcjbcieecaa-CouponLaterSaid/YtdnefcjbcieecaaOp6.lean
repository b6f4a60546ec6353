/- Copies of companies. -/
import Derived.Test.YtdnefcjbcieecaaOp5
set_option linter.unusedVariables false
set_option linter.unusedSimpArgs false
namespace Go.Proofs.Ytdnefcjbcieecaa
open Go Go.Proofs
noncomputable section
theorem w56 (l : List Int) : sx X10 c56 [] (doneF 0 r56) (envOf [vsl eI l]) [] [] =
    Tr.need ((0 : Nat) = (0 : Nat) ∧ (3 : Nat) = (3 : Nat) ∧ (1 : Nat) = (1 : Nat) ∧ 0 = (0 : Nat) * (1 : Nat) ∧ List.length (enc eI l) = List.length l * (1 : Nat) ∧ (0 : Nat) + List.length l ≤ (140737488355328 : Nat) ∧ ((0 : Nat) + List.length l) * (8 : Nat) ≤ (140737488355328 : Nat)) (Tr.done (V.d (D.sl false ((0 : Nat) + List.length l) ([] ++ enc eI l))) []) := by kernel_rfl

theorem y56 (l : List Int) (hl : l.length ≤ 1000000) : Yields Try.prog 56 [vsl eI l] (vsl eI l) := by
  refine q56.yields X10_ok rfl rfl rfl (w56 l) ?_
  simp only [holds, len_I, List.nil_append, Nat.zero_add]
  exact ⟨⟨trivial, trivial, trivial, by simp, trivial, by omega, by omega⟩, .refl _⟩
def ent56 : Ent := fun args h => match args with
  | [.d (.sl false n cs)] => some (okL eI 1 gI n cs ∧ n ≤ 1000000, .d (.sl false n cs), none)
  | _ => none
theorem ent56_ok : EntOk Try.prog 56 ent56 := by
  intro args h p v h' he hp
  unfold ent56 at he
  split at he
  · cases he; rw [okL_vsl hp.1]; exact y56 _ (by rw [dec_len]; exact hp.2) h
  · cases he
def ent34 := entC (fun _ => True) (fun c => vi (faultM c))
theorem ent34_ok : EntOk Try.prog 34 ent34 := entC_ok fun c _ => y34 c
def tab11 : Spec := (spAdd 34 ent34 (spAdd 56 ent56 tab10))
theorem tab11_ok : SpOk Try.prog tab11 := (spAdd_ok ent34_ok (spAdd_ok ent56_ok tab10_ok))
def X11 : Sx := mkX tab11
theorem X11_ok : SpOk Try.prog X11.sp := tab11_ok
theorem w20 (c : Cmp) : sx X11 c20 [] (doneK r20) (envOf [Cv c]) [] [] =
    let x1_ := (List.length (Cmp.held c))
    let x2_ := (okL eI (1 : Nat) gI x1_ (enc eI (Cmp.held c)) ∧ List.length (Cmp.held c) ≤ (1000000 : Nat))
    let x3_ := (D.int IntKind.i64 (0 : Int))
    let x4_ := [some (Blk.box [V.d x3_, V.d D.nils, V.d D.nils, V.d D.nils, V.d D.nils, V.d D.nils]), some (Blk.box [V.d (D.int IntKind.i64 (Cmp.houses c)), V.d (D.sl false x1_ (enc eI (Cmp.held c))), V.d D.nils, V.d D.nils, V.d D.nils, V.d D.nils])]
    Tr.need x2_ (Tr.need x2_ (Tr.need ([(1, V.rptr (Cds c) (0)), (2, V.ptr (0) (0) (0)), (3, V.ptr (1) (0) (0))] = [(1, V.rptr (Cds c) (0)), (2, V.ptr (0) (0) (0)), (3, V.ptr (1) (0) (0))] ∧ x4_ = x4_) (Tr.lp (CCode.at c20 [(1 : Nat), (1 : Nat), (0 : Nat), (1 : Nat), (0 : Nat), (0 : Nat)]) [Fr.blk (0), Fr.seq (CCode.at c20 [(1 : Nat), (1 : Nat), (1 : Nat)])] [(1, V.rptr (Cds c) (0)), (2, V.ptr (0) (0) (0)), (3, V.ptr (1) (0) (0)), (4, V.d x3_)] x4_))) := by kernel_rfl

def H20 (c : Cmp) (T : List Trd) (U : List Dvd) (S : List Spl) (R : List Rng) : Heap :=
  [some (.box [.d (.int .i64 0), .d .nils, .d .nils, .d .nils, .d .nils, .d .nils]), some (.box [vi c.houses, .d (dsl eI c.held), .own 2 T.length T.length, .own 3 U.length U.length, .own 4 S.length S.length, .own 5 R.length R.length]),
    some (.row 93 7 T.length (enc eT T)), some (.row 95 3 U.length (enc eV U)), some (.row 96 3 S.length (enc eS S)), some (.row 71 2 R.length (enc eR R))]
theorem take_lat {α : Type} [Inhabited α] {l : List α} {k : Nat} (hk : k < l.length) : l.take (k + 1) = l.take k ++ [lat l (k : Nat)] := by
  rw [List.take_add_one, List.getElem?_eq_getElem hk]
  simp [lat, hk]
abbrev Q20 (c : Cmp) : CExit → Env → Heap → Prop := retQ r20 fun v1 h1 => VLe (finX 0 v1 h1).1 (Cv c)
abbrev R20 (c : Cmp) : V → Heap → Prop := fun v1 h1 => VLe (finX 0 v1 h1).1 (Cv c)
theorem b20a (c : Cmp) (k : Nat) (T : List Trd) (U : List Dvd) (S : List Spl) (R : List Rng) : sx X11 (CCode.at c20 [1,1,0,1,0,0]) [] leafK [(1, .rptr (Cds c) 0), (2, .ptr 0 0 0), (3, .ptr 1 0 0), (4, vi k)] [] (H20 c T U S R) =
    let x1_ := (List.length (Cmp.trades c))
    let x2_ := (decide (Int.ofNat k < Int.ofNat x1_))
    let x3_ := (cI (enc eT (Cmp.trades c)) (7 : Nat) (Int.ofNat k) (0 : Nat))
    let x4_ := (cI (enc eT (Cmp.trades c)) (7 : Nat) (Int.ofNat k) (1))
    let x5_ := (cI (enc eT (Cmp.trades c)) (7 : Nat) (Int.ofNat k) (2))
    let x6_ := [D.int IntKind.i64 x3_, D.int IntKind.i64 x4_, D.int IntKind.i64 x5_, D.int IntKind.i64 (Rng.lo { lo := cI (enc eT (Cmp.trades c)) (7 : Nat) (Int.ofNat k) (3), hi := cI (enc eT (Cmp.trades c)) (7 : Nat) (Int.ofNat k) (4) }), D.int IntKind.i64 (Rng.hi { lo := cI (enc eT (Cmp.trades c)) (7 : Nat) (Int.ofNat k) (3), hi := cI (enc eT (Cmp.trades c)) (7 : Nat) (Int.ofNat k) (4) }), D.int IntKind.i64 (Rng.lo { lo := cI (enc eT (Cmp.trades c)) (7 : Nat) (Int.ofNat k) (5), hi := cI (enc eT (Cmp.trades c)) (7 : Nat) (Int.ofNat k) (6) }), D.int IntKind.i64 (Rng.hi { lo := cI (enc eT (Cmp.trades c)) (7 : Nat) (Int.ofNat k) (5), hi := cI (enc eT (Cmp.trades c)) (7 : Nat) (Int.ofNat k) (6) })]
    let x7_ := (List.length T + (1 : Nat))
    let x8_ := (Blk.box [V.d (D.int IntKind.i64 (0 : Int)), V.d D.nils, V.d D.nils, V.d D.nils, V.d D.nils, V.d D.nils])
    let x9_ := (D.int IntKind.i64 (Cmp.houses c))
    let x10_ := (D.sl false (List.length (Cmp.held c)) (enc eI (Cmp.held c)))
    let x11_ := (Nat.add (List.length T) (1 : Nat))
    let x12_ := (Blk.row (95) (3) (List.length U) (enc eV U))
    let x13_ := (Blk.row (96) (3) (List.length S) (enc eS S))
    let x14_ := (Blk.row (71) (2) (List.length R) (enc eR R))
    Tr.br x2_ (Tr.need ((0 : Int) ≤ Int.ofNat k ∧ Int.ofNat k < Int.ofNat x1_ ∧ okEl [0, 0, 0, 0, 0, 0, 0] (enc eT (Cmp.trades c)) (7 : Nat) (Int.ofNat k)) (Tr.need True (Tr.need True (Tr.need (List.length T = List.length T ∧ (93 : Nat) = (93 : Nat) ∧ (7 : Nat) = (7 : Nat) ∧ List.length (enc eT T) = List.length T * (7 : Nat) ∧ List.length x6_ = (1 : Nat) * (7 : Nat) ∧ List.length T + (1 : Nat) ≤ (140737488355328 : Nat) ∧ x7_ * (56 : Nat) ≤ (140737488355328 : Nat)) (Tr.need ((-9223372036854775808 : Int) ≤ Int.ofNat k + (1 : Int) ∧ Int.ofNat k + (1 : Int) ≤ (9223372036854775807 : Int)) (Tr.leaf CExit.normal [(1, V.rptr (Cds c) (0)), (2, V.ptr (0) (0) (0)), (3, V.ptr (1) (0) (0)), (4, V.d (D.int IntKind.i64 (Int.ofNat k + (1 : Int))))] [some x8_, some (Blk.box [V.d x9_, V.d x10_, V.own (2) x11_ x7_, V.own (3) (List.length U) (List.length U), V.own (4) (List.length S) (List.length S), V.own (5) (List.length R) (List.length R)]), some (Blk.row (93) (7) x11_ (enc eT T ++ x6_)), some x12_, some x13_, some x14_, some (Blk.box [V.d (D.int IntKind.i64 x3_), V.d (D.int IntKind.i64 x4_), V.d (D.int IntKind.i64 x5_), V.d (D.int IntKind.i64 (cI (enc eT (Cmp.trades c)) (7 : Nat) (Int.ofNat k) (3))), V.d (D.int IntKind.i64 (cI (enc eT (Cmp.trades c)) (7 : Nat) (Int.ofNat k) (4))), V.d (D.int IntKind.i64 (cI (enc eT (Cmp.trades c)) (7 : Nat) (Int.ofNat k) (5))), V.d (D.int IntKind.i64 (cI (enc eT (Cmp.trades c)) (7 : Nat) (Int.ofNat k) (6)))])])))))) (Tr.leaf (CExit.exit (0)) [(1, V.rptr (Cds c) (0)), (2, V.ptr (0) (0) (0)), (3, V.ptr (1) (0) (0)), (4, V.d (D.int IntKind.i64 (Int.ofNat k))), (21, V.d (D.bool x2_))] [some x8_, some (Blk.box [V.d x9_, V.d x10_, V.own (2) (List.length T) (List.length T), V.own (3) (List.length U) (List.length U), V.own (4) (List.length S) (List.length S), V.own (5) (List.length R) (List.length R)]), some (Blk.row (93) (7) (List.length T) (enc eT T)), some x12_, some x13_, some x14_]) := by kernel_rfl

theorem x20a (c : Cmp) (v w : V) (h : Heap) : sS X11 (doneK r20) [Fr.blk 0, Fr.seq (CCode.at c20 [1,1,1])] (.exit 0) [(1, .rptr (Cds c) 0), (2, .ptr 0 0 0), (3, .ptr 1 0 0), (4, v), (21, w)] [] h =
    Tr.lp (CCode.at c20 [(1 : Nat), (1 : Nat), (1 : Nat), (0 : Nat), (1 : Nat), (0 : Nat), (0 : Nat)]) [Fr.blk (2), Fr.seq (CCode.at c20 [(1 : Nat), (1 : Nat), (1 : Nat), (1 : Nat)])] [(1, V.rptr (Cds c) (0)), (2, V.ptr (0) (0) (0)), (3, V.ptr (1) (0) (0)), (6, V.d (D.int IntKind.i64 (0 : Int)))] h := by kernel_rfl

theorem b20b (c : Cmp) (k : Nat) (T : List Trd) (U : List Dvd) (S : List Spl) (R : List Rng) : sx X11 (CCode.at c20 [1,1,1,0,1,0,0]) [] leafK [(1, .rptr (Cds c) 0), (2, .ptr 0 0 0), (3, .ptr 1 0 0), (6, vi k)] [] (H20 c T U S R) =
    let x1_ := (List.length (Cmp.divs c))
    let x2_ := (decide (Int.ofNat k < Int.ofNat x1_))
    let x3_ := (cI (enc eV (Cmp.divs c)) (3 : Nat) (Int.ofNat k) (0 : Nat))
    let x4_ := (cI (enc eV (Cmp.divs c)) (3 : Nat) (Int.ofNat k) (1))
    let x5_ := (cI (enc eV (Cmp.divs c)) (3 : Nat) (Int.ofNat k) (2))
    let x6_ := [D.int IntKind.i64 x3_, D.int IntKind.i64 x4_, D.int IntKind.i64 x5_]
    let x7_ := (List.length U + (1 : Nat))
    let x8_ := (Blk.box [V.d (D.int IntKind.i64 (0 : Int)), V.d D.nils, V.d D.nils, V.d D.nils, V.d D.nils, V.d D.nils])
    let x9_ := (D.int IntKind.i64 (Cmp.houses c))
    let x10_ := (D.sl false (List.length (Cmp.held c)) (enc eI (Cmp.held c)))
    let x11_ := (Nat.add (List.length U) (1 : Nat))
    let x12_ := (Blk.row (93) (7) (List.length T) (enc eT T))
    let x13_ := (Blk.row (96) (3) (List.length S) (enc eS S))
    let x14_ := (Blk.row (71) (2) (List.length R) (enc eR R))
    Tr.br x2_ (Tr.need ((0 : Int) ≤ Int.ofNat k ∧ Int.ofNat k < Int.ofNat x1_ ∧ okEl [0, 0, 0] (enc eV (Cmp.divs c)) (3 : Nat) (Int.ofNat k)) (Tr.need (List.length U = List.length U ∧ (95 : Nat) = (95 : Nat) ∧ (3 : Nat) = (3 : Nat) ∧ List.length (enc eV U) = List.length U * (3 : Nat) ∧ List.length x6_ = (1 : Nat) * (3 : Nat) ∧ List.length U + (1 : Nat) ≤ (140737488355328 : Nat) ∧ x7_ * (24 : Nat) ≤ (140737488355328 : Nat)) (Tr.need ((-9223372036854775808 : Int) ≤ Int.ofNat k + (1 : Int) ∧ Int.ofNat k + (1 : Int) ≤ (9223372036854775807 : Int)) (Tr.leaf CExit.normal [(1, V.rptr (Cds c) (0)), (2, V.ptr (0) (0) (0)), (3, V.ptr (1) (0) (0)), (6, V.d (D.int IntKind.i64 (Int.ofNat k + (1 : Int))))] [some x8_, some (Blk.box [V.d x9_, V.d x10_, V.own (2) (List.length T) (List.length T), V.own (3) x11_ x7_, V.own (4) (List.length S) (List.length S), V.own (5) (List.length R) (List.length R)]), some x12_, some (Blk.row (95) (3) x11_ (enc eV U ++ x6_)), some x13_, some x14_, some (Blk.box [V.d (D.int IntKind.i64 x3_), V.d (D.int IntKind.i64 x4_), V.d (D.int IntKind.i64 x5_)])])))) (Tr.leaf (CExit.exit (2)) [(1, V.rptr (Cds c) (0)), (2, V.ptr (0) (0) (0)), (3, V.ptr (1) (0) (0)), (6, V.d (D.int IntKind.i64 (Int.ofNat k))), (51, V.d (D.bool x2_))] [some x8_, some (Blk.box [V.d x9_, V.d x10_, V.own (2) (List.length T) (List.length T), V.own (3) (List.length U) (List.length U), V.own (4) (List.length S) (List.length S), V.own (5) (List.length R) (List.length R)]), some x12_, some (Blk.row (95) (3) (List.length U) (enc eV U)), some x13_, some x14_]) := by kernel_rfl

theorem x20b (c : Cmp) (v w : V) (h : Heap) : sS X11 (doneK r20) [Fr.blk 2, Fr.seq (CCode.at c20 [1,1,1,1])] (.exit 2) [(1, .rptr (Cds c) 0), (2, .ptr 0 0 0), (3, .ptr 1 0 0), (6, v), (51, w)] [] h =
    Tr.lp (CCode.at c20 [(1 : Nat), (1 : Nat), (1 : Nat), (1 : Nat), (0 : Nat), (1 : Nat), (0 : Nat), (0 : Nat)]) [Fr.blk (4), Fr.seq (CCode.at c20 [(1 : Nat), (1 : Nat), (1 : Nat), (1 : Nat), (1 : Nat)])] [(1, V.rptr (Cds c) (0)), (2, V.ptr (0) (0) (0)), (3, V.ptr (1) (0) (0)), (8, V.d (D.int IntKind.i64 (0 : Int)))] h := by kernel_rfl

theorem b20c (c : Cmp) (k : Nat) (T : List Trd) (U : List Dvd) (S : List Spl) (R : List Rng) : sx X11 (CCode.at c20 [1,1,1,1,0,1,0,0]) [] leafK [(1, .rptr (Cds c) 0), (2, .ptr 0 0 0), (3, .ptr 1 0 0), (8, vi k)] [] (H20 c T U S R) =
    let x1_ := (List.length (Cmp.splits c))
    let x2_ := (decide (Int.ofNat k < Int.ofNat x1_))
    let x3_ := (cI (enc eS (Cmp.splits c)) (3 : Nat) (Int.ofNat k) (0 : Nat))
    let x4_ := (cI (enc eS (Cmp.splits c)) (3 : Nat) (Int.ofNat k) (1))
    let x5_ := (cI (enc eS (Cmp.splits c)) (3 : Nat) (Int.ofNat k) (2))
    let x6_ := [D.int IntKind.i64 x3_, D.int IntKind.i64 x4_, D.int IntKind.i64 x5_]
    let x7_ := (List.length S + (1 : Nat))
    let x8_ := (Blk.box [V.d (D.int IntKind.i64 (0 : Int)), V.d D.nils, V.d D.nils, V.d D.nils, V.d D.nils, V.d D.nils])
    let x9_ := (D.int IntKind.i64 (Cmp.houses c))
    let x10_ := (D.sl false (List.length (Cmp.held c)) (enc eI (Cmp.held c)))
    let x11_ := (Nat.add (List.length S) (1 : Nat))
    let x12_ := (Blk.row (93) (7) (List.length T) (enc eT T))
    let x13_ := (Blk.row (95) (3) (List.length U) (enc eV U))
    let x14_ := (Blk.row (71) (2) (List.length R) (enc eR R))
    Tr.br x2_ (Tr.need ((0 : Int) ≤ Int.ofNat k ∧ Int.ofNat k < Int.ofNat x1_ ∧ okEl [0, 0, 0] (enc eS (Cmp.splits c)) (3 : Nat) (Int.ofNat k)) (Tr.need (List.length S = List.length S ∧ (96 : Nat) = (96 : Nat) ∧ (3 : Nat) = (3 : Nat) ∧ List.length (enc eS S) = List.length S * (3 : Nat) ∧ List.length x6_ = (1 : Nat) * (3 : Nat) ∧ List.length S + (1 : Nat) ≤ (140737488355328 : Nat) ∧ x7_ * (24 : Nat) ≤ (140737488355328 : Nat)) (Tr.need ((-9223372036854775808 : Int) ≤ Int.ofNat k + (1 : Int) ∧ Int.ofNat k + (1 : Int) ≤ (9223372036854775807 : Int)) (Tr.leaf CExit.normal [(1, V.rptr (Cds c) (0)), (2, V.ptr (0) (0) (0)), (3, V.ptr (1) (0) (0)), (8, V.d (D.int IntKind.i64 (Int.ofNat k + (1 : Int))))] [some x8_, some (Blk.box [V.d x9_, V.d x10_, V.own (2) (List.length T) (List.length T), V.own (3) (List.length U) (List.length U), V.own (4) x11_ x7_, V.own (5) (List.length R) (List.length R)]), some x12_, some x13_, some (Blk.row (96) (3) x11_ (enc eS S ++ x6_)), some x14_, some (Blk.box [V.d (D.int IntKind.i64 x3_), V.d (D.int IntKind.i64 x4_), V.d (D.int IntKind.i64 x5_)])])))) (Tr.leaf (CExit.exit (4)) [(1, V.rptr (Cds c) (0)), (2, V.ptr (0) (0) (0)), (3, V.ptr (1) (0) (0)), (8, V.d (D.int IntKind.i64 (Int.ofNat k))), (75, V.d (D.bool x2_))] [some x8_, some (Blk.box [V.d x9_, V.d x10_, V.own (2) (List.length T) (List.length T), V.own (3) (List.length U) (List.length U), V.own (4) (List.length S) (List.length S), V.own (5) (List.length R) (List.length R)]), some x12_, some x13_, some (Blk.row (96) (3) (List.length S) (enc eS S)), some x14_]) := by kernel_rfl

theorem x20c (c : Cmp) (v w : V) (h : Heap) : sS X11 (doneK r20) [Fr.blk 4, Fr.seq (CCode.at c20 [1,1,1,1,1])] (.exit 4) [(1, .rptr (Cds c) 0), (2, .ptr 0 0 0), (3, .ptr 1 0 0), (8, v), (75, w)] [] h =
    Tr.lp (CCode.at c20 [(1 : Nat), (1 : Nat), (1 : Nat), (1 : Nat), (1 : Nat), (0 : Nat), (1 : Nat), (0 : Nat), (0 : Nat)]) [Fr.blk (6), Fr.seq (CCode.at c20 [(1 : Nat), (1 : Nat), (1 : Nat), (1 : Nat), (1 : Nat), (1 : Nat)])] [(1, V.rptr (Cds c) (0)), (2, V.ptr (0) (0) (0)), (3, V.ptr (1) (0) (0)), (10, V.d (D.int IntKind.i64 (0 : Int)))] h := by kernel_rfl

theorem b20d (c : Cmp) (k : Nat) (T : List Trd) (U : List Dvd) (S : List Spl) (R : List Rng) : sx X11 (CCode.at c20 [1,1,1,1,1,0,1,0,0]) [] leafK [(1, .rptr (Cds c) 0), (2, .ptr 0 0 0), (3, .ptr 1 0 0), (10, vi k)] [] (H20 c T U S R) =
    let x1_ := (List.length (Cmp.closed c))
    let x2_ := (decide (Int.ofNat k < Int.ofNat x1_))
    let x3_ := [D.int IntKind.i64 (Rng.lo { lo := cI (enc eR (Cmp.closed c)) (2 : Nat) (Int.ofNat k) (0 : Nat), hi := cI (enc eR (Cmp.closed c)) (2 : Nat) (Int.ofNat k) (1) }), D.int IntKind.i64 (Rng.hi { lo := cI (enc eR (Cmp.closed c)) (2 : Nat) (Int.ofNat k) (0 : Nat), hi := cI (enc eR (Cmp.closed c)) (2 : Nat) (Int.ofNat k) (1) })]
    let x4_ := (List.length R + (1 : Nat))
    let x5_ := (Blk.box [V.d (D.int IntKind.i64 (0 : Int)), V.d D.nils, V.d D.nils, V.d D.nils, V.d D.nils, V.d D.nils])
    let x6_ := (D.int IntKind.i64 (Cmp.houses c))
    let x7_ := (D.sl false (List.length (Cmp.held c)) (enc eI (Cmp.held c)))
    let x8_ := (Nat.add (List.length R) (1 : Nat))
    let x9_ := (Blk.row (93) (7) (List.length T) (enc eT T))
    let x10_ := (Blk.row (95) (3) (List.length U) (enc eV U))
    let x11_ := (Blk.row (96) (3) (List.length S) (enc eS S))
    Tr.br x2_ (Tr.need ((0 : Int) ≤ Int.ofNat k ∧ Int.ofNat k < Int.ofNat x1_ ∧ okEl [0, 0] (enc eR (Cmp.closed c)) (2 : Nat) (Int.ofNat k)) (Tr.need True (Tr.need (List.length R = List.length R ∧ (71 : Nat) = (71 : Nat) ∧ (2 : Nat) = (2 : Nat) ∧ List.length (enc eR R) = List.length R * (2 : Nat) ∧ List.length x3_ = (1 : Nat) * (2 : Nat) ∧ List.length R + (1 : Nat) ≤ (140737488355328 : Nat) ∧ x4_ * (16 : Nat) ≤ (140737488355328 : Nat)) (Tr.need ((-9223372036854775808 : Int) ≤ Int.ofNat k + (1 : Int) ∧ Int.ofNat k + (1 : Int) ≤ (9223372036854775807 : Int)) (Tr.leaf CExit.normal [(1, V.rptr (Cds c) (0)), (2, V.ptr (0) (0) (0)), (3, V.ptr (1) (0) (0)), (10, V.d (D.int IntKind.i64 (Int.ofNat k + (1 : Int))))] [some x5_, some (Blk.box [V.d x6_, V.d x7_, V.own (2) (List.length T) (List.length T), V.own (3) (List.length U) (List.length U), V.own (4) (List.length S) (List.length S), V.own (5) x8_ x4_]), some x9_, some x10_, some x11_, some (Blk.row (71) (2) x8_ (enc eR R ++ x3_))]))))) (Tr.leaf (CExit.exit (6)) [(1, V.rptr (Cds c) (0)), (2, V.ptr (0) (0) (0)), (3, V.ptr (1) (0) (0)), (10, V.d (D.int IntKind.i64 (Int.ofNat k))), (99, V.d (D.bool x2_))] [some x5_, some (Blk.box [V.d x6_, V.d x7_, V.own (2) (List.length T) (List.length T), V.own (3) (List.length U) (List.length U), V.own (4) (List.length S) (List.length S), V.own (5) (List.length R) (List.length R)]), some x9_, some x10_, some x11_, some (Blk.row (71) (2) (List.length R) (enc eR R))]) := by kernel_rfl

theorem x20d (c : Cmp) (v w : V) (T : List Trd) (U : List Dvd) (S : List Spl) (R : List Rng) : sS X11 (doneK r20) [Fr.blk 6, Fr.seq (CCode.at c20 [1,1,1,1,1,1])] (.exit 6) [(1, .rptr (Cds c) 0), (2, .ptr 0 0 0), (3, .ptr 1 0 0), (10, v), (99, w)] [] (H20 c T U S R) =
    Tr.done (V.agg [V.d (D.int IntKind.i64 (Cmp.houses c)), V.d (D.sl false (List.length (Cmp.held c)) (enc eI (Cmp.held c))), V.own (2) (List.length T) (List.length T), V.own (3) (List.length U) (List.length U), V.own (4) (List.length S) (List.length S), V.own (5) (List.length R) (List.length R)]) [some (Blk.box [V.d (D.int IntKind.i64 (Cmp.houses c)), V.d (D.sl false (List.length (Cmp.held c)) (enc eI (Cmp.held c))), V.own (2) (List.length T) (List.length T), V.own (3) (List.length U) (List.length U), V.own (4) (List.length S) (List.length S), V.own (5) (List.length R) (List.length R)]), some (Blk.box [V.d (D.int IntKind.i64 (Cmp.houses c)), V.d (D.sl false (List.length (Cmp.held c)) (enc eI (Cmp.held c))), V.own (2) (List.length T) (List.length T), V.own (3) (List.length U) (List.length U), V.own (4) (List.length S) (List.length S), V.own (5) (List.length R) (List.length R)]), some (Blk.row (93) (7) (List.length T) (enc eT T)), some (Blk.row (95) (3) (List.length U) (enc eV U)), some (Blk.row (96) (3) (List.length S) (enc eS S)), some (Blk.row (71) (2) (List.length R) (enc eR R))] := by kernel_rfl

theorem l20d (c : Cmp) (hl : c.closed.length ≤ 1000000) : lpS Try.prog G20 0 (CCode.at c20 [1,1,1,1,1,0,1,0,0]) [Fr.blk 6, Fr.seq (CCode.at c20 [1,1,1,1,1,1])] (Q20 c) [(1, .rptr (Cds c) 0), (2, .ptr 0 0 0), (3, .ptr 1 0 0), (10, vi 0)] (H20 c c.trades c.divs c.splits []) := by
  refine lp_count X11_ok c.closed.length (fun _ => True) (fun k => [(1, .rptr (Cds c) 0), (2, .ptr 0 0 0), (3, .ptr 1 0 0), (10, vi k)]) (fun k => H20 c c.trades c.divs c.splits (c.closed.take k)) rfl rfl trivial (fun k _ => ⟨rfl, rfl, rfl⟩) ?_
  intro k hk _ Q' hn he hr
  rw [b20d]
  simp only [holds, Int.ofNat_eq_natCast, cI_R0, cI_R1, len_T, len_V, len_S, len_R, true_and, List.length_take, List.length_cons, List.length_nil]
  refine ⟨fun h1 => ?_, fun h1 => ?_⟩
  · have hlt : k < c.closed.length := by have := of_decide_eq_true h1; omega
    have hm : min k c.closed.length = k := by omega
    repeat' (first | (refine And.intro ?_ ?_) | (refine fun (_ : _ = _) => ?_))
    all_goals first
      | omega
      | rfl
      | exact ok_R (by simpa using hlt)
      | (have hj := fun J => hn J hlt trivial
         simp only [take_lat hlt, H20, enc_append, enc_one, List.length_append, List.length_cons, List.length_nil, List.length_take] at hj
         exact hj _)
  · have hge : k = c.closed.length := by have := of_decide_eq_false h1; omega
    subst hge
    simp only [Nat.min_self, List.take_length]
    refine he _ _ _ (ret_tree (R := R20 c) X11_ok (doneK_ok rfl) (x20d c _ _ c.trades c.divs c.splits c.closed) ?_)
    simp only [holds]
    simp [R20, finX, rowsIn, rowsIn1, rowIn, frzRows, frzB, blkDs, fzV, fz2, fz1, bel2, bel1, bel0]; exact .refl _
theorem l20c (c : Cmp) (hl : c.splits.length ≤ 1000000) (hx : lpS Try.prog G20 0 (CCode.at c20 [1,1,1,1,1,0,1,0,0]) [Fr.blk 6, Fr.seq (CCode.at c20 [1,1,1,1,1,1])] (Q20 c) [(1, .rptr (Cds c) 0), (2, .ptr 0 0 0), (3, .ptr 1 0 0), (10, vi 0)] (H20 c c.trades c.divs c.splits [])) : lpS Try.prog G20 0 (CCode.at c20 [1,1,1,1,0,1,0,0]) [Fr.blk 4, Fr.seq (CCode.at c20 [1,1,1,1,1])] (Q20 c) [(1, .rptr (Cds c) 0), (2, .ptr 0 0 0), (3, .ptr 1 0 0), (8, vi 0)] (H20 c c.trades c.divs [] []) := by
  refine lp_count X11_ok c.splits.length (fun _ => True) (fun k => [(1, .rptr (Cds c) 0), (2, .ptr 0 0 0), (3, .ptr 1 0 0), (8, vi k)]) (fun k => H20 c c.trades c.divs (c.splits.take k) []) rfl rfl trivial (fun k _ => ⟨rfl, rfl, rfl⟩) ?_
  intro k hk _ Q' hn he hr
  rw [b20c]
  simp only [holds, Int.ofNat_eq_natCast, cI_S0, cI_S1, cI_S2, len_T, len_V, len_S, len_R, true_and, List.length_take, List.length_cons, List.length_nil]
  refine ⟨fun h1 => ?_, fun h1 => ?_⟩
  · have hlt : k < c.splits.length := by have := of_decide_eq_true h1; omega
    have hm : min k c.splits.length = k := by omega
    repeat' (first | (refine And.intro ?_ ?_) | (refine fun (_ : _ = _) => ?_))
    all_goals first
      | omega
      | rfl
      | exact ok_S (by simpa using hlt)
      | (have hj := fun J => hn J hlt trivial
         simp only [take_lat hlt, H20, enc_append, enc_one, List.length_append, List.length_cons, List.length_nil, List.length_take] at hj
         exact hj _)
  · have hge : k = c.splits.length := by have := of_decide_eq_false h1; omega
    subst hge
    simp only [Nat.min_self, List.take_length]
    refine he _ _ _ (ret_tree (R := R20 c) X11_ok (doneK_ok rfl) (x20c _ _ _ _) ?_)
    simp only [holds]
    exact hx
theorem l20b (c : Cmp) (hl : c.divs.length ≤ 1000000) (hx : lpS Try.prog G20 0 (CCode.at c20 [1,1,1,1,0,1,0,0]) [Fr.blk 4, Fr.seq (CCode.at c20 [1,1,1,1,1])] (Q20 c) [(1, .rptr (Cds c) 0), (2, .ptr 0 0 0), (3, .ptr 1 0 0), (8, vi 0)] (H20 c c.trades c.divs [] [])) : lpS Try.prog G20 0 (CCode.at c20 [1,1,1,0,1,0,0]) [Fr.blk 2, Fr.seq (CCode.at c20 [1,1,1,1])] (Q20 c) [(1, .rptr (Cds c) 0), (2, .ptr 0 0 0), (3, .ptr 1 0 0), (6, vi 0)] (H20 c c.trades [] [] []) := by
  refine lp_count X11_ok c.divs.length (fun _ => True) (fun k => [(1, .rptr (Cds c) 0), (2, .ptr 0 0 0), (3, .ptr 1 0 0), (6, vi k)]) (fun k => H20 c c.trades (c.divs.take k) [] []) rfl rfl trivial (fun k _ => ⟨rfl, rfl, rfl⟩) ?_
  intro k hk _ Q' hn he hr
  rw [b20b]
  simp only [holds, Int.ofNat_eq_natCast, cI_V0, cI_V1, cI_V2, len_T, len_V, len_S, len_R, true_and, List.length_take, List.length_cons, List.length_nil]
  refine ⟨fun h1 => ?_, fun h1 => ?_⟩
  · have hlt : k < c.divs.length := by have := of_decide_eq_true h1; omega
    have hm : min k c.divs.length = k := by omega
    repeat' (first | (refine And.intro ?_ ?_) | (refine fun (_ : _ = _) => ?_))
    all_goals first
      | omega
      | rfl
      | exact ok_V (by simpa using hlt)
      | (have hj := fun J => hn J hlt trivial
         simp only [take_lat hlt, H20, enc_append, enc_one, List.length_append, List.length_cons, List.length_nil, List.length_take] at hj
         exact hj _)
  · have hge : k = c.divs.length := by have := of_decide_eq_false h1; omega
    subst hge
    simp only [Nat.min_self, List.take_length]
    refine he _ _ _ (ret_tree (R := R20 c) X11_ok (doneK_ok rfl) (x20b _ _ _ _) ?_)
    simp only [holds]
    exact hx
theorem l20a (c : Cmp) (hl : c.trades.length ≤ 1000000) (hx : lpS Try.prog G20 0 (CCode.at c20 [1,1,1,0,1,0,0]) [Fr.blk 2, Fr.seq (CCode.at c20 [1,1,1,1])] (Q20 c) [(1, .rptr (Cds c) 0), (2, .ptr 0 0 0), (3, .ptr 1 0 0), (6, vi 0)] (H20 c c.trades [] [] [])) : lpS Try.prog G20 0 (CCode.at c20 [1,1,0,1,0,0]) [Fr.blk 0, Fr.seq (CCode.at c20 [1,1,1])] (Q20 c) [(1, .rptr (Cds c) 0), (2, .ptr 0 0 0), (3, .ptr 1 0 0), (4, vi 0)] (H20 c [] [] [] []) := by
  refine lp_count X11_ok c.trades.length (fun _ => True) (fun k => [(1, .rptr (Cds c) 0), (2, .ptr 0 0 0), (3, .ptr 1 0 0), (4, vi k)]) (fun k => H20 c (c.trades.take k) [] [] []) rfl rfl trivial (fun k _ => ⟨rfl, rfl, rfl⟩) ?_
  intro k hk _ Q' hn he hr
  rw [b20a]
  simp only [holds, Int.ofNat_eq_natCast, cI_T0, cI_T1, cI_T2, cI_T3, cI_T4, cI_T5, cI_T6, len_T, len_V, len_S, len_R, true_and, List.length_take, List.length_cons, List.length_nil]
  refine ⟨fun h1 => ?_, fun h1 => ?_⟩
  · have hlt : k < c.trades.length := by have := of_decide_eq_true h1; omega
    have hm : min k c.trades.length = k := by omega
    repeat' (first | (refine And.intro ?_ ?_) | (refine fun (_ : _ = _) => ?_))
    all_goals first
      | omega
      | rfl
      | exact ok_T (by simpa using hlt)
      | (have hj := fun J => hn J hlt trivial
         simp only [take_lat hlt, H20, enc_append, enc_one, List.length_append, List.length_cons, List.length_nil, List.length_take] at hj
         exact hj _)
  · have hge : k = c.trades.length := by have := of_decide_eq_false h1; omega
    subst hge
    simp only [Nat.min_self, List.take_length]
    refine he _ _ _ (ret_tree (R := R20 c) X11_ok (doneK_ok rfl) (x20a _ _ _ _) ?_)
    simp only [holds]
    exact hx
theorem y20 (c : Cmp) (h1 : c.held.length ≤ 1000000) (h2 : c.trades.length ≤ 1000000) (h3 : c.divs.length ≤ 1000000) (h4 : c.splits.length ≤ 1000000) (h5 : c.closed.length ≤ 1000000) : Yields Try.prog 20 [Cv c] (Cv c) := by
  refine q20.yieldsX X11_ok rfl rfl rfl (w20 c) ?_
  have key : lpS Try.prog G20 0 (CCode.at c20 [1,1,0,1,0,0]) [Fr.blk 0, Fr.seq (CCode.at c20 [1,1,1])] (Q20 c) [(1, .rptr (Cds c) 0), (2, .ptr 0 0 0), (3, .ptr 1 0 0), (4, vi 0)]
      [some (.box [.d (.int .i64 0), .d .nils, .d .nils, .d .nils, .d .nils, .d .nils]), some (.box [vi c.houses, .d (dsl eI c.held), .d .nils, .d .nils, .d .nils, .d .nils])] := by
    refine LoopP.state (StLe.ghostBox (id := 1) (off := 2) 93 7 rfl rfl) ?_
    refine LoopP.state (StLe.ghostBox (id := 1) (off := 3) 95 3 rfl rfl) ?_
    refine LoopP.state (StLe.ghostBox (id := 1) (off := 4) 96 3 rfl rfl) ?_
    refine LoopP.state (StLe.ghostBox (id := 1) (off := 5) 71 2 rfl rfl) ?_
    exact l20a c h2 (l20b c h3 (l20c c h4 (l20d c h5)))
  simp only [holds, okL_I]
  exact ⟨⟨by omega, h1⟩, ⟨by omega, h1⟩, by simp, key⟩
end
end Go.Proofs.Ytdnefcjbcieecaa
