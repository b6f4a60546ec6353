/- A part of the proof. -/
import Derived.Test.YtdnefcjbcieecaaPart8
import Derived.Test.YtdnefcjbcieecaaProg
import Derived.KernelRfl
import Derived.ProofKit
import Derived.OpenShut
import Derived.ReadAgain
import Derived.ChangeBook
import Derived.ChangeOld
import Derived.ChangeArms
import Derived.Deep.Slices
set_option linter.unusedVariables false
set_option linter.unusedSimpArgs false
namespace Go.Proofs.Ytdnefcjbcieecaa
open Go Go.Proofs
noncomputable section
theorem q68 : FunIs Try.prog 68 G68 c68 r68 := ⟨Try.f68, Try.func68, k68, e68, by kernel_rfl, by kernel_rfl⟩
theorem q28 : FunIs Try.prog 28 G28 c28 r28 := ⟨Try.f28, Try.func28, k28, e28, by kernel_rfl, by kernel_rfl⟩
theorem q29 : FunIs Try.prog 29 G29 c29 r29 := ⟨Try.f29, Try.func29, k29, e29, by kernel_rfl, by kernel_rfl⟩
theorem q30 : FunIs Try.prog 30 G30 c30 r30 := ⟨Try.f30, Try.func30, k30, e30, by kernel_rfl, by kernel_rfl⟩
theorem q31 : FunIs Try.prog 31 G31 c31 r31 := ⟨Try.f31, Try.func31, k31, e31, by kernel_rfl, by kernel_rfl⟩
def E68 (a b : List Int) (k : Nat) : Env := [(0, vsl eI a), (1, vsl eI b), (5, vi k)]
theorem w68 (a b : List Int) : sx X18 c68 [] (doneK r68) (envOf [vsl eI a, vsl eI b]) [] [] =
  Tr.lp (CCode.at c68 [1, 0, 1, 0, 0]) [Fr.blk 0, Fr.seq (CCode.at c68 [1, 1])] [(0, V.d (D.sl false (List.length a) (enc eI a))), (1, V.d (D.sl false (List.length b) (enc eI b))), (5, V.d (D.int .i64 0))] [] := by kernel_rfl
theorem b68 (a b : List Int) (k : Nat) : sx X18 (CCode.at c68 [1,0,1,0,0]) [] (bodyK r68) (E68 a b k) [] [] =
  let x1_ := (decide (Int.ofNat k < Int.ofNat (List.length b)))
  let x2_ := ((0 : Int) ≤ Int.ofNat k ∧ Int.ofNat k < Int.ofNat (List.length a) ∧ okEl [0] (enc eI a) 1 (Int.ofNat k))
  let x3_ := ((0 : Int) ≤ Int.ofNat k ∧ Int.ofNat k < Int.ofNat (List.length b) ∧ okEl [0] (enc eI b) 1 (Int.ofNat k))
  let y0_ := (0, V.d (D.sl false (List.length a) (enc eI a)))
  let y1_ := (1, V.d (D.sl false (List.length b) (enc eI b)))
  let y2_ := (5, V.d (D.int .i64 (Int.ofNat k)))
  Tr.br (decide (Int.ofNat k < Int.ofNat (List.length a))) (Tr.br x1_ (Tr.need x2_ (Tr.need x3_ (Tr.br (cI (enc eI a) 1 (Int.ofNat k) 0 != cI (enc eI b) 1 (Int.ofNat k) 0) (Tr.need x2_ (Tr.need x3_ (Tr.done (V.d (D.bool (decide (cI (enc eI a) 1 (Int.ofNat k) 0 < cI (enc eI b) 1 (Int.ofNat k) 0)))) []))) (Tr.need (-9223372036854775808 ≤ Int.ofNat k + (1 : Int) ∧ Int.ofNat k + (1 : Int) ≤ 9223372036854775807) (Tr.leaf CExit.normal [y0_, y1_, (5, V.d (D.int .i64 (Int.ofNat k + (1 : Int))))] []))))) (Tr.leaf (CExit.exit 0) [y0_, y1_, y2_, (15, V.d (D.bool x1_))] [])) (Tr.leaf (CExit.exit 0) [y0_, y1_, y2_, (15, V.d (D.bool false))] []) := by kernel_rfl
theorem x68 (a b : List Int) (u v : V) : sS X18 (doneK r68) [Fr.blk 0, Fr.seq (CCode.at c68 [1,1])] (.exit 0) [(0, vsl eI a), (1, vsl eI b), (5, u), (15, v)] [] [] =
  Tr.done (V.d (D.bool (decide (Int.ofNat (List.length a) < Int.ofNat (List.length b))))) [] := by kernel_rfl
def ent24o : Ent := fun args h => match args, h with
 | [x, y, .d (.int .i64 n)], [] => match asC x, asU y with
  | some c, some t => some (Cv c = x ∧ Uv t = y ∧ faultM c = 0 ∧ datedB c t = true ∧ n ≤ 1000, .own 0 (refH c t n).length (refH c t n).length, some (H24 (refH c t n)))
  | _, _ => none
 | _, _ => none
theorem ent24o_ok : EntOk Try.prog 24 ent24o := by
 intro args h p v h' he hp
 unfold ent24o at he
 split at he
 ·split at he
  ·cases he
   obtain ⟨rfl, rfl, h2, h3, h4⟩ := hp
   exact a24 _ _ _ h2 h3 h4
  ·cases he
 ·cases he
def tab24o : Spec := spAdd 24 ent24o tab18
theorem tab24o_ok : SpOk Try.prog tab24o := spAdd_ok ent24o_ok tab18_ok
def X29 : Sx := mkX tab24o
theorem X29_ok : SpOk Try.prog X29.sp := tab24o_ok
theorem w29 (c : Cmp) (t : Tru) (d : Dvd) : sx X29 c29 [] (doneK r29) (envOf [Cv c, Uv t, Dv d]) [] [] =
  let y0_ := (refH (dCe c) (dUe t) (Dvd.record d))
  Tr.need (Cv (dCe c) = Cv c ∧ Uv (dUe t) = Uv t ∧ faultM (dCe c) = (0 : Int) ∧ datedB (dCe c) (dUe t) = true ∧ Dvd.record d ≤ (1000 : Int)) (Tr.lp (CCode.at c29 [1, 1, 0, 1, 0, 0]) [Fr.blk 0, Fr.seq (CCode.at c29 [1, 1, 1])] [(5, V.rptr [D.int .i64 (Dvd.ex d), D.int .i64 (Dvd.record d), D.int .i64 (Dvd.pence d)] (0)), (7, V.own 0 (List.length y0_) (List.length y0_)), (8, V.d (D.int .i64 0))] [some (Blk.row 3 1 (List.length y0_) (enc eI y0_))]) := by kernel_rfl
def E29 (d : Dvd) (n k : Nat) : Env := [(5, .rptr (Dds d) 0), (7, .own 0 n n), (8, vi k)]
theorem b29 (d : Dvd) (n k : Nat) (l : List Int) : sx X29 (CCode.at c29 [1,1,0,1,0,0]) [] leafK (E29 d n k) [] [some (.row 3 1 n (enc eI l))] =
  let x1_ := (decide (Int.ofNat k < Int.ofNat n))
  let x2_ := (((0 : Int) ≤ Int.ofNat k ∧ Int.ofNat k < Int.ofNat n) ∧ n = n ∧ Int.toNat (Int.ofNat k) * 1 + 1 ≤ List.length (enc eI l))
  let x3_ := (Int.toNat (Int.ofNat k) * 1)
  let x4_ := (Dvd.pence d * dI (enc eI l) x3_)
  let x5_ := [V.d (D.int .i64 x4_)]
  let y0_ := (5, V.rptr [D.int .i64 (Dvd.ex d), D.int .i64 (Dvd.record d), D.int .i64 (Dvd.pence d)] (0))
  Tr.br x1_ (Tr.need x2_ (Tr.need (n = n ∧ (enc eI l)[Int.toNat (Int.ofNat k) * 1]? = some (D.int .i64 (dI (enc eI l) x3_))) (Tr.need (-9223372036854775808 ≤ Dvd.pence d * dI (enc eI l) x3_ ∧ Dvd.pence d * dI (enc eI l) x3_ ≤ 9223372036854775807) (Tr.need x2_ (Tr.need (n = n ∧ Int.toNat (Int.ofNat k) * 1 + List.length x5_ ≤ List.length (enc eI l) ∧ List.length x5_ = 1) (Tr.need (-9223372036854775808 ≤ Int.ofNat k + (1 : Int) ∧ Int.ofNat k + (1 : Int) ≤ 9223372036854775807) (Tr.leaf CExit.normal [y0_, (7, V.own 0 n n), (8, V.d (D.int .i64 (Int.ofNat k + (1 : Int))))] [some (Blk.row 3 1 n (putAt (enc eI l) x3_ [D.int .i64 x4_]))]))))))) (Tr.leaf (CExit.exit 0) [y0_, (7, V.own 0 n n), (8, V.d (D.int .i64 (Int.ofNat k))), (17, V.d (D.bool x1_))] [some (Blk.row 3 1 n (enc eI l))]) := by kernel_rfl
theorem x29 (u v w : V) (n : Nat) (h : Heap) : sS X29 (doneK r29) [Fr.blk 0, Fr.seq (CCode.at c29 [1,1,1])] (.exit 0) [(5, u), (7, .own 0 n n), (8, v), (17, w)] [] h =
  Tr.done (V.own 0 n n) h := by kernel_rfl
def E30 (c : Cmp) (t : Tru) (d : Dvd) (a : List Int) (k : Nat) : Env := [(3, .rptr (Cds c) 0), (4, .rptr (Uds t) 0), (5, .rptr (Dds d) 0), (7, .own 0 a.length a.length), (8, vi k)]
theorem w30 (c : Cmp) (t : Tru) (d : Dvd) : sx X18 c30 [] (doneK r30) (envOf [Cv c, Uv t, Dv d]) [] [] =
  Tr.lp (CCode.at c30 [1, 1, 0, 1, 0, 0]) [Fr.blk 0, Fr.seq (CCode.at c30 [1, 1, 1])] [(3, V.rptr (Cds c) 0), (4, V.rptr (Uds t) 0), (5, V.rptr [D.int .i64 (Dvd.ex d), D.int .i64 (Dvd.record d), D.int .i64 (Dvd.pence d)] (0)), (7, V.d D.nils), (8, V.d (D.int .i64 0))] [] := by kernel_rfl
theorem b30 (c : Cmp) (t : Tru) (d : Dvd) (a : List Int) (k : Nat) : sx X18 (CCode.at c30 [1,1,0,1,0,0]) [] leafK (E30 c t d a k) [] (H24 a) =
  let x1_ := (List.length (Cmp.trades c))
  let x2_ := (decide (Int.ofNat k < Int.ofNat x1_))
  let y6_ := (enc eI (Tru.sold t))
  let x3_ := ((0 : Int) ≤ Int.ofNat k ∧ Int.ofNat k < Int.ofNat (List.length (Tru.sold t)) ∧ okEl [0] y6_ 1 (Int.ofNat k))
  let y8_ := (enc eI (Tru.deliv t))
  let x4_ := (regR (Cmp.closed (dCe c)) (cI y8_ 1 (Int.ofNat k) 0))
  let y7_ := (enc eT (Cmp.trades c))
  let x5_ := ((0 : Int) ≤ Int.ofNat k ∧ Int.ofNat k < Int.ofNat x1_ ∧ okEl [0, 0, 0, 0, 0, 0, 0] y7_ 7 (Int.ofNat k))
  let y10_ := (Cmp.splits (dCe c))
  let x6_ := (Cv (dCe c) = Cv c ∧ okSs (-1 : Int) y10_ = true ∧ List.length y10_ ≤ 2 ∧ (0 : Int) ≤ cI y7_ 7 (Int.ofNat k) 2 ∧ cI y7_ 7 (Int.ofNat k) 2 ≤ (100 : Int) ∧ (-1000 : Int) ≤ cI y6_ 1 (Int.ofNat k) 0 ∧ cI y6_ 1 (Int.ofNat k) 0 ≤ (1000 : Int) ∧ Dvd.record d ≤ (1000 : Int))
  let x7_ := (cI y7_ 7 (Int.ofNat k) 2 * facM y10_ (cI y6_ 1 (Int.ofNat k) 0) (Dvd.record d))
  let x8_ := (decide (Dvd.ex d ≤ cI y6_ 1 (Int.ofNat k) 0))
  let x9_ := (inR x4_ (0 : Int) (Dvd.record d))
  let x10_ := ((0 : Int) - Dvd.pence d)
  let x11_ := [D.int .i64 (x10_ * x7_)]
  let x12_ := (List.length a + 1)
  let x13_ := (-9223372036854775808 ≤ Int.ofNat k + (1 : Int) ∧ Int.ofNat k + (1 : Int) ≤ 9223372036854775807)
  let y9_ := (List.length a)
  let x14_ := (Nat.add y9_ 1)
  let x15_ := [D.int .i64 (Dvd.pence d * x7_)]
  let x16_ := [D.int .i64 0]
  let y5_ := (5, V.rptr [D.int .i64 (Dvd.ex d), D.int .i64 (Dvd.record d), D.int .i64 (Dvd.pence d)] (0))
  let y1_ := [(3, V.rptr (Cds c) 0), (4, V.rptr (Uds t) 0), y5_, (7, V.own 0 x14_ x12_), (8, V.d (D.int .i64 (Int.ofNat k + (1 : Int))))]
  let y2_ := (Tr.need (DP.P (dp (-9223372036854775808 ≤ (0 : Int) - Dvd.pence d ∧ (0 : Int) - Dvd.pence d ≤ 9223372036854775807))) (Tr.need x5_ (Tr.need x3_ (Tr.need x6_ (Tr.need (-9223372036854775808 ≤ x10_ * x7_ ∧ x10_ * x7_ ≤ 9223372036854775807) (Tr.need (List.length a = List.length a ∧ 3 = 3 ∧ 1 = 1 ∧ List.length (enc eI a) = List.length a * 1 ∧ List.length x11_ = 1 * 1 ∧ List.length a + 1 ≤ 140737488355328 ∧ x12_ * 8 ≤ 140737488355328) (Tr.need x13_ (Tr.leaf CExit.normal y1_ [some (Blk.row 3 1 x14_ (enc eI a ++ x11_))]))))))))
  let y3_ := (Tr.need (List.length a = List.length a ∧ 3 = 3 ∧ 1 = 1 ∧ List.length (enc eI a) = List.length a * 1 ∧ List.length x16_ = 1 * 1 ∧ List.length a + 1 ≤ 140737488355328 ∧ x12_ * 8 ≤ 140737488355328) (Tr.need x13_ (Tr.leaf CExit.normal y1_ [some (Blk.row 3 1 x14_ (enc eI a ++ x16_))])))
  let y0_ := (Tr.need x3_ (Tr.br x8_ (Tr.br x9_ y2_ y3_) y3_))
  let y4_ := (Tr.need (List.length a = List.length a ∧ 3 = 3 ∧ 1 = 1 ∧ List.length (enc eI a) = List.length a * 1 ∧ List.length x15_ = 1 * 1 ∧ List.length a + 1 ≤ 140737488355328 ∧ x12_ * 8 ≤ 140737488355328) (Tr.need x13_ (Tr.leaf CExit.normal y1_ [some (Blk.row 3 1 x14_ (enc eI a ++ x15_))])))
  Tr.br x2_ (Tr.need ((0 : Int) ≤ Int.ofNat k ∧ Int.ofNat k < Int.ofNat (List.length (Tru.deliv t)) ∧ okEl [0] y8_ 1 (Int.ofNat k)) (Tr.need (Cv (dCe c) = Cv c ∧ -9223372036854775808 ≤ cI y8_ 1 (Int.ofNat k) 0 ∧ List.length (Cmp.closed (dCe c)) ≤ 140737488355328) (Tr.need True (Tr.need x3_ (Tr.br (decide (cI y6_ 1 (Int.ofNat k) 0 < Dvd.ex d)) (Tr.br (!inR x4_ (0 : Int) (Dvd.record d)) (Tr.need x5_ (Tr.need x3_ (Tr.need x6_ (Tr.need (-9223372036854775808 ≤ Dvd.pence d * x7_ ∧ Dvd.pence d * x7_ ≤ 9223372036854775807) (Tr.need x3_ (Tr.br x8_ (Tr.br x9_ y2_ y4_) y4_)))))) y0_) y0_))))) (Tr.leaf (CExit.exit 0) [(3, V.rptr (Cds c) 0), (4, V.rptr (Uds t) 0), y5_, (7, V.own 0 y9_ y9_), (8, V.d (D.int .i64 (Int.ofNat k))), (15, V.d (D.bool x2_))] [some (Blk.row 3 1 y9_ (enc eI a))]) := by kernel_rfl
theorem x30 (u v w x y : V) (a : List Int) : sS X18 (doneK r30) [Fr.blk 0, Fr.seq (CCode.at c30 [1,1,1])] (.exit 0) [(3, u), (4, v), (5, w), (7, .own 0 a.length a.length), (8, x), (15, y)] [] (H24 a) =
  Tr.done (V.own 0 (List.length a) (List.length a)) [some (Blk.row 3 1 (List.length a) (enc eI a))] := by kernel_rfl
theorem w31 (c : Cmp) (t : Tru) (d : Dvd) : sx X18 c31 [] (doneK r31) (envOf [Cv c, Uv t, Dv d]) [] [] =
  Tr.lp (CCode.at c31 [1, 1, 0, 1, 0, 0]) [Fr.blk 0, Fr.seq (CCode.at c31 [1, 1, 1])] [(3, V.rptr (Cds c) 0), (4, V.rptr (Uds t) 0), (5, V.rptr [D.int .i64 (Dvd.ex d), D.int .i64 (Dvd.record d), D.int .i64 (Dvd.pence d)] (0)), (7, V.d D.nils), (8, V.d (D.int .i64 0))] [] := by kernel_rfl
theorem b31 (c : Cmp) (t : Tru) (d : Dvd) (a : List Int) (k : Nat) : sx X18 (CCode.at c31 [1,1,0,1,0,0]) [] leafK (E30 c t d a k) [] (H24 a) =
  let x1_ := (decide (Int.ofNat k < Cmp.houses c))
  let y2_ := (List.length a)
  let x2_ := [some (Blk.row 3 1 y2_ (enc eI a))]
  let y0_ := (5, V.rptr [D.int .i64 (Dvd.ex d), D.int .i64 (Dvd.record d), D.int .i64 (Dvd.pence d)] (0))
  let y1_ := (enc eI (Cmp.held c))
  let y3_ := (Cmp.splits (dCe c))
  let y4_ := (8, V.d (D.int .i64 (Int.ofNat k)))
  Tr.br x1_ (Tr.need ((0 : Int) ≤ Int.ofNat k ∧ Int.ofNat k < Int.ofNat (List.length (Cmp.held c)) ∧ okEl [0] y1_ 1 (Int.ofNat k)) (Tr.need (Cv (dCe c) = Cv c ∧ okSs (-1 : Int) y3_ = true ∧ List.length y3_ ≤ 2 ∧ (0 : Int) ≤ cI y1_ 1 (Int.ofNat k) 0 ∧ cI y1_ 1 (Int.ofNat k) 0 ≤ (100 : Int) ∧ (-1000 : Int) ≤ (-1 : Int) ∧ (-1 : Int) ≤ (1000 : Int) ∧ Dvd.record d ≤ (1000 : Int)) (Tr.lp (CCode.at c31 [1, 1, 0, 1, 0, 0, 1, 0, 0, 1, 0, 1, 0, 0]) [Fr.blk 2, Fr.seq (CCode.at c31 [1, 1, 0, 1, 0, 0, 1, 0, 0, 1, 1]), Fr.blk 1, Fr.seq (CCode.at c31 [1, 1, 0, 1, 0, 0, 1, 1])] [(3, V.rptr (Cds c) 0), (4, V.rptr (Uds t) 0), y0_, (7, V.own 0 y2_ y2_), y4_, (9, V.d (D.int .i64 (cI y1_ 1 (Int.ofNat k) 0 * facM y3_ (-1 : Int) (Dvd.record d)))), (10, V.d (D.int .i64 0))] x2_))) (Tr.leaf (CExit.exit 0) [(3, V.rptr (Cds c) 0), (4, V.rptr (Uds t) 0), y0_, (7, V.own 0 y2_ y2_), y4_, (15, V.d (D.bool x1_))] x2_) := by kernel_rfl
def E31i (c : Cmp) (t : Tru) (d : Dvd) (a : List Int) (h : Nat) (n : Int) (k : Nat) : Env := [(3, .rptr (Cds c) 0), (4, .rptr (Uds t) 0), (5, .rptr (Dds d) 0), (7, .own 0 a.length a.length), (8, vi h), (9, vi n), (10, vi k)]
theorem b31i (c : Cmp) (t : Tru) (d : Dvd) (a : List Int) (h : Nat) (n : Int) (k : Nat) : sx X18 (CCode.at c31 [1,1,0,1,0,0,1,0,0,1,0,1,0,0]) [] leafK (E31i c t d a h n k) [] (H24 a) =
  let x1_ := (List.length (Cmp.trades c))
  let x2_ := (decide (Int.ofNat k < Int.ofNat x1_))
  let y10_ := (enc eI (Tru.sold t))
  let x3_ := ((0 : Int) ≤ Int.ofNat k ∧ Int.ofNat k < Int.ofNat (List.length (Tru.sold t)) ∧ okEl [0] y10_ 1 (Int.ofNat k))
  let x4_ := (decide (cI y10_ 1 (Int.ofNat k) 0 < Dvd.ex d))
  let y2_ := (enc eT (Cmp.trades c))
  let y5_ := (Cmp.splits (dCe c))
  let x5_ := (Cv (dCe c) = Cv c ∧ okSs (-1 : Int) y5_ = true ∧ List.length y5_ ≤ 2 ∧ (0 : Int) ≤ cI y2_ 7 (Int.ofNat k) 2 ∧ cI y2_ 7 (Int.ofNat k) 2 ≤ (100 : Int) ∧ (-1000 : Int) ≤ cI y10_ 1 (Int.ofNat k) 0 ∧ cI y10_ 1 (Int.ofNat k) 0 ≤ (1000 : Int) ∧ Dvd.record d ≤ (1000 : Int))
  let x6_ := (cI y10_ 1 (Int.ofNat k) 0)
  let x7_ := (cI y2_ 7 (Int.ofNat k) 0 == Int.ofNat h)
  let x8_ := (-9223372036854775808 ≤ Int.ofNat k + (1 : Int) ∧ Int.ofNat k + (1 : Int) ≤ 9223372036854775807)
  let x9_ := (Blk.row 3 1 (List.length a) (enc eI a))
  let x10_ := [some x9_, some (Blk.box [V.d (D.int .i64 (cI y2_ 7 (Int.ofNat k) 0)), V.d (D.int .i64 (cI y2_ 7 (Int.ofNat k) 1)), V.d (D.int .i64 (cI y2_ 7 (Int.ofNat k) 2)), V.d (D.int .i64 (cI y2_ 7 (Int.ofNat k) 3)), V.d (D.int .i64 (cI y2_ 7 (Int.ofNat k) 4)), V.d (D.int .i64 (cI y2_ 7 (Int.ofNat k) 5)), V.d (D.int .i64 (cI y2_ 7 (Int.ofNat k) 6))])]
  let y9_ := (Dvd.record d)
  let y1_ := (5, V.rptr [D.int .i64 (Dvd.ex d), D.int .i64 y9_, D.int .i64 (Dvd.pence d)] (0))
  let y6_ := (7, V.own 0 (List.length a) (List.length a))
  let y7_ := (10, V.d (D.int .i64 (Int.ofNat k + (1 : Int))))
  let y8_ := (8, V.d (D.int .i64 (Int.ofNat h)))
  let y11_ := (3, V.rptr (Cds c) 0)
  let y12_ := (4, V.rptr (Uds t) 0)
  let y4_ := (Tr.need x8_ (Tr.leaf CExit.normal [y11_, y12_, y1_, y6_, y8_, (9, V.d (D.int .i64 n)), y7_] x10_))
  let y0_ := (Tr.need x3_ (Tr.br x4_ (Tr.br x7_ (Tr.need x3_ (Tr.need x5_ (Tr.need (-9223372036854775808 ≤ n - cI y2_ 7 (Int.ofNat k) 2 * facM y5_ x6_ y9_ ∧ n - cI y2_ 7 (Int.ofNat k) 2 * facM y5_ x6_ y9_ ≤ 9223372036854775807) (Tr.need x8_ (Tr.leaf CExit.normal [y11_, y12_, y1_, y6_, y8_, (9, V.d (D.int .i64 (n - cI y2_ 7 (Int.ofNat k) 2 * facM y5_ x6_ y9_))), y7_] x10_))))) y4_) y4_))
  let y3_ := (Tr.need x8_ (Tr.leaf CExit.normal [y11_, y12_, y1_, y6_, y8_, (9, V.d (D.int .i64 (n + cI y2_ 7 (Int.ofNat k) 2 * facM y5_ x6_ y9_))), y7_] x10_))
  Tr.br x2_ (Tr.need ((0 : Int) ≤ Int.ofNat k ∧ Int.ofNat k < Int.ofNat x1_ ∧ okEl [0, 0, 0, 0, 0, 0, 0] y2_ 7 (Int.ofNat k)) (Tr.need x3_ (Tr.br x4_ (Tr.br (cI y2_ 7 (Int.ofNat k) 1 == Int.ofNat h) (Tr.need x3_ (Tr.need x5_ (Tr.need (-9223372036854775808 ≤ n + cI y2_ 7 (Int.ofNat k) 2 * facM y5_ x6_ y9_ ∧ n + cI y2_ 7 (Int.ofNat k) 2 * facM y5_ x6_ y9_ ≤ 9223372036854775807) (Tr.need x3_ (Tr.br x4_ (Tr.br x7_ (Tr.need x3_ (Tr.need x5_ (Tr.need (-9223372036854775808 ≤ n + cI y2_ 7 (Int.ofNat k) 2 * facM y5_ x6_ y9_ - cI y2_ 7 (Int.ofNat k) 2 * facM y5_ x6_ y9_ ∧ n + cI y2_ 7 (Int.ofNat k) 2 * facM y5_ x6_ y9_ - cI y2_ 7 (Int.ofNat k) 2 * facM y5_ x6_ y9_ ≤ 9223372036854775807) (Tr.need x8_ (Tr.leaf CExit.normal [y11_, y12_, y1_, y6_, y8_, (9, V.d (D.int .i64 (n + cI y2_ 7 (Int.ofNat k) 2 * facM y5_ x6_ y9_ - cI y2_ 7 (Int.ofNat k) 2 * facM y5_ x6_ y9_))), y7_] x10_))))) y3_) y3_))))) y0_) y0_))) (Tr.leaf (CExit.exit 2) [y11_, y12_, y1_, y6_, y8_, (9, V.d (D.int .i64 n)), (10, V.d (D.int .i64 (Int.ofNat k))), (31, V.d (D.bool x2_))] [some x9_]) := by kernel_rfl
theorem x31i (c : Cmp) (t : Tru) (d : Dvd) (a : List Int) (h : Nat) (n : Int) (u v : V) : sS X18 leafK [Fr.blk 2, Fr.seq (CCode.at c31 [1,1,0,1,0,0,1,0,0,1,1]), Fr.blk 1, Fr.seq (CCode.at c31 [1,1,0,1,0,0,1,1])] (.exit 2) [(3, .rptr (Cds c) 0), (4, .rptr (Uds t) 0), (5, .rptr (Dds d) 0), (7, .own 0 a.length a.length), (8, vi h), (9, vi n), (10, u), (31, v)] [] (H24 a) =
  Tr.need (-9223372036854775808 ≤ Dvd.pence d * n ∧ Dvd.pence d * n ≤ 9223372036854775807) (Tr.need (List.length a = List.length a ∧ 3 = 3 ∧ 1 = 1 ∧ List.length (enc eI a) = List.length a * 1 ∧ List.length [D.int .i64 (Dvd.pence d * n)] = 1 * 1 ∧ List.length a + 1 ≤ 140737488355328 ∧ (List.length a + 1) * 8 ≤ 140737488355328) (Tr.need (-9223372036854775808 ≤ Int.ofNat h + (1 : Int) ∧ Int.ofNat h + (1 : Int) ≤ 9223372036854775807) (Tr.leaf CExit.normal [(3, V.rptr (Cds c) 0), (4, V.rptr (Uds t) 0), (5, V.rptr [D.int .i64 (Dvd.ex d), D.int .i64 (Dvd.record d), D.int .i64 (Dvd.pence d)] (0)), (7, V.own 0 (Nat.add (List.length a) 1) (List.length a + 1)), (8, V.d (D.int .i64 (Int.ofNat h + (1 : Int))))] [some (Blk.row 3 1 (Nat.add (List.length a) 1) (enc eI a ++ [D.int .i64 (Dvd.pence d * n)]))]))) := by kernel_rfl
theorem x31 (u v w x y : V) (a : List Int) : sS X18 (doneK r31) [Fr.blk 0, Fr.seq (CCode.at c31 [1,1,1])] (.exit 0) [(3, u), (4, v), (5, w), (7, .own 0 a.length a.length), (8, x), (15, y)] [] (H24 a) =
  Tr.done (V.own 0 (List.length a) (List.length a)) [some (Blk.row 3 1 (List.length a) (enc eI a))] := by kernel_rfl
def befF (a b : List Int) : Nat → Nat → Bool
 | 0, _ => decide (a.length < b.length)
 | n + 1, k => if lat a (k : Nat) = lat b (k : Nat) then befF a b n (k + 1) else decide (lat a (k : Nat) < lat b (k : Nat))
def beforeB (a b : List Int) : Bool := befF a b (min a.length b.length) 0
theorem y68 (a b : List Int) (ha : a.length ≤ 1000000) : Yields Try.prog 68 [vsl eI a, vsl eI b] (vb (beforeB a b)) := by
 refine q68.yieldsK X18_ok rfl rfl rfl (w68 a b) ?_
 simp only [holds]
 refine lp_countK X18_ok rfl (min a.length b.length) (fun k => beforeB a b = befF a b (min a.length b.length - k) k) (E68 a b) (fun _ => []) rfl rfl rfl (fun k _ => ⟨rfl, rfl, rfl⟩) ?_
 intro k hk hA Q' hn he
 rw [b68]
 simp only [holds, Int.ofNat_eq_natCast, cI_I]
 have hend : min a.length b.length ≤ k → beforeB a b = decide ((a.length : Int) < b.length) := fun h => by
  have : min a.length b.length - k = 0 := by omega
  rw [hA, this, befF]
  exact decide_eq_decide.2 (by omega)
 refine ⟨fun e1 => ⟨fun e2 => ?_, fun e2 => ?_⟩, fun e1 => ?_⟩
 ·have l1 : k < a.length := by have := of_decide_eq_true e1; omega
  have l2 : k < b.length := by have := of_decide_eq_true e2; omega
  have o1 : okEl [0] (enc eI a) 1 (k : Nat) := ok_I (by simpa using l1)
  have o2 : okEl [0] (enc eI b) 1 (k : Nat) := ok_I (by simpa using l2)
  have e : min a.length b.length - k = (min a.length b.length - (k + 1)) + 1 := by omega
  rw [e, befF] at hA
  refine ⟨⟨by omega, by omega, o1⟩, ⟨by omega, by omega, o2⟩, fun e3 => ⟨⟨by omega, by omega, o1⟩, ⟨by omega, by omega, o2⟩, ?_⟩, fun e3 => ⟨⟨by omega, by omega⟩, ?_⟩⟩
  ·rw [if_neg (by simpa using e3)] at hA
   exact .of_eq (congrArg vb hA.symm)
  ·rw [if_pos (by simpa using e3)] at hA
   exact hn [] (by omega) hA
 ·refine he _ _ _ (ret_tree X18_ok (doneK_ok rfl) (x68 _ _ _ _) ?_)
  simp only [holds]
  exact .of_eq (congrArg vb (hend (by have := of_decide_eq_false e2; omega)).symm)
 ·refine he _ _ _ (ret_tree X18_ok (doneK_ok rfl) (x68 _ _ _ _) ?_)
  simp only [holds]
  exact .of_eq (congrArg vb (hend (by have := of_decide_eq_false e1; omega)).symm)
def entLL (q : List Int → List Int → Prop) (m : List Int → List Int → V) : Ent := fun args _ => match args with
 | [.d (.sl false n1 d1), .d (.sl false n2 d2)] => some (okL eI 1 gI n1 d1 ∧ okL eI 1 gI n2 d2 ∧ q (dec 1 gI n1 d1) (dec 1 gI n2 d2), m (dec 1 gI n1 d1) (dec 1 gI n2 d2), none)
 | _ => none
theorem entLL_ok {P : Program} {f : Nat} {q : List Int → List Int → Prop} {m : List Int → List Int → V} (hy : ∀ a b, q a b → Yields P f [vsl eI a, vsl eI b] (m a b)) : EntOk P f (entLL q m) := by
 intro args h p v h' he hp
 unfold entLL at he
 split at he
 ·cases he; rw [okL_vsl hp.1, okL_vsl hp.2.1]; exact hy _ _ hp.2.2 h
 ·cases he
def ent68 := entLL (fun a _ => a.length ≤ 1000000) (fun a b => vb (beforeB a b))
theorem ent68_ok : EntOk Try.prog 68 ent68 := entLL_ok fun a b h => y68 a b h
def tab25 : Spec := (spAdd 68 ent68 tab24)
theorem tab25_ok : SpOk Try.prog tab25 := (spAdd_ok ent68_ok tab24_ok)
def X25 : Sx := mkX tab25
theorem X25_ok : SpOk Try.prog X25.sp := tab25_ok
theorem befF_self (a : List Int) : ∀ n k, befF a a n k = false
 | 0, _ => by simp [befF]
 | n + 1, k => by rw [befF, if_pos rfl]; exact befF_self a n _
theorem befF_eq {a b : List Int} (hl : a.length = b.length) : ∀ n k, befF a b n k = false → befF b a n k = false → ∀ j, k ≤ j → j < k + n → lat a (j : Nat) = lat b (j : Nat)
 | 0, k, _, _, j, h1, h2 => by omega
 | n + 1, k, h1, h2, j, h3, h4 => by
  rw [befF] at h1 h2
  by_cases e : lat a (k : Nat) = lat b (k : Nat)
  ·rw [if_pos e] at h1
   rw [if_pos e.symm] at h2
   rcases Nat.eq_or_lt_of_le h3 with h | h
   ·rw [← h]; exact e
   ·exact befF_eq hl n (k + 1) h1 h2 j h (by omega)
  ·rw [if_neg e] at h1
   rw [if_neg (Ne.symm e)] at h2
   have h1 := of_decide_eq_false h1
   have h2 := of_decide_eq_false h2
   omega
theorem lists_eq {a b : List Int} (hl : a.length = b.length) (h1 : beforeB a b = false) (h2 : beforeB b a = false) : a = b := by
 unfold beforeB at h1 h2
 rw [Nat.min_comm] at h2
 have := befF_eq hl _ _ h1 h2
 apply List.ext_getElem hl
 intro i g1 g2
 have h := this i (Nat.zero_le _) (by omega)
 simpa [lat, g1, g2] using h
theorem w28 (a b : List Int) (ha : a.length ≤ 1000000) (hb : b.length ≤ 1000000) : sx X25 c28 [] (doneF 0 r28) (envOf [vsl eI a, vsl eI b]) [] [] =
  let y2_ := (List.length a)
  let y0_ := (dec 1 gI y2_ (enc eI a))
  let y3_ := (List.length b)
  let y1_ := (dec 1 gI y3_ (enc eI b))
  Tr.br (Int.ofNat y2_ == Int.ofNat y3_) (Tr.need (okL eI 1 gI y2_ (enc eI a) ∧ okL eI 1 gI y3_ (enc eI b) ∧ List.length y0_ ≤ 1000000) (Tr.br (!beforeB y0_ y1_) (Tr.need (okL eI 1 gI y3_ (enc eI b) ∧ okL eI 1 gI y2_ (enc eI a) ∧ List.length y1_ ≤ 1000000) (Tr.done (V.d (D.bool !beforeB y1_ y0_)) [])) (Tr.done (V.d (D.bool false)) []))) (Tr.done (V.d (D.bool false)) []) := by kernel_rfl
theorem y28 (a b : List Int) (ha : a.length ≤ 1000000) (hb : b.length ≤ 1000000) : Yields Try.prog 28 [vsl eI a, vsl eI b] (vb (decide (a = b))) := by
 refine q28.yields X25_ok rfl rfl rfl (w28 a b ha hb) ?_
 simp only [holds]
 simp only [okL_I, dec_I, Int.ofNat_eq_natCast]
 have hno : a ≠ b → VLe (V.d (D.bool false)) (vb (decide (a = b))) := fun h => .of_eq (congrArg vb (decide_eq_false h).symm)
 refine ⟨fun e1 => ⟨⟨by omega, by omega, ha⟩, fun e2 => ⟨⟨by omega, by omega, hb⟩, ?_⟩, fun e2 => hno ?_⟩, fun e1 => hno ?_⟩
 ·have e1 : a.length = b.length := by have := eq_of_beq e1; omega
  have e2 : beforeB a b = false := by simpa using e2
  refine .of_eq (congrArg vb ?_)
  by_cases e : a = b
  ·subst e
   simp [e2]
  ·have : beforeB b a = true := by
    cases h : beforeB b a with
    | true => rfl
    | false => exact (e (lists_eq e1 e2 h)).elim
   simp [this, e]
 ·rintro rfl
  have : beforeB a a = false := befF_self a _ _
  rw [this] at e2; simp at e2
 ·rintro rfl; simp at e1
theorem fin_rl (f : Nat → Int) (n : Nat) : VLe (finX 0 (.own 0 n n) [some (.row 3 1 n (enc eI (rl f n)))]).1 (vsl eI (rl f n)) := by
 have := fin_own 3 (rl f n)
 rw [rl_len] at this
 exact this
theorem y29 (c : Cmp) (t : Tru) (d : Dvd) (hf : faultM c = 0) (hd : datedB c t = true) (hv : okDv d = true) : Yields Try.prog 29 [Cv c, Uv t, Dv d] (vsl eI (paidM c t d)) := by
 have hdv := div_in hv
 refine q29.yieldsX X29_ok rfl rfl ?_ (w29 c t d) ?_
 ·rfl
 simp only [holds, dCe, dC_enc, dUe, dU_enc, true_and, refH_len]
 refine ⟨⟨hf, hd, by omega⟩, ?_⟩
 refine lp_count X29_ok c.held.length (fun _ => True) (fun k => E29 d c.held.length k) (fun k => [some (.row 3 1 c.held.length (enc eI (rl (fun i => if i < k then d.pence * heldF c t d.record i else heldF c t d.record i) c.held.length)))]) rfl ?_ trivial (fun k _ => ⟨rfl, rfl, rfl⟩) ?_
 ·simp [refH, refK, rl]
 intro k hk _ Q' hn he hr
 rw [b29]
 simp only [holds, Int.ofNat_eq_natCast, true_and]
 refine ⟨fun e1 => ?_, fun e1 => ?_⟩
 ·have hlt : k < c.held.length := by have := of_decide_eq_true e1; omega
  have h0 : (0 : Int) ≤ (k : Nat) := by omega
  have h1 : ((k : Nat) : Int) < (c.held.length : Nat) := by omega
  rw [rl_dI _ h0 h1, rl_put _ h0 h1, rl_get _ h0 h1]
  have hh := heldF_in hf t d.record k
  have hbs := (fault_ok hf).1
  have hp := pence_in hdv.2.2.2.1 hdv.2.2.2.2 (n := heldF c t d.record k) (by omega)
  have hn1 := hn [] hlt trivial
  have ef : setF (fun i => if i < k then d.pence * heldF c t d.record i else heldF c t d.record i) ((k : Nat) : Int).toNat (d.pence * (if ((k : Nat) : Int).toNat < k then d.pence * heldF c t d.record ((k : Nat) : Int).toNat else heldF c t d.record ((k : Nat) : Int).toNat)) = fun i => if i < k + 1 then d.pence * heldF c t d.record i else heldF c t d.record i := by
   funext i
   simp only [setF, Int.toNat_natCast]
   by_cases e : i = k
   ·rw [if_pos e, if_neg (by omega), if_pos (by omega), e]
   ·rw [if_neg e]
    by_cases e2 : i < k
    ·rw [if_pos e2, if_pos (by omega)]
    ·rw [if_neg e2, if_neg (by omega)]
  rw [ef]
  have hp2 : d.pence * (if ((k : Nat) : Int).toNat < k then d.pence * heldF c t d.record ((k : Nat) : Int).toNat else heldF c t d.record ((k : Nat) : Int).toNat) = d.pence * heldF c t d.record k := by
   rw [Int.toNat_natCast, if_neg (by omega)]
  rw [hp2]
  simp only [len_I, rl_len]
  exact ⟨⟨⟨h0, h1⟩, by omega⟩, trivial, ⟨by omega, by omega⟩, ⟨⟨h0, h1⟩, by omega⟩, ⟨by simp; omega, rfl⟩, ⟨by omega, by omega⟩, hn1⟩
 ·have hge : k = c.held.length := by have := of_decide_eq_false e1; omega
  subst hge
  refine he _ _ _ (ret_tree (R := fun v1 h1 => VLe (finX 0 v1 h1).1 (vsl eI (paidM c t d))) X29_ok (doneK_ok rfl) (x29 _ _ _ _ _) ?_)
  simp only [holds]
  have ep : paidM c t d = rl (fun i => if i < c.held.length then d.pence * heldF c t d.record i else heldF c t d.record i) c.held.length := by
   rw [paid_rl]
   apply List.ext_getElem (by simp)
   intro i h1 h2
   simp only [rl, List.getElem_map, List.getElem_range]
   simp only [rl_len] at h1
   rw [if_pos h1]; rfl
  rw [ep]
  exact fin_rl _ _
theorem y30 (c : Cmp) (t : Tru) (d : Dvd) (hf : faultM c = 0) (hd : datedB c t = true) (hv : okDv d = true) : Yields Try.prog 30 [Cv c, Uv t, Dv d] (vsl eI (claimsM c t d)) := by
 obtain ⟨⟨g1, g2, g3, g4, g5, g6, g7⟩, g8, g9, g10, g11, g12⟩ := fault_ok hf
 obtain ⟨l1, l2⟩ := dated_len hd
 have hdv := div_in hv
 refine q30.yieldsX X18_ok rfl rfl ?_ (w30 c t d) ?_
 ·rfl
 simp only [holds]
 refine LoopP.state (StLe.ghostTmp (t := 7) 3 1 rfl) ?_
 refine lp_count X18_ok c.trades.length (fun _ => True) (fun k => E30 c t d (claimsK c t d k) k) (fun k => H24 (claimsK c t d k)) rfl rfl trivial (fun k _ => ⟨rfl, rfl, rfl⟩) ?_
 intro k hk _ Q' hn he hr
 rw [b30]
 simp only [holds, Int.ofNat_eq_natCast, cI_I, cI_T2, dCe, dC_enc, true_and]
 refine ⟨fun e1 => ?_, fun e1 => ?_⟩
 ·have hlt : k < c.trades.length := by have := of_decide_eq_true e1; omega
  have ht := trade_in hf hlt
  simp only [okTr, Bool.and_eq_true, decide_eq_true_eq] at ht
  have hdi := dat_in hf hd hlt
  have hu := unitsT_in hf t d.record hlt
  have o1 : okEl [0, 0, 0, 0, 0, 0, 0] (enc eT c.trades) 7 (k : Nat) := ok_T (by simpa using hlt)
  have o2 : okEl [0] (enc eI t.deliv) 1 (k : Nat) := ok_I (by simp; omega)
  have o3 : okEl [0] (enc eI t.sold) 1 (k : Nat) := ok_I (by simp; omega)
  have eu : (lat c.trades (k : Nat)).shares * facM c.splits (lat t.sold (k : Nat)) d.record = unitsT c t d.record k := rfl
  simp only [eu]
  have hp := pence_in hdv.2.2.2.1 hdv.2.2.2.2 (n := unitsT c t d.record k) (by omega)
  have hp2 : (0 - d.pence) * unitsT c t d.record k = -(d.pence * unitsT c t d.record k) := by rw [Int.zero_sub, Int.neg_mul]
  have hreg := isReg_ref hf hd hlt d.record
  have hlate : lateB c t d k = !(inR (regR c.closed (lat t.deliv (k : Nat))) 0 d.record) := by
   by_cases h : isReg c t d.record k
   ·rw [hreg.2 h]
    have := h.1; have := h.2
    simp [lateB]; omega
   ·have h2 : inR (regR c.closed (lat t.deliv (k : Nat))) 0 d.record = false := by
     cases h3 : inR (regR c.closed (lat t.deliv (k : Nat))) 0 d.record with
     | false => rfl
     | true => exact (h (hreg.1 h3)).elim
    rw [h2]
    unfold isReg at h
    simp [lateB]; omega
  have hearly : decide (d.ex ≤ lat t.sold (k : Nat)) = !(earlyB t d k) := by
   simp [earlyB, ← Int.not_lt]
  have hearly2 : decide (lat t.sold (k : Nat) < d.ex) = earlyB t d k := rfl
  generalize hR : inR (regR c.closed (lat t.deliv (k : Nat))) 0 d.record = had at hlate
  rw [hearly, hearly2]
  have hn1 := fun J => hn J hlt trivial
  simp only [E30, H24, claimsK_succ, enc_append, enc_one, List.length_append, List.length_cons, List.length_nil, claimK, hlate] at hn1
  generalize earlyB t d k = early at hn1
  clear hn he hr
  have k1 : (claimsK c t d k).length = k := claimsK_len c t d k
  have k2 : (enc eI (claimsK c t d k)).length = (claimsK c t d k).length * 1 := len_I _
  have hsh : 0 ≤ (lat c.trades (k : Nat)).shares ∧ (lat c.trades (k : Nat)).shares ≤ 100 ∧ -1000 ≤ lat t.sold (k : Nat) ∧ lat t.sold (k : Nat) ≤ 1000 ∧ d.record ≤ 1000 ∧ -9223372036854775808 ≤ lat t.deliv (k : Nat) := by omega
  cases early <;> cases had <;> simp only [Bool.not_true, Bool.not_false, Bool.false_eq_true, Bool.true_eq_false, if_true, if_false, false_imp_iff, true_imp_iff, and_true, true_and] at hn1 ⊢ <;>
   (repeat' (refine And.intro ?_ ?_)) <;> first
   | omega
   | assumption
   | rfl
   | exact hn1 []
   | (simp; done)
   | (simp; omega)
 ·have hge : k = c.trades.length := by have := of_decide_eq_false e1; omega
  subst hge
  refine he _ _ _ (ret_tree (R := fun v1 h1 => VLe (finX 0 v1 h1).1 (vsl eI (claimsM c t d))) X18_ok (doneK_ok rfl) (x30 _ _ _ _ _ _) ?_)
  simp only [holds]
  exact fin_own 3 (claimsM c t d)
end
end Go.Proofs.Ytdnefcjbcieecaa
namespace Go.Proofs.Ytdnefcjbcieecaa
open Go Go.Proofs
noncomputable section
def rightR (c : Cmp) (t : Tru) (d : Dvd) (h : Nat) : Nat → Int
 | 0 => lat c.held (h : Nat) * fac c (-1) d.record
 | k + 1 => if earlyB t d k = true then (if (lat c.trades (k : Nat)).buyer = h then rightR c t d h k + unitsT c t d.record k else if (lat c.trades (k : Nat)).seller = h then rightR c t d h k - unitsT c t d.record k else rightR c t d h k) else rightR c t d h k
theorem rightR_in {c : Cmp} (hf : faultM c = 0) (t : Tru) (d : Dvd) {h : Nat} (hh : h < c.held.length) : ∀ k, k ≤ c.trades.length → -(2592000 * (2 * (k : Int) + 1)) ≤ rightR c t d h k ∧ rightR c t d h k ≤ 2592000 * (2 * (k : Int) + 1)
 | 0, _ => by
  have h1 := held_in hf hh
  have h2 := fac_in hf (-1) d.record
  have h3 := mul_in h1.1 h1.2 h2.1 h2.2
  simp only [rightR]; omega
 | k + 1, hk => by
  have ih := rightR_in hf t d hh k (by omega)
  have hu := unitsT_in hf t d.record (k := k) (by omega)
  rw [rightR]
  split
  ·split
   ·omega
   ·split <;> omega
  ·omega
def claimD (c : Cmp) (t : Tru) (d : Dvd) (h : Nat) : Nat → Int
 | 0 => 0
 | k + 1 => claimD c t d h k + (if (lat c.trades (k : Nat)).buyer = h then claimK c t d k else if (lat c.trades (k : Nat)).seller = h then -claimK c t d k else 0)
theorem rightT_D {c : Cmp} (hf : faultM c = 0) (t : Tru) (d : Dvd) (h : Nat) : ∀ k, k ≤ c.trades.length → rightT c t d k h = d.pence * heldF c t d.record h + claimD c t d h k
 | 0, _ => by simp [rightT, claimD]
 | k + 1, hk => by
  have ht := trade_in hf (show k < c.trades.length by omega)
  simp only [okTr, Bool.and_eq_true, decide_eq_true_eq] at ht
  rw [rightT, moveF_at _ (by omega) (by omega) (by omega), claimD, rightT_D hf t d h k (by omega)]
  split
  ·omega
  ·split <;> omega
theorem late_reg (c : Cmp) (t : Tru) (d : Dvd) (k : Nat) : lateB c t d k = !(decide (isReg c t d.record k)) := by
 cases hx : lateB c t d k with
 | true =>
  have : ¬ isReg c t d.record k := fun h => by
   have h1 := h.1
   have h2 := h.2
   simp only [lateB, Bool.or_eq_true, beq_iff_eq, decide_eq_true_eq] at hx
   omega
  simp [this]
 | false =>
  have : isReg c t d.record k := by
   simp only [lateB, Bool.or_eq_false_iff, beq_eq_false_iff_ne, decide_eq_false_iff_not] at hx
   exact ⟨hx.1, by omega⟩
  simp [this]
theorem right_law {c : Cmp} (hf : faultM c = 0) (t : Tru) (d : Dvd) {h : Nat} (hh : h < c.held.length) : ∀ k, k ≤ c.trades.length → d.pence * heldT c t d.record k h + claimD c t d h k = d.pence * rightR c t d h k
 | 0, _ => by
  have e : heldT c t d.record 0 h = lat c.held (h : Nat) * fac c (-1) d.record := heldA_at c d.record _ h hh
  rw [e]; simp [claimD, rightR]
 | k + 1, hk => by
  have ht := trade_in hf (show k < c.trades.length by omega)
  simp only [okTr, Bool.and_eq_true, decide_eq_true_eq] at ht
  have ih := right_law hf t d hh k (by omega)
  have hl := late_reg c t d k
  rw [heldT, claimD, rightR, claimK, hl]
  have m1 : (0 - d.pence) * unitsT c t d.record k = -(d.pence * unitsT c t d.record k) := by rw [Int.zero_sub, Int.neg_mul]
  by_cases hr : isReg c t d.record k
  ·rw [if_pos hr, moveF_at _ (by omega) (by omega) (by omega)]
   simp only [hr, decide_true, Bool.not_true, Bool.false_eq_true, if_false]
   split <;> split <;> (try split) <;> (try simp only [Int.mul_add, Int.mul_sub, m1]) <;> omega
  ·rw [if_neg hr]
   simp only [hr, decide_false, Bool.not_false, if_true]
   split <;> split <;> (try split) <;> (try simp only [Int.mul_add, Int.mul_sub]) <;> omega
def refR (c : Cmp) (t : Tru) (d : Dvd) (n : Nat) : List Int := rl (fun h => d.pence * rightR c t d h c.trades.length) n
theorem refR_succ (c : Cmp) (t : Tru) (d : Dvd) (h : Nat) : refR c t d (h + 1) = refR c t d h ++ [d.pence * rightR c t d h c.trades.length] := by simp [refR, rl, List.range_succ]
@[simp] theorem refR_len (c : Cmp) (t : Tru) (d : Dvd) (h : Nat) : (refR c t d h).length = h := by simp [refR]
theorem rights_eq {c : Cmp} (hf : faultM c = 0) (t : Tru) (d : Dvd) : refR c t d c.held.length = rightsM c t d := by
 unfold refR rightsM
 apply List.ext_getElem (by simp)
 intro i h1 h2
 simp only [rl_len] at h1
 simp only [rl, List.getElem_map, List.getElem_range]
 rw [rightT_D hf t d i _ (Nat.le_refl _), ← right_law hf t d h1 _ (Nat.le_refl _)]
 rfl
theorem y31 (c : Cmp) (t : Tru) (d : Dvd) (hf : faultM c = 0) (hd : datedB c t = true) (hv : okDv d = true) : Yields Try.prog 31 [Cv c, Uv t, Dv d] (vsl eI (rightsM c t d)) := by
 obtain ⟨⟨g1, g2, g3, g4, g5, g6, g7⟩, g8, g9, g10, g11, g12⟩ := fault_ok hf
 obtain ⟨l1, l2⟩ := dated_len hd
 have hdv := div_in hv
 refine q31.yieldsX X18_ok rfl rfl ?_ (w31 c t d) ?_
 ·rfl
 simp only [holds]
 refine LoopP.state (StLe.ghostTmp (t := 7) 3 1 rfl) ?_
 refine lp_count X18_ok c.held.length (fun _ => True) (fun h => E30 c t d (refR c t d h) h) (fun h => H24 (refR c t d h)) rfl rfl trivial (fun k _ => ⟨rfl, rfl, rfl⟩) ?_
 intro h hh _ Q' hn he hr
 rw [b31]
 simp only [holds, Int.ofNat_eq_natCast, cI_I, dCe, dC_enc, true_and]
 refine ⟨fun e1 => ?_, fun e1 => ?_⟩
 ·have hlt : h < c.held.length := by have := of_decide_eq_true e1; omega
  have hi := held_in hf hlt
  have hn1 := hn [] hlt trivial
  refine ⟨⟨by omega, by omega, ok_I (by simpa using hlt)⟩, ⟨g11, g6, by omega, by omega, by omega, by omega, by omega⟩, ?_⟩
  clear hn he hr
  have e0 : lat c.held (h : Nat) * facM c.splits (-1) d.record = rightR c t d h 0 := rfl
  rw [e0]
  refine lp_count X18_ok c.trades.length (fun _ => True) (fun k => E31i c t d (refR c t d h) h (rightR c t d h k) k) (fun _ => H24 (refR c t d h)) rfl rfl trivial (fun k _ => ⟨rfl, rfl, rfl⟩) ?_
  intro k hk _ Q2 hn he hr
  rw [b31i]
  simp only [holds, Int.ofNat_eq_natCast, cI_I, cI_T0, cI_T1, cI_T2, dCe, dC_enc, true_and]
  refine ⟨fun e2 => ?_, fun e2 => ?_⟩
  ·have hlt2 : k < c.trades.length := by have := of_decide_eq_true e2; omega
   have ht := trade_in hf hlt2
   simp only [okTr, Bool.and_eq_true, decide_eq_true_eq] at ht
   have hdi := dat_in hf hd hlt2
   have hu := unitsT_in hf t d.record hlt2
   have hb := rightR_in hf t d hlt k hk
   have o1 : okEl [0, 0, 0, 0, 0, 0, 0] (enc eT c.trades) 7 (k : Nat) := ok_T (by simpa using hlt2)
   have o3 : okEl [0] (enc eI t.sold) 1 (k : Nat) := ok_I (by simp; omega)
   have hn2 := hn [some (.box [V.d (D.int .i64 (lat c.trades (k : Nat)).seller), V.d (D.int .i64 (lat c.trades (k : Nat)).buyer), V.d (D.int .i64 (lat c.trades (k : Nat)).shares), V.d (D.int .i64 (cI (enc eT c.trades) 7 (k : Nat) 3)), V.d (D.int .i64 (cI (enc eT c.trades) 7 (k : Nat) 4)), V.d (D.int .i64 (cI (enc eT c.trades) 7 (k : Nat) 5)), V.d (D.int .i64 (cI (enc eT c.trades) 7 (k : Nat) 6))])] hlt2 trivial
   have eu : (lat c.trades (k : Nat)).shares * facM c.splits (lat t.sold (k : Nat)) d.record = unitsT c t d.record k := rfl
   have hearly2 : decide (lat t.sold (k : Nat) < d.ex) = earlyB t d k := rfl
   simp only [eu, hearly2]
   have hsh : 0 ≤ (lat c.trades (k : Nat)).shares ∧ (lat c.trades (k : Nat)).shares ≤ 100 ∧ -1000 ≤ lat t.sold (k : Nat) ∧ lat t.sold (k : Nat) ≤ 1000 ∧ d.record ≤ 1000 := by omega
   have hne : ¬ ((lat c.trades (k : Nat)).buyer = (h : Int) ∧ (lat c.trades (k : Nat)).seller = (h : Int)) := by omega
   simp only [rightR] at hn2
   generalize earlyB t d k = early at hn2
   clear hn he hr
   by_cases hB : (lat c.trades (k : Nat)).buyer = (h : Int)
   ·have hS : ¬ (lat c.trades (k : Nat)).seller = (h : Int) := fun e => hne ⟨hB, e⟩
    have b1 : ((lat c.trades (k : Nat)).buyer == (h : Int)) = true := by simpa using hB
    have b2 : ((lat c.trades (k : Nat)).seller == (h : Int)) = false := by simpa using hS
    rw [b1, b2]
    rw [if_pos hB] at hn2
    cases early <;> simp only [Bool.not_true, Bool.not_false, Bool.false_eq_true, Bool.true_eq_false, if_true, if_false, false_imp_iff, true_imp_iff, and_true, true_and] at hn2 ⊢ <;>
     (repeat' (refine And.intro ?_ ?_)) <;> first
     | omega
     | assumption
   ·have b1 : ((lat c.trades (k : Nat)).buyer == (h : Int)) = false := by simpa using hB
    rw [b1]
    rw [if_neg hB] at hn2
    by_cases hS : (lat c.trades (k : Nat)).seller = (h : Int)
    ·have b2 : ((lat c.trades (k : Nat)).seller == (h : Int)) = true := by simpa using hS
     rw [b2]
     rw [if_pos hS] at hn2
     cases early <;> simp only [Bool.not_true, Bool.not_false, Bool.false_eq_true, Bool.true_eq_false, if_true, if_false, false_imp_iff, true_imp_iff, and_true, true_and] at hn2 ⊢ <;>
      (repeat' (refine And.intro ?_ ?_)) <;> first
      | omega
      | assumption
    ·have b2 : ((lat c.trades (k : Nat)).seller == (h : Int)) = false := by simpa using hS
     rw [b2]
     rw [if_neg hS] at hn2
     cases early <;> simp only [Bool.not_true, Bool.not_false, Bool.false_eq_true, Bool.true_eq_false, if_true, if_false, false_imp_iff, true_imp_iff, and_true, true_and] at hn2 ⊢ <;>
      (repeat' (refine And.intro ?_ ?_)) <;> first
      | omega
      | assumption
  ·have hge : k = c.trades.length := by have := of_decide_eq_false e2; omega
   subst hge
   have hb := rightR_in hf t d hlt c.trades.length (Nat.le_refl _)
   have hp := pence_in hdv.2.2.2.1 hdv.2.2.2.2 (n := rightR c t d h c.trades.length) (by omega)
   refine he _ _ _ (ret_tree (R := fun _ _ => True) X18_ok leafK_ok (x31i _ _ _ _ _ _ _ _) ?_)
   simp only [holds, Int.ofNat_eq_natCast]
   refine ⟨⟨by omega, by omega⟩, ⟨trivial, trivial, trivial, by simp, rfl, by rw [refR_len]; omega, by rw [refR_len]; omega⟩, ⟨by omega, by omega⟩, ?_⟩
   simp only [E30, H24, refR_succ, enc_append, enc_one, List.length_append, List.length_cons, List.length_nil] at hn1
   exact hn1
 ·have hge : h = c.held.length := by have := of_decide_eq_false e1; omega
  subst hge
  refine he _ _ _ (ret_tree (R := fun v1 h1 => VLe (finX 0 v1 h1).1 (vsl eI (rightsM c t d))) X18_ok (doneK_ok rfl) (x31 _ _ _ _ _ _) ?_)
  simp only [holds]
  rw [← rights_eq hf]
  exact fin_own 3 (refR c t d c.held.length)
end
end Go.Proofs.Ytdnefcjbcieecaa
namespace Go.Proofs.Ytdnefcjbcieecaa
open Go Go.Proofs
noncomputable section
theorem q4 : FunIs Try.prog 4 G4 c4 r4 := ⟨Try.f4, Try.func4, k4, e4, by kernel_rfl, by kernel_rfl⟩
def entCUV (q : Cmp → Tru → Dvd → Prop) (m : Cmp → Tru → Dvd → V) : Ent := fun args _ => match args with
 | [x, y, z] => match asC x, asU y, asDv z with
  | some c, some t, some d => some (Cv c = x ∧ Uv t = y ∧ Dv d = z ∧ q c t d, m c t d, none)
  | _, _, _ => none
 | _ => none
theorem entCUV_ok {P : Program} {f : Nat} {q : Cmp → Tru → Dvd → Prop} {m : Cmp → Tru → Dvd → V} (hy : ∀ c t d, q c t d → Yields P f [Cv c, Uv t, Dv d] (m c t d)) : EntOk P f (entCUV q m) := by
 intro args h p v h' he hp
 unfold entCUV at he
 split at he
 ·split at he
  ·cases he; rw [← hp.1, ← hp.2.1, ← hp.2.2.1]; exact hy _ _ _ hp.2.2.2 h
  ·cases he
 ·cases he
def okCUV (c : Cmp) (t : Tru) (d : Dvd) : Prop := faultM c = 0 ∧ datedB c t = true ∧ okDv d = true
def ent29 := entCUV okCUV (fun c t d => vsl eI (paidM c t d))
theorem ent29_ok : EntOk Try.prog 29 ent29 := entCUV_ok fun c t d h => y29 c t d h.1 h.2.1 h.2.2
def ent30 := entCUV okCUV (fun c t d => vsl eI (claimsM c t d))
theorem ent30_ok : EntOk Try.prog 30 ent30 := entCUV_ok fun c t d h => y30 c t d h.1 h.2.1 h.2.2
def ent31 := entCUV okCUV (fun c t d => vsl eI (rightsM c t d))
theorem ent31_ok : EntOk Try.prog 31 ent31 := entCUV_ok fun c t d h => y31 c t d h.1 h.2.1 h.2.2
def ent28 := entLL (fun a b => a.length ≤ 1000000 ∧ b.length ≤ 1000000) (fun a b => vb (decide (a = b)))
theorem ent28_ok : EntOk Try.prog 28 ent28 := entLL_ok fun a b h => y28 a b h.1 h.2
def ent25 := entCUI (fun _ _ _ => True) (fun c t n => .tup [vsl eI (sumL paidM c t n), vi (sumE c t n)])
theorem ent25_ok : EntOk Try.prog 25 ent25 := entCUI_ok fun c t d _ => y25 c t d
def ent26 := entCUI (fun _ _ _ => True) (fun c t n => .tup [vsl eI (sumL claimsM c t n), vi (sumE c t n)])
theorem ent26_ok : EntOk Try.prog 26 ent26 := entCUI_ok fun c t d _ => y26 c t d
def ent27 := entCUI (fun _ _ _ => True) (fun c t n => .tup [vsl eI (sumL rightsM c t n), vi (sumE c t n)])
theorem ent27_ok : EntOk Try.prog 27 ent27 := entCUI_ok fun c t d _ => y27 c t d
def tab26 : Spec := (spAdd 31 ent31 (spAdd 30 ent30 (spAdd 29 ent29 (spAdd 28 ent28 (spAdd 27 ent27 (spAdd 26 ent26 (spAdd 25 ent25 tab25)))))))
theorem tab26_ok : SpOk Try.prog tab26 := (spAdd_ok ent31_ok (spAdd_ok ent30_ok (spAdd_ok ent29_ok (spAdd_ok ent28_ok (spAdd_ok ent27_ok (spAdd_ok ent26_ok (spAdd_ok ent25_ok tab25_ok)))))))
def X26 : Sx := mkX tab26
theorem X26_ok : SpOk Try.prog X26.sp := tab26_ok
theorem w4 (c : Cmp) (t : Tru) (n : Int) : sx X26 c4 [] (doneP r4) (envOf [Cv c, Uv t, vi n]) [] [] =
  let x1_ := (Cv (dCe c) = Cv c ∧ small (dCe c))
  let x2_ := (Uv (dUe t) = Uv t ∧ List.length (Tru.sold (dUe t)) ≤ 1000000 ∧ List.length (Tru.deliv (dUe t)) ≤ 1000000)
  let x3_ := (Cv (dCe (dCe c)) = Cv (dCe c) ∧ Uv (dUe (dUe t)) = Uv (dUe t) ∧ True)
  let x4_ := (List.length (Cmp.divs c))
  let x5_ := (sumE (dCe (dCe c)) (dUe (dUe t)) n == (2 : Int))
  let x6_ := (sumL paidM (dCe (dCe c)) (dUe (dUe t)) n)
  let x7_ := (sumL claimsM (dCe (dCe c)) (dUe (dUe t)) n)
  let x8_ := (sumL rightsM (dCe (dCe c)) (dUe (dUe t)) n)
  let x9_ := (sumE (dCe (dCe c)) (dUe (dUe t)) n == (0 : Int))
  let y4_ := (enc eV (Cmp.divs c))
  let y2_ := ({ ex := cI y4_ 3 n 0, record := cI y4_ 3 n 1, pence := cI y4_ 3 n 2 } : Dvd)
  let x10_ := (Cv (dCe c) = Cv c ∧ Uv (dUe t) = Uv t ∧ Dv y2_ = V.agg [V.d (D.int .i64 (cI y4_ 3 n 0)), V.d (D.int .i64 (cI y4_ 3 n 1)), V.d (D.int .i64 (cI y4_ 3 n 2))] ∧ okCUV (dCe c) (dUe t) y2_)
  let x11_ := (paidM (dCe c) (dUe t) y2_)
  let x12_ := (claimsM (dCe c) (dUe t) y2_)
  let x13_ := (rightsM (dCe c) (dUe t) y2_)
  let x14_ := (sumE (dCe (dCe c)) (dUe (dUe t)) n == askE (dCe c) (dUe t))
  let y3_ := (Tr.done (V.d (D.bool false)) [])
  let y6_ := (List.length x6_)
  let y7_ := (List.length x7_)
  let y8_ := (Tr.need True (Tr.done (V.d (D.bool true)) []))
  let y9_ := (List.length x8_)
  let y0_ := (Tr.need ((0 : Int) ≤ n ∧ n < Int.ofNat x4_ ∧ okEl [0, 0, 0] y4_ 3 n) (Tr.br x9_ (Tr.need x10_ (Tr.need (okL eI 1 gI y6_ (enc eI x6_) ∧ okL eI 1 gI (List.length x11_) (enc eI x11_) ∧ List.length (dec 1 gI y6_ (enc eI x6_)) ≤ 1000000 ∧ List.length (dec 1 gI (List.length x11_) (enc eI x11_)) ≤ 1000000) (Tr.br (decide (dec 1 gI y6_ (enc eI x6_) = dec 1 gI (List.length x11_) (enc eI x11_))) (Tr.br x9_ (Tr.need x10_ (Tr.need (okL eI 1 gI y7_ (enc eI x7_) ∧ okL eI 1 gI (List.length x12_) (enc eI x12_) ∧ List.length (dec 1 gI y7_ (enc eI x7_)) ≤ 1000000 ∧ List.length (dec 1 gI (List.length x12_) (enc eI x12_)) ≤ 1000000) (Tr.br (decide (dec 1 gI y7_ (enc eI x7_) = dec 1 gI (List.length x12_) (enc eI x12_))) (Tr.br x9_ (Tr.need x10_ (Tr.need (okL eI 1 gI y9_ (enc eI x8_) ∧ okL eI 1 gI (List.length x13_) (enc eI x13_) ∧ List.length (dec 1 gI y9_ (enc eI x8_)) ≤ 1000000 ∧ List.length (dec 1 gI (List.length x13_) (enc eI x13_)) ≤ 1000000) (Tr.br (decide (dec 1 gI y9_ (enc eI x8_) = dec 1 gI (List.length x13_) (enc eI x13_))) y8_ y3_))) y3_) y3_))) y3_) y3_))) y3_))
  let y1_ := (Tr.need (-9223372036854775808 ≤ Int.ofNat y6_ + Int.ofNat y7_ ∧ Int.ofNat y6_ + Int.ofNat y7_ ≤ 9223372036854775807) (Tr.need (-9223372036854775808 ≤ Int.ofNat y6_ + Int.ofNat y7_ + Int.ofNat y9_ ∧ Int.ofNat y6_ + Int.ofNat y7_ + Int.ofNat y9_ ≤ 9223372036854775807) (Tr.br (Int.ofNat y6_ + Int.ofNat y7_ + Int.ofNat y9_ == (0 : Int)) y8_ y3_)))
  let y5_ := (Tr.br (askE (dCe c) (dUe t) != (0 : Int)) (Tr.br x14_ (Tr.br x14_ (Tr.br x14_ y1_ y3_) y3_) y3_) y0_)
  Tr.need (Cv (dCe c) = Cv c ∧ Uv (dUe t) = Uv t ∧ True) (Tr.br (!thin (dCe c) (dUe t)) y8_ (Tr.need x1_ (Tr.need x2_ (Tr.need x3_ (Tr.need x1_ (Tr.need x2_ (Tr.need x3_ (Tr.need x1_ (Tr.need x2_ (Tr.need x3_ (Tr.need (Cv (dCe c) = Cv c ∧ Uv (dUe t) = Uv t ∧ List.length (Cmp.trades (dCe c)) ≤ 1000000) (Tr.br (askE (dCe c) (dUe t) == (0 : Int)) (Tr.need (-9223372036854775808 ≤ Int.ofNat x4_ - (1 : Int) ∧ Int.ofNat x4_ - (1 : Int) ≤ 9223372036854775807) (Tr.need True (Tr.br (!inR n (0 : Int) (Int.ofNat x4_ - (1 : Int))) (Tr.br ((2 : Int) != (0 : Int)) (Tr.br x5_ (Tr.br x5_ (Tr.br x5_ y1_ y3_) y3_) y3_) y0_) y5_))) y5_)))))))))))) := by kernel_rfl
theorem paidM_len (c : Cmp) (t : Tru) (d : Dvd) : (paidM c t d).length = c.held.length := by rw [paid_rl, rl_len]
theorem claimsM_len (c : Cmp) (t : Tru) (d : Dvd) : (claimsM c t d).length = c.trades.length := claimsK_len c t d _
theorem rightsM_len (c : Cmp) (t : Tru) (d : Dvd) : (rightsM c t d).length = c.held.length := rl_len _ _
theorem y4 (c : Cmp) (t : Tru) (n : Int) : Yields Try.prog 4 [Cv c, Uv t, vi n] (vb true) := by
 refine q4.yieldsP X26_ok rfl rfl rfl (w4 c t n) ?_
 simp only [holds, Int.ofNat_eq_natCast, cI_V0, cI_V1, cI_V2, dCe, dC_enc, dUe, dU_enc, dec_I, okL_I, true_and, and_true]
 refine ⟨fun _ => .refl _, fun g => ?_⟩
 have g : thin c t = true := by simpa using g
 have hl := thin_len g
 have hs := thin_small g
 have hu : t.sold.length ≤ 1000000 ∧ t.deliv.length ≤ 1000000 := by omega
 have htr : c.trades.length ≤ 1000000 := by omega
 have hdl : -9223372036854775808 ≤ (c.divs.length : Int) - 1 ∧ (c.divs.length : Int) - 1 ≤ 9223372036854775807 := by omega
 have hT : VLe (V.d (D.bool true)) (vb true) := .refl _
 simp only [hs, hu, htr, hdl, and_self, true_and]
 by_cases h1 : askE c t = 0
 ·obtain ⟨hf, hd, hfi⟩ := askE_ok h1
  have hbs := (fault_ok hf).1
  by_cases h2 : inR n 0 (c.divs.length - 1) = true
  ·have e : sumE c t n = 0 := by simp [sumE, h1, h2]
   have e2 : ∀ M, sumL M c t n = M c t (lat c.divs n) := fun M => by simp [sumL, e]
   have h3 : 0 ≤ n ∧ n < (c.divs.length : Int) := by simp only [inR, decide_eq_true_eq] at h2; omega
   have hdv := divs_ok hf h3.1 h3.2
   have hok : okCUV c t (lat c.divs n) := ⟨hf, hd, hdv⟩
   have hok' : okCUV c t ⟨(lat c.divs n).ex, (lat c.divs n).record, (lat c.divs n).pence⟩ := hok
   have hDv : Dv ⟨(lat c.divs n).ex, (lat c.divs n).record, (lat c.divs n).pence⟩ = V.agg [V.d (D.int .i64 (lat c.divs n).ex), V.d (D.int .i64 (lat c.divs n).record), V.d (D.int .i64 (lat c.divs n).pence)] := rfl
   have b1 : c.held.length ≤ 140737488355328 ∧ c.held.length ≤ 1000000 ∧ c.trades.length ≤ 140737488355328 := by omega
   simp only [h1, h2, e, e2, hok', hDv, paidM_len, claimsM_len, rightsM_len, b1, htr, beq_self_eq_true, bne_self_eq_false, Bool.not_true, Bool.false_eq_true, false_imp_iff, true_imp_iff, true_and, Bool.true_eq_false, and_true, decide_true, and_self]
   exact ⟨⟨h3.1, h3.2, ok_V (by omega)⟩, hT⟩
  ·have h2 : inR n 0 (c.divs.length - 1) = false := by simpa using h2
   have e : sumE c t n = 2 := by simp [sumE, h1, h2]
   have e2 : ∀ M, sumL M c t n = [] := fun M => by simp [sumL, e]
   simp only [h1, h2, e, e2, beq_self_eq_true, bne_self_eq_false, Bool.not_true, Bool.not_false, Bool.false_eq_true, false_imp_iff, true_imp_iff, true_and, List.length_nil, Bool.true_eq_false, and_true]
   exact ⟨fun _ => ⟨⟨by decide, by decide⟩, ⟨by decide, by decide⟩, fun _ => hT, fun h => by simp at h⟩, fun h => by simp at h⟩
 ·have e : sumE c t n = askE c t := by simp [sumE, h1]
  have e2 : ∀ M, sumL M c t n = [] := fun M => by simp [sumL, e, h1]
  have b1 : (askE c t == 0) = false := by simpa using h1
  have b2 : (askE c t != 0) = true := by simpa using h1
  simp only [b1, b2, e, e2, beq_self_eq_true, bne_self_eq_false, Bool.not_true, Bool.not_false, Bool.false_eq_true, false_imp_iff, true_imp_iff, true_and, List.length_nil, Bool.true_eq_false, and_true]
  exact ⟨⟨by decide, by decide⟩, ⟨by decide, by decide⟩, fun _ => hT, fun h => by simp at h⟩
end
end Go.Proofs.Ytdnefcjbcieecaa
namespace Go.Proofs.Ytdnefcjbcieecaa
open Go Go.Proofs
noncomputable section
def goodD (c : Cmp) (t : Tru) (k : Nat) : Prop := ∀ i, i < 4 → 0 ≤ heldF c t (k : Nat) i
def kEnd (c : Cmp) (t : Tru) : Nat := open Classical in if h : ∃ k, k < 12 ∧ ¬ goodD c t k ∧ ∀ j, j < k → goodD c t j then h.choose + 1 else 12
theorem kEnd_bad {c : Cmp} {t : Tru} {k : Nat} (hk : k < 12) (hb : ¬ goodD c t k) (hg : ∀ j, j < k → goodD c t j) : kEnd c t = k + 1 := by
 have h : ∃ k, k < 12 ∧ ¬ goodD c t k ∧ ∀ j, j < k → goodD c t j := ⟨k, hk, hb, hg⟩
 unfold kEnd
 rw [dif_pos h]
 obtain ⟨h1, h2, h3⟩ := h.choose_spec
 rcases Nat.lt_trichotomy h.choose k with g | g | g
 ·exact (h2 (hg _ g)).elim
 ·rw [g]
 ·exact (hb (h3 _ g)).elim
theorem kEnd_good {c : Cmp} {t : Tru} (hg : ∀ j, j < 12 → goodD c t j) : kEnd c t = 12 := by
 unfold kEnd
 rw [dif_neg]
 rintro ⟨k, h1, h2, _⟩
 exact h2 (hg k h1)
theorem a93k (c : Cmp) (t : Tru) (km : List (Int × Int × Int)) (hf : faultM c = 0) (hs : t.sold.length = c.trades.length) (hd : t.deliv.length = c.trades.length) (hkm : kmOk c km) :
  ACalls Try.prog 93 [.ptr 1 0 0, Uv t] (Wk c km []) fun v h' => v = vb (fitsB c t) ∧ ∃ J, h' = Wk c (kmF c t km (kEnd c t)) J := by
 refine q93.calls X15_ok (h := Wk c km []) rfl (w93 c t km) ?_
 simp only [holds]
 refine lp_count X15_ok 12 (fun k => ∀ j, j < k → ∀ i, i < 4 → 0 ≤ heldF c t (j : Nat) i) (E93 t) (fun k => Wk c (kmF c t km k) [some (.box (cells4 (bef c t k)))]) rfl rfl (fun j hj => by omega) (fun k _ => ⟨rfl, rfl, Wk_belr _ _ _ 3 (by decide) rfl⟩) ?_
 intro k hk hA Q' hn he hr
 rw [b93]
 simp only [holds, least4, Int.ofNat_eq_natCast, dCe, dC_enc, dUe, dU_enc, dK_map, true_and]
 refine ⟨fun h1 => ?_, fun h1 => ?_⟩
 ·have hlt : k < 12 := by have := of_decide_eq_true h1; omega
  refine ⟨⟨hf, hs, hd, kmF_ok hkm t k⟩, fun h2 => ⟨by omega, ?_⟩, fun h2 => ⟨by simp, ⟨okL4 _ _ _ _, by decide, by decide⟩, fun h3 => ?_, fun h3 => ⟨by omega, ?_⟩⟩⟩
  ·have h2' : eqDs [D.int .i64 (heldF c t (k : Nat) 0), D.int .i64 (heldF c t (k : Nat) 1), D.int .i64 (heldF c t (k : Nat) 2), D.int .i64 (heldF c t (k : Nat) 3)] [D.int .i64 (bef c t k 0), D.int .i64 (bef c t k 1), D.int .i64 (bef c t k 2), D.int .i64 (bef c t k 3)] = true := h2
   simp only [eqDs, eqD, Bool.and_eq_true, beq_iff_eq, true_and, and_true] at h2'
   obtain ⟨e0, e1, e2, e3⟩ := h2'
   have hb : ∀ i, i < 4 → 0 ≤ bef c t k i := by
    cases k with
    | zero => intro i _; exact Int.le_refl _
    | succ k => exact hA k (by omega)
   have hnn : ∀ i, i < 4 → 0 ≤ heldF c t (k : Nat) i := lt4 (p := fun i => 0 ≤ heldF c t (k : Nat) i) (e0 ▸ hb 0 (by decide)) (e1 ▸ hb 1 (by decide)) (e2 ▸ hb 2 (by decide)) (e3 ▸ hb 3 (by decide))
   have hc : cells4 (bef c t k) = cells4 (heldF c t (k : Nat)) := by simp only [cells4, e0, e1, e2, e3]
   have := hn [some (.box (cells4 (heldF c t (k : Nat))))] hlt (step_all hA hnn)
   simp only [kmF, bef] at this
   rw [← hc] at this
   rw [e0, e1, e2, e3]
   exact this
  ·refine hr _ _ (ret_tree X15_ok (doneK_ok rfl) (t93 false _) ?_)
   simp only [holds]
   have hfb : fitsB c t = false := by
    simp only [fitsB, decide_eq_false_iff_not]
    intro h
    have hm : min2 (min2 (min2 (heldF c t (k : Nat) 0) (heldF c t (k : Nat) 1)) (heldF c t (k : Nat) 2)) (heldF c t (k : Nat) 3) < 0 := of_decide_eq_true h3
    have g := h k hlt
    have g0 := g 0 (by decide); have g1 := g 1 (by decide); have g2 := g 2 (by decide); have g3 := g 3 (by decide)
    unfold min2 at hm
    split at hm <;> split at hm <;> split at hm <;> omega
   have hbad : ¬ goodD c t k := fun g => by
    have hm : min2 (min2 (min2 (heldF c t (k : Nat) 0) (heldF c t (k : Nat) 1)) (heldF c t (k : Nat) 2)) (heldF c t (k : Nat) 3) < 0 := of_decide_eq_true h3
    have g0 := g 0 (by decide); have g1 := g 1 (by decide); have g2 := g 2 (by decide); have g3 := g 3 (by decide)
    unfold min2 at hm
    split at hm <;> split at hm <;> split at hm <;> omega
   rw [kEnd_bad hlt hbad hA]
   exact ⟨by rw [hfb]; rfl, _, rfl⟩
  ·have hm : ¬ min2 (min2 (min2 (heldF c t (k : Nat) 0) (heldF c t (k : Nat) 1)) (heldF c t (k : Nat) 2)) (heldF c t (k : Nat) 3) < 0 := of_decide_eq_false h3
   have m1 := min2_le (min2 (min2 (heldF c t (k : Nat) 0) (heldF c t (k : Nat) 1)) (heldF c t (k : Nat) 2)) (heldF c t (k : Nat) 3)
   have m2 := min2_le (min2 (heldF c t (k : Nat) 0) (heldF c t (k : Nat) 1)) (heldF c t (k : Nat) 2)
   have m3 := min2_le (heldF c t (k : Nat) 0) (heldF c t (k : Nat) 1)
   exact hn [none] hlt (step_all hA (lt4 (p := fun i => 0 ≤ heldF c t (k : Nat) i) (by omega) (by omega) (by omega) (by omega)))
 ·have hge : k = 12 := by have := of_decide_eq_false h1; omega
  subst hge
  refine he _ _ _ (ret_tree X15_ok (doneK_ok rfl) (x93 _ _ _ _ _ _) ?_)
  simp only [holds]
  have hfb : fitsB c t = true := by
   simp only [fitsB, decide_eq_true_eq]
   exact hA
  rw [kEnd_good hA]
  exact ⟨by rw [hfb]; rfl, _, rfl⟩
def Wc : Option Blk := some (.box [.ptr 1 0 0])
def Yb : Option Blk := some (.box [.yl 7])
def Cb : Option Blk := some (.box [.fn (.func 112) [] [.ptr 6 0 0, .ptr 10 0 0, .ptr 9 0 0, .ptr 11 0 0]])
def HI (c : Cmp) (km : List (Int × Int × Int)) (b2 b3 b4 b5 b7 b8 : Option Blk) (t : Tru) (rest : Heap) : Heap := Wk c km (b2 :: b3 :: b4 :: b5 :: Wc :: b7 :: b8 :: Yb :: some (.box [.d (.sl false t.sold.length (enc eI t.sold)), .d (.sl false t.deliv.length (enc eI t.deliv))]) :: Cb :: rest)
def ent93At (c : Cmp) (km : List (Int × Int × Int)) (t : Tru) (rest : Heap) : Ent := fun args h => some (args = [.ptr 1 0 0, Uv t] ∧ h = Wk c km rest ∧ faultM c = 0 ∧ t.sold.length = c.trades.length ∧ t.deliv.length = c.trades.length ∧ kmOk c km, vb (fitsB c t), some (Wk c (kmF c t km (kEnd c t)) rest))
theorem ent93At_ok (c : Cmp) (km : List (Int × Int × Int)) (t : Tru) (rest : Heap) : EntOk Try.prog 93 (ent93At c km t rest) := by
 intro args h p v ho he hp
 cases he
 obtain ⟨rfl, rfl, h1, h2, h3, h4⟩ := hp
 exact more_W rfl rfl (a93k c t km h1 h2 h3 h4) rest
theorem q95 : FunIs Try.prog 95 G95 c95 r95 := ⟨Try.f95, Try.func95, k95, e95, by kernel_rfl, by kernel_rfl⟩
theorem q111 : FunIs Try.prog 111 G111 c111 r111 := ⟨Try.f111, Try.func111, k111, e111, by kernel_rfl, by kernel_rfl⟩
theorem q112 : FunIs Try.prog 112 G112 c112 r112 := ⟨Try.f112, Try.func112, k112, e112, by kernel_rfl, by kernel_rfl⟩
def X112 (c : Cmp) (km : List (Int × Int × Int)) (t : Tru) (rest : Heap) : Sx := { sp := spAdd 93 (ent93At c km t rest) spNil, md := fun t => bif Nat.beq t 27 then 1 else bif Nat.beq t 82 then 1 else 0, sh := shI }
theorem X112_ok (c : Cmp) (km : List (Int × Int × Int)) (t : Tru) (rest : Heap) : SpOk Try.prog (X112 c km t rest).sp := spAdd_ok (ent93At_ok c km t rest) (spNil_ok _)
theorem w112 (c : Cmp) (km : List (Int × Int × Int)) (b2 b3 b4 b5 b7 b8 : Option Blk) (t : Tru) (i : Nat) : sx (X112 c km t (b2 :: b3 :: b4 :: b5 :: Wc :: b7 :: b8 :: Yb :: some (.box [.d (.sl false t.sold.length (enc eI t.sold)), .d (.sl false t.deliv.length (enc eI t.deliv))]) :: Cb :: [])) c112 [] (doneK r112) (envOf [vi i, .ptr 6 0 0, .ptr 10 0 0, .ptr 9 0 0, .ptr 11 0 0]) [] (HI c km b2 b3 b4 b5 b7 b8 t []) =
  let y7_ := (Cmp.trades c)
  let y3_ := (enc eT y7_)
  let y0_ := (Blk.box [V.d (D.int .i64 (Cmp.houses c)), V.d (D.sl false (List.length (Cmp.held c)) (enc eI (Cmp.held c))), V.d (D.sl false (List.length y7_) y3_), V.d (D.sl false (List.length (Cmp.divs c)) (enc eV (Cmp.divs c))), V.d (D.sl false (List.length (Cmp.splits c)) (enc eS (Cmp.splits c))), V.d (D.sl false (List.length (Cmp.closed c)) (enc eR (Cmp.closed c))), V.mp 0])
  let y5_ := (D.sl false (List.length (Tru.deliv t)) (enc eI (Tru.deliv t)))
  let y6_ := (D.sl false (List.length (Tru.sold t)) (enc eI (Tru.sold t)))
  let y1_ := (Blk.box [V.d y6_, V.d y5_])
  let y4_ := (Blk.box [V.fn (Fn.func 112) [] [V.ptr 6 0 0, V.ptr 10 0 0, V.ptr 9 0 0, V.ptr 11 0 0]])
  let y2_ := [some (Blk.map (List.map entE (kmF c t km (kEnd c t)))), some y0_, b2, b3, b4, b5, some (Blk.box [V.ptr 1 0 0]), b7, b8, some (Blk.box [V.yl 7]), some y1_, some y4_]
  let y8_ := (D.int .i64 (cI y3_ 7 (Int.ofNat i) 3))
  Tr.br (Int.ofNat i == Int.ofNat (List.length y7_)) (Tr.need ([V.ptr 1 0 0, Uv t] = [V.ptr 1 0 0, Uv t] ∧ HI c km b2 b3 b4 b5 b7 b8 t [] = Wk c km [b2, b3, b4, b5, Wc, b7, b8, Yb, some y1_, Cb] ∧ faultM c = (0 : Int) ∧ List.length (Tru.sold t) = List.length y7_ ∧ List.length (Tru.deliv t) = List.length y7_ ∧ kmOk c km) (Tr.br (!fitsB c t) (Tr.done (V.d (D.bool true)) y2_) (Tr.clB false (V.yl 7) [Uv t] y2_ fun b h' => Tr.done (V.d (D.bool b)) h'))) (Tr.need ((0 : Int) ≤ Int.ofNat i ∧ Int.ofNat i < Int.ofNat (List.length y7_) ∧ okEl [0, 0, 0, 0, 0, 0, 0] y3_ 7 (Int.ofNat i)) (Tr.lp (CCode.at c112 [1, 1, 1, 1, 0, 1, 0, 0]) [Fr.blk 0, Fr.seq (CCode.at c112 [1, 1, 1, 1, 1])] [(0, V.d (D.int .i64 (Int.ofNat i))), (2, V.ptr 10 0 0), (4, V.ptr 11 0 0), (7, V.ptr 12 0 0), (8, V.d y6_), (9, V.d y5_), (10, V.d y8_)] [some (Blk.map (List.map entE km)), some y0_, b2, b3, b4, b5, some (Blk.box [V.ptr 1 0 0]), b7, b8, some (Blk.box [V.yl 7]), some y1_, some y4_, some (Blk.box [V.d (D.int .i64 (cI y3_ 7 (Int.ofNat i) 0)), V.d (D.int .i64 (cI y3_ 7 (Int.ofNat i) 1)), V.d (D.int .i64 (cI y3_ 7 (Int.ofNat i) 2)), V.d y8_, V.d (D.int .i64 (cI y3_ 7 (Int.ofNat i) 4)), V.d (D.int .i64 (cI y3_ 7 (Int.ofNat i) 5)), V.d (D.int .i64 (cI y3_ 7 (Int.ofNat i) 6))])])) := by kernel_rfl
def XY : Sx := { sp := spNil, md := fun t => bif Nat.beq t 82 then 1 else 0, sh := shI }
theorem XY_ok : SpOk Try.prog XY.sp := spNil_ok _
def Xb (x : Trd) : Option Blk := some (.box [vi x.seller, vi x.buyer, vi x.shares, vi x.sold.lo, vi x.sold.hi, vi x.deliv.lo, vi x.deliv.hi])
def E112 (i : Nat) (u : Tru) (s : Int) : Env := [(0, vi i), (2, .ptr 10 0 0), (4, .ptr 11 0 0), (7, .ptr 12 0 0), (8, .d (.sl false u.sold.length (enc eI u.sold))), (9, .d (.sl false u.deliv.length (enc eI u.deliv))), (10, vi s)]
theorem b112 (c : Cmp) (km : List (Int × Int × Int)) (b2 b3 b4 b5 b7 b8 : Option Blk) (u t : Tru) (x : Trd) (i : Nat) (s : Int) : sx XY (CCode.at c112 [1,1,1,1,0,1,0,0]) [] leafK (E112 i u s) [] (HI c km b2 b3 b4 b5 b7 b8 t [Xb x]) =
  let x1_ := (decide (s ≤ Rng.hi (Trd.sold x)))
  let x2_ := [some (Blk.map (List.map entE km)), some (Blk.box [V.d (D.int .i64 (Cmp.houses c)), V.d (D.sl false (List.length (Cmp.held c)) (enc eI (Cmp.held c))), V.d (D.sl false (List.length (Cmp.trades c)) (enc eT (Cmp.trades c))), V.d (D.sl false (List.length (Cmp.divs c)) (enc eV (Cmp.divs c))), V.d (D.sl false (List.length (Cmp.splits c)) (enc eS (Cmp.splits c))), V.d (D.sl false (List.length (Cmp.closed c)) (enc eR (Cmp.closed c))), V.mp 0]), b2, b3, b4, b5, some (Blk.box [V.ptr 1 0 0]), b7, b8, some (Blk.box [V.yl 7]), some (Blk.box [V.d (D.sl false (List.length (Tru.sold t)) (enc eI (Tru.sold t))), V.d (D.sl false (List.length (Tru.deliv t)) (enc eI (Tru.deliv t)))]), some (Blk.box [V.fn (Fn.func 112) [] [V.ptr 6 0 0, V.ptr 10 0 0, V.ptr 9 0 0, V.ptr 11 0 0]]), some (Blk.box [V.d (D.int .i64 (Trd.seller x)), V.d (D.int .i64 (Trd.buyer x)), V.d (D.int .i64 (Trd.shares x)), V.d (D.int .i64 (Rng.lo (Trd.sold x))), V.d (D.int .i64 (Rng.hi (Trd.sold x))), V.d (D.int .i64 (Rng.lo (Trd.deliv x))), V.d (D.int .i64 (Rng.hi (Trd.deliv x)))])]
  let y0_ := (9, V.d (D.sl false (List.length (Tru.deliv u)) (enc eI (Tru.deliv u))))
  let y1_ := (8, V.d (D.sl false (List.length (Tru.sold u)) (enc eI (Tru.sold u))))
  let y2_ := (0, V.d (D.int .i64 (Int.ofNat i)))
  Tr.br x1_ (Tr.lp (CCode.at c112 [1, 1, 1, 1, 0, 1, 0, 0, 1, 0, 0, 1, 0, 0]) [Fr.blk 2, Fr.blk 1, Fr.seq (CCode.at c112 [1, 1, 1, 1, 0, 1, 0, 0, 1, 1])] [y2_, (2, V.ptr 10 0 0), (4, V.ptr 11 0 0), (7, V.ptr 12 0 0), y1_, y0_, (10, V.d (D.int .i64 s)), (11, V.d (D.int .i64 (max2 s (Rng.lo (Trd.deliv x)))))] x2_) (Tr.leaf (CExit.exit 0) [y2_, (2, V.ptr 10 0 0), (4, V.ptr 11 0 0), (7, V.ptr 12 0 0), y1_, y0_, (10, V.d (D.int .i64 s)), (48, V.d (D.bool x1_))] x2_) := by kernel_rfl
theorem b112i (c : Cmp) (km : List (Int × Int × Int)) (b2 b3 b4 b5 b7 b8 : Option Blk) (u t : Tru) (x : Trd) (i : Nat) (s d : Int) : sx XY (CCode.at c112 [1,1,1,1,0,1,0,0,1,0,0,1,0,0]) [] leafK (E112 i u s ++ [(11, vi d)]) [] (HI c km b2 b3 b4 b5 b7 b8 t [Xb x]) =
  let y0_ := (Blk.box [V.d (D.int .i64 (Cmp.houses c)), V.d (D.sl false (List.length (Cmp.held c)) (enc eI (Cmp.held c))), V.d (D.sl false (List.length (Cmp.trades c)) (enc eT (Cmp.trades c))), V.d (D.sl false (List.length (Cmp.divs c)) (enc eV (Cmp.divs c))), V.d (D.sl false (List.length (Cmp.splits c)) (enc eS (Cmp.splits c))), V.d (D.sl false (List.length (Cmp.closed c)) (enc eR (Cmp.closed c))), V.mp 0])
  let y1_ := (Blk.box [V.d (D.int .i64 (Trd.seller x)), V.d (D.int .i64 (Trd.buyer x)), V.d (D.int .i64 (Trd.shares x)), V.d (D.int .i64 (Rng.lo (Trd.sold x))), V.d (D.int .i64 (Rng.hi (Trd.sold x))), V.d (D.int .i64 (Rng.lo (Trd.deliv x))), V.d (D.int .i64 (Rng.hi (Trd.deliv x)))])
  let y2_ := (Int.toNat (Int.ofNat i) - Int.toNat (0 : Int))
  let y3_ := (Int.toNat (Int.ofNat i) - Int.toNat (0 : Int) + 1)
  let y4_ := [V.ptr 6 0 0, V.ptr 10 0 0, V.ptr 9 0 0, V.ptr 11 0 0]
  let y5_ := (enc eI (Tru.deliv u))
  let y6_ := (enc eI (Tru.sold u))
  let y7_ := (Int.toNat (0 : Int) * 1)
  let y8_ := (9, V.d (D.sl false (List.length (Tru.deliv u)) y5_))
  let y9_ := (8, V.d (D.sl false (List.length (Tru.sold u)) y6_))
  let y10_ := (decide (d ≤ Rng.hi (Trd.deliv x)))
  let y11_ := (Blk.box [V.fn (Fn.func 112) [] y4_])
  Tr.br y10_ (Tr.need (DP.P (dp (List.length y6_ = List.length (Tru.sold u) * 1 ∧ (0 : Int) ≤ (0 : Int) ∧ (0 : Int) ≤ Int.ofNat i ∧ Int.ofNat i = Int.ofNat i ∧ Int.ofNat i ≤ Int.ofNat (List.length (Tru.sold u)) ∧ Option.isSome (some (Operand.tmp (64 : Tmp))) = true))) (Tr.need (DP.P (dp (List.length [D.int .i64 s] = 1 * 1 ∧ true = true ∧ List.length (List.take (y2_ * 1) (List.drop y7_ y6_)) = y2_ * 1 ∧ Int.toNat (Int.ofNat i) - Int.toNat (0 : Int) + 1 ≤ 140737488355328 ∧ y3_ * 8 ≤ 140737488355328))) (Tr.need (DP.P (dp (List.length y5_ = List.length (Tru.deliv u) * 1 ∧ (0 : Int) ≤ (0 : Int) ∧ (0 : Int) ≤ Int.ofNat i ∧ Int.ofNat i = Int.ofNat i ∧ Int.ofNat i ≤ Int.ofNat (List.length (Tru.deliv u)) ∧ Option.isSome (some (Operand.tmp (71 : Tmp))) = true))) (Tr.need (DP.P (dp (List.length [D.int .i64 d] = 1 * 1 ∧ true = true ∧ List.length (List.take (y2_ * 1) (List.drop y7_ y5_)) = y2_ * 1 ∧ Int.toNat (Int.ofNat i) - Int.toNat (0 : Int) + 1 ≤ 140737488355328 ∧ y3_ * 8 ≤ 140737488355328))) (Tr.need (-9223372036854775808 ≤ Int.ofNat i + (1 : Int) ∧ Int.ofNat i + (1 : Int) ≤ 9223372036854775807) (Tr.clB false (V.fn (Fn.func 112) [] y4_) [V.d (D.int .i64 (Int.ofNat i + (1 : Int)))] [some (Blk.map (List.map entE km)), some y0_, b2, b3, b4, b5, some (Blk.box [V.ptr 1 0 0]), b7, b8, some (Blk.box [V.yl 7]), some (Blk.box [V.d (D.sl false y3_ (List.take (y2_ * 1) (List.drop y7_ y6_) ++ [D.int .i64 s])), V.d (D.sl false y3_ (List.take (y2_ * 1) (List.drop y7_ y5_) ++ [D.int .i64 d]))]), some y11_, some y1_] fun b h' => Tr.br (!b) (Tr.leaf CExit.ret [(6, V.d (D.bool false))] h') (Tr.need (-9223372036854775808 ≤ d + (1 : Int) ∧ d + (1 : Int) ≤ 9223372036854775807) (Tr.leaf CExit.normal [(0, V.d (D.int .i64 (Int.ofNat i))), (2, V.ptr 10 0 0), (4, V.ptr 11 0 0), (7, V.ptr 12 0 0), y9_, y8_, (10, V.d (D.int .i64 s)), (11, V.d (D.int .i64 (d + (1 : Int))))] h')))))))) (Tr.leaf (CExit.exit 2) [(0, V.d (D.int .i64 (Int.ofNat i))), (2, V.ptr 10 0 0), (4, V.ptr 11 0 0), (7, V.ptr 12 0 0), y9_, y8_, (10, V.d (D.int .i64 s)), (11, V.d (D.int .i64 d)), (60, V.d (D.bool y10_))] [some (Blk.map (List.map entE km)), some y0_, b2, b3, b4, b5, some (Blk.box [V.ptr 1 0 0]), b7, b8, some (Blk.box [V.yl 7]), some (Blk.box [V.d (D.sl false (List.length (Tru.sold t)) (enc eI (Tru.sold t))), V.d (D.sl false (List.length (Tru.deliv t)) (enc eI (Tru.deliv t)))]), some y11_, some y1_]) := by kernel_rfl
theorem x112 (i : Nat) (u v w : V) (a b d : V) (s : Int) (z : Bool) (h : Heap) : sS XY (doneK r112) [Fr.blk 0, Fr.seq (CCode.at c112 [1,1,1,1,1])] (.exit 0) [(0, a), (2, b), (4, d), (7, u), (8, v), (9, w), (10, vi s), (48, vb z)] [] h =
  Tr.done (V.d (D.bool true)) h := by kernel_rfl
theorem x112i (i : Nat) (u : Tru) (s d : Int) (z : Bool) (h : Heap) : sS XY leafK [Fr.blk 2, Fr.blk 1, Fr.seq (CCode.at c112 [1,1,1,1,0,1,0,0,1,1])] (.exit 2) (E112 i u s ++ [(11, vi d), (60, vb z)]) [] h =
  Tr.need (-9223372036854775808 ≤ s + (1 : Int) ∧ s + (1 : Int) ≤ 9223372036854775807) (Tr.leaf CExit.normal [(0, V.d (D.int .i64 (Int.ofNat i))), (2, V.ptr 10 0 0), (4, V.ptr 11 0 0), (7, V.ptr 12 0 0), (8, V.d (D.sl false (List.length (Tru.sold u)) (enc eI (Tru.sold u)))), (9, V.d (D.sl false (List.length (Tru.deliv u)) (enc eI (Tru.deliv u)))), (10, V.d (D.int .i64 (s + (1 : Int))))] h) := by kernel_rfl
theorem t112 (b : Bool) (h : Heap) : sS XY (doneK r112) [Fr.blk 0, Fr.seq (CCode.at c112 [1,1,1,1,1])] .ret [(6, vb b)] [] h =
  Tr.done (V.d (D.bool b)) h := by kernel_rfl
end
end Go.Proofs.Ytdnefcjbcieecaa
namespace Go.Proofs.Ytdnefcjbcieecaa
open Go Go.Proofs
noncomputable section
def Tru.snoc (t : Tru) (s d : Int) : Tru := ⟨t.sold ++ [s], t.deliv ++ [d]⟩
def upto (a b : Int) : List Int := (List.range (b + 1 - a).toNat).map fun k => a + (k : Nat)
theorem upto_nil {a b : Int} (h : ¬ a ≤ b) : upto a b = [] := by
 have : (b + 1 - a).toNat = 0 := by omega
 simp [upto, this]
theorem upto_cons {a b : Int} (h : a ≤ b) : upto a b = a :: upto (a + 1) b := by
 have e : (b + 1 - a).toNat = (b + 1 - (a + 1)).toNat + 1 := by omega
 unfold upto
 rw [e, List.range_succ_eq_map, List.map_cons, List.map_map]
 congr 1
 ·simp
 ·refine List.map_congr_left fun k _ => ?_
  show a + ((k + 1 : Nat) : Int) = a + 1 + (k : Nat)
  omega
def comp (c : Cmp) : List Trd → Tru → List Tru
 | [], t => [t]
 | x :: xs, t => (upto x.sold.lo x.sold.hi).flatMap fun s => (upto (max2 s x.deliv.lo) x.deliv.hi).flatMap fun d => comp c xs (t.snoc s d)
section
variable {S : Type} (step : Tru → S → Bool × S)
def runY : List Tru → S → Bool × S
 | [], s => (true, s)
 | t :: l, s => if (step t s).1 = true then runY l (step t s).2 else (false, (step t s).2)
theorem runY_append (a b : List Tru) (s : S) : runY step (a ++ b) s = if (runY step a s).1 = true then runY step b (runY step a s).2 else (false, (runY step a s).2) := by
 induction a generalizing s with
 | nil => simp [runY]
 | cons t a ih =>
  simp only [List.cons_append, runY]
  split
  ·exact ih _
  ·simp
end
theorem snoc_lat {l : List Int} {x : Int} {k : Nat} (h : k < l.length) : lat (l ++ [x]) (k : Nat) = lat l (k : Nat) := by
 have h2 : k < (l ++ [x]).length := by simp; omega
 simp [lat, List.getD, h, List.getElem?_append_left]
theorem snoc_last {l : List Int} {x : Int} {k : Nat} (h : k = l.length) : lat (l ++ [x]) (k : Nat) = x := by
 subst h
 simp [lat, List.getD]
theorem datK_snoc {c : Cmp} {t : Tru} {s d : Int} {i : Nat} (hs : t.sold.length = i) (hd : t.deliv.length = i) (h : ∀ k, k < i → datK c t k = true) (h1 : (lat c.trades (i : Nat)).sold.has s = true) (h2 : (lat c.trades (i : Nat)).deliv.has d = true) (h3 : s ≤ d) :
  ∀ k, k < i + 1 → datK c (t.snoc s d) k = true := by
 intro k hk
 rcases Nat.lt_or_ge k i with g | g
 ·have := h k g
  unfold datK at this ⊢
  have e1 : lat (t.snoc s d).sold (k : Nat) = lat t.sold (k : Nat) := snoc_lat (by omega)
  have e2 : lat (t.snoc s d).deliv (k : Nat) = lat t.deliv (k : Nat) := snoc_lat (by omega)
  rw [e1, e2]; exact this
 ·have e : k = i := by omega
  subst e
  have e1 : lat (t.snoc s d).sold (k : Nat) = s := snoc_last hs.symm
  have e2 : lat (t.snoc s d).deliv (k : Nat) = d := snoc_last hd.symm
  unfold datK
  rw [e1, e2, h1, h2]
  simpa using h3
structure Cons (S : Type) where
 c : Cmp
 step : Tru → S → Bool × S
 A : Bool → S → Prop
 b2 : S → Option Blk
 b3 : S → Option Blk
 b4 : S → Option Blk
 b5 : S → Option Blk
 b7 : S → Option Blk
 b8 : S → Option Blk
 kmY : Tru → List (Int × Int × Int) → List (Int × Int × Int)
def Cons.H {S : Type} (K : Cons S) (km : List (Int × Int × Int)) (s : S) (t : Tru) (rest : Heap) : Heap := HI K.c km (K.b2 s) (K.b3 s) (K.b4 s) (K.b5 s) (K.b7 s) (K.b8 s) t rest
def Cons.P {S : Type} (K : Cons S) (r : Bool × List (Int × Int × Int) × S) (v : V) (h : Heap) : Prop := v = vb r.1 ∧ K.A r.1 r.2.2 ∧ kmOk K.c r.2.1 ∧ ∃ t J, h = K.H r.2.1 r.2.2 t J
def Cons.stepZ {S : Type} (K : Cons S) (t : Tru) (s : List (Int × Int × Int) × S) : Bool × List (Int × Int × Int) × S :=
 if fitsB K.c t = true then ((K.step t s.2).1, K.kmY t (kmF K.c t s.1 (kEnd K.c t)), (K.step t s.2).2) else (true, kmF K.c t s.1 (kEnd K.c t), s.2)
structure Cons.Ok {S : Type} (K : Cons S) : Prop where
 fault : faultM K.c = 0
 bel : ∀ b s, K.A b s → [K.b2 s, K.b3 s, K.b4 s, K.b5 s, K.b7 s, K.b8 s].all (blkBel 12) = true
 yl : ∀ t s km, K.A true s → kmOk K.c km → datedB K.c t = true → fitsB K.c t = true → AYield Try.prog 7 [Uv t] (K.H km s t []) (K.P ((K.step t s).1, K.kmY t km, (K.step t s).2))
theorem mono0 {n m : Nat} (h : n ≤ m) {v : V} (hv : bel0 n v = true) : bel0 m v = true := by
 cases v <;> simp_all [bel0] <;> omega
theorem monoA {n m : Nat} (h : n ≤ m) {v : V} (hv : belA n v = true) : belA m v = true := by
 cases v <;> simp only [belA, List.all_eq_true] at hv ⊢ <;> first
  | exact fun x hx => mono0 h (hv x hx)
  | exact mono0 h hv
theorem mono1 {n m : Nat} (h : n ≤ m) {v : V} (hv : bel1 n v = true) : bel1 m v = true := by
 cases v <;> simp only [bel1, List.all_eq_true] at hv ⊢ <;> first
  | exact fun x hx => mono0 h (hv x hx)
  | exact mono0 h hv
  | (simp only [Bool.and_eq_true, List.all_eq_true] at hv ⊢; exact ⟨fun x hx => monoA h (hv.1 x hx), fun x hx => monoA h (hv.2 x hx)⟩)
theorem mono2 {n m : Nat} (h : n ≤ m) {v : V} (hv : bel2 n v = true) : bel2 m v = true := by
 cases v <;> simp only [bel2, List.all_eq_true] at hv ⊢ <;> first
  | exact fun x hx => mono1 h (hv x hx)
  | exact mono1 h hv
theorem blk_mono {n m : Nat} (h : n ≤ m) {b : Option Blk} (hv : blkBel n b = true) : blkBel m b = true := by
 cases b with
 | none => rfl
 | some b => cases b <;> simp only [blkBel, List.all_eq_true] at hv ⊢ <;> first
  | exact fun x hx => mono1 h (hv x hx)
  | exact fun x hx => mono2 h (hv x hx)
  | (intro x hx; have := hv x hx; simp only [Bool.and_eq_true] at this ⊢; exact ⟨mono1 h this.1, mono1 h this.2⟩)
section
variable {S : Type} {K : Cons S} (hK : K.Ok)
include hK
theorem Cons.H_bel {b : Bool} {s : S} (hA : K.A b s) (km : List (Int × Int × Int)) (t : Tru) {n : Nat} (rest : Heap) (hn : 12 ≤ n) (hr : rest.all (blkBel n) = true) : (K.H km s t rest).all (blkBel n) = true := by
 have hb := hK.bel b s hA
 simp only [List.all_cons, List.all_nil, Bool.and_true, Bool.and_eq_true] at hb
 obtain ⟨h2, h3, h4, h5, h7, h8⟩ := hb
 refine Wk_belr _ _ _ n (by omega) ?_
 have e : ∀ k, k < 12 → Nat.blt k n = true := fun k hk => by rw [Nat.blt_eq]; omega
 simp only [List.all_cons, blk_mono hn h2, blk_mono hn h3, blk_mono hn h4, blk_mono hn h5, blk_mono hn h7, blk_mono hn h8, hr, Bool.and_true, Bool.true_and]
 simp [Wc, Yb, Cb, blkBel, bel1, belA, bel0, e]
theorem Cons.more {km : List (Int × Int × Int)} {s : S} {t : Tru} {args : List V} {r : Bool × List (Int × Int × Int) × S} (hA : K.A true s) (ha : args.all (bel2 12) = true) (hc : ACalls Try.prog 112 args (K.H km s t []) (K.P r)) (rest : Heap) :
  ACalls Try.prog 112 args (K.H km s t rest) fun v h => v = vb r.1 ∧ K.A r.1 r.2.2 ∧ kmOk K.c r.2.1 ∧ ∃ t, h = K.H r.2.1 r.2.2 t rest := by
 have h2 := ACalls.more (h0 := K.H km s t []) (R := fun v k => v = vb r.1 ∧ K.A r.1 r.2.2 ∧ kmOk K.c r.2.1 ∧ ∃ t, k = K.H r.2.1 r.2.2 t []) ha (Cons.H_bel hK hA km t [] (Nat.le_refl _) rfl) (hc.mono fun v h1 hh => by
  obtain ⟨rfl, hA', hkm, t', J, rfl⟩ := hh
  have e : (K.H r.2.1 r.2.2 t' J).take (K.H km s t []).length = K.H r.2.1 r.2.2 t' [] := rfl
  rw [e]
  exact ⟨rfl, Cons.H_bel hK hA' _ t' [] (Nat.le_refl _) rfl, rfl, hA', hkm, t', rfl⟩) rest
 refine h2.mono fun v h1 hh => ?_
 obtain ⟨k, _, ⟨e1, hA', hkm, t', e2⟩, e3⟩ := hh
 refine ⟨e1, hA', hkm, t', ?_⟩
 rw [e3, e2]; rfl
theorem a112 : ∀ (k i : Nat) (t : Tru) (s : S) (km : List (Int × Int × Int)), i + k = K.c.trades.length → t.sold.length = i → t.deliv.length = i → (∀ j, j < i → datK K.c t j = true) → K.A true s → kmOk K.c km →
  ACalls Try.prog 112 [vi i, .ptr 6 0 0, .ptr 10 0 0, .ptr 9 0 0, .ptr 11 0 0] (K.H km s t []) (K.P (runY K.stepZ (comp K.c (K.c.trades.drop i) t) (km, s))) := by
 have hf := hK.fault
 have hbs := (fault_ok hf).1
 intro k
 induction k with
 | zero =>
  intro i t s km hi hs hd hdat hA hkm
  refine q112.calls (X112_ok K.c km t (K.b2 s :: K.b3 s :: K.b4 s :: K.b5 s :: Wc :: K.b7 s :: K.b8 s :: Yb :: some (.box [.d (.sl false t.sold.length (enc eI t.sold)), .d (.sl false t.deliv.length (enc eI t.deliv))]) :: Cb :: [])) rfl (w112 K.c km _ _ _ _ _ _ t i) ?_
  simp only [holds, Int.ofNat_eq_natCast]
  have hdr : K.c.trades.drop i = [] := List.drop_eq_nil_of_le (by omega)
  rw [hdr]
  simp only [comp]
  refine ⟨fun _ => ⟨⟨trivial, rfl, hf, by omega, by omega, hkm⟩, fun h => ?_, fun h => ?_⟩, fun h => ?_⟩
  ·have h : fitsB K.c t = false := by simpa using h
   have ez : runY K.stepZ [t] (km, s) = (true, kmF K.c t km (kEnd K.c t), s) := by simp [runY, Cons.stepZ, h]
   rw [ez]
   exact ⟨rfl, hA, kmF_ok hkm t _, t, [], rfl⟩
  ·have h : fitsB K.c t = true := by simpa using h
   have ez : runY K.stepZ [t] (km, s) = ((K.step t s).1, K.kmY t (kmF K.c t km (kEnd K.c t)), (K.step t s).2) := by
    simp only [runY, Cons.stepZ, h, if_true]
    cases hb : (K.step t s).1 <;> simp
   rw [ez]
   have hy := hK.yl t s (kmF K.c t km (kEnd K.c t)) hA (kmF_ok hkm t _) (decide_eq_true ⟨by omega, by omega, fun j hj => hdat j (by omega)⟩) h
   refine callV_holds (K := K.P ((K.step t s).1, K.kmY t (kmF K.c t km (kEnd K.c t)), (K.step t s).2)) ?_ hy
   rintro v h' ⟨rfl, hh⟩
   exact ⟨(K.step t s).1, rfl, fun e => (by cases e), rfl, hh⟩
  ·have : (i : Int) ≠ K.c.trades.length := by simpa using h
   omega
 | succ k ih =>
  intro i t s km hi hs hd hdat hA hkm
  have hlt : i < K.c.trades.length := by omega
  have htr := trade_in hf hlt
  have hdr : K.c.trades.drop i = lat K.c.trades (i : Nat) :: K.c.trades.drop (i + 1) := by
   rw [List.drop_eq_getElem_cons hlt]
   congr 1
   simp [lat, List.getD, hlt]
  generalize hx : lat K.c.trades (i : Nat) = x at *
  have hb1 : 0 ≤ x.sold.lo ∧ x.sold.hi ≤ 11 ∧ 0 ≤ x.deliv.lo ∧ x.deliv.hi ≤ 11 := by
   simp only [okTr, Bool.and_eq_true, Rng.short, Rng.days, Rng.has, inR, isDay, decide_eq_true_eq] at htr
   omega
  refine q112.calls (X112_ok K.c km t (K.b2 s :: K.b3 s :: K.b4 s :: K.b5 s :: Wc :: K.b7 s :: K.b8 s :: Yb :: some (.box [.d (.sl false t.sold.length (enc eI t.sold)), .d (.sl false t.deliv.length (enc eI t.deliv))]) :: Cb :: [])) rfl (w112 K.c km _ _ _ _ _ _ t i) ?_
  simp only [holds, Int.ofNat_eq_natCast, cI_T0, cI_T1, cI_T2, cI_T3, cI_T4, cI_T5, cI_T6, hx]
  refine ⟨fun h => ?_, fun _ => ⟨⟨by omega, by omega, ok_T (by omega)⟩, ?_⟩⟩
  ·have : (i : Int) = K.c.trades.length := by simpa using h
   omega
  rw [hdr]
  simp only [comp]
  generalize hF : (fun sd => (upto (max2 sd x.deliv.lo) x.deliv.hi).flatMap fun d => comp K.c (K.c.trades.drop (i + 1)) (t.snoc sd d)) = F
  generalize htot : runY K.stepZ ((upto x.sold.lo x.sold.hi).flatMap F) (km, s) = tot
  refine lp_state (S := Int × List (Int × Int × Int) × Tru × S) XY_ok (fun σ => (x.sold.hi + 1 - σ.1).toNat) (fun σ => x.sold.lo ≤ σ.1 ∧ kmOk K.c σ.2.1 ∧ K.A true σ.2.2.2 ∧ runY K.stepZ ((upto σ.1 x.sold.hi).flatMap F) (σ.2.1, σ.2.2.2) = tot)
   (fun σ => E112 i t σ.1) (fun σ => K.H σ.2.1 σ.2.2.2 σ.2.2.1 [Xb x]) (x.sold.lo, km, t, s) rfl rfl ⟨Int.le_refl _, hkm, hA, htot⟩ (fun σ hσ => ⟨rfl, rfl, Cons.H_bel hK hσ.2.2.1 _ _ _ (show 12 ≤ 13 by decide) rfl⟩) ?_
  rintro ⟨sd, km1, t1, s1⟩ ⟨hlo, hkm1, hA1, hr1⟩ Q' hn he hr
  simp only at hlo hkm1 hA1 hr1
  show holds _ _ _ _ _ (sx XY _ [] leafK (E112 i t sd) [] (HI K.c km1 (K.b2 s1) (K.b3 s1) (K.b4 s1) (K.b5 s1) (K.b7 s1) (K.b8 s1) t1 [Xb x]))
  rw [b112]
  simp only [holds]
  refine ⟨fun e1 => ?_, fun e1 => ?_⟩
  ·have e1 := of_decide_eq_true e1
   rw [upto_cons e1, List.flatMap_cons, runY_append] at hr1
   have hFs : F sd = (upto (max2 sd x.deliv.lo) x.deliv.hi).flatMap fun d => comp K.c (K.c.trades.drop (i + 1)) (t.snoc sd d) := by rw [← hF]
   rw [hFs] at hr1
   generalize htin : runY K.stepZ ((upto (max2 sd x.deliv.lo) x.deliv.hi).flatMap fun d => comp K.c (K.c.trades.drop (i + 1)) (t.snoc sd d)) (km1, s1) = tin at hr1
   refine lp_state (S := Int × List (Int × Int × Int) × Tru × S) XY_ok (fun σ => (x.deliv.hi + 1 - σ.1).toNat) (fun σ => max2 sd x.deliv.lo ≤ σ.1 ∧ kmOk K.c σ.2.1 ∧ K.A true σ.2.2.2 ∧ runY K.stepZ ((upto σ.1 x.deliv.hi).flatMap fun d => comp K.c (K.c.trades.drop (i + 1)) (t.snoc sd d)) (σ.2.1, σ.2.2.2) = tin)
    (fun σ => E112 i t sd ++ [(11, vi σ.1)]) (fun σ => K.H σ.2.1 σ.2.2.2 σ.2.2.1 [Xb x]) (max2 sd x.deliv.lo, km1, t1, s1) rfl rfl ⟨Int.le_refl _, hkm1, hA1, htin⟩ (fun σ hσ => ⟨rfl, rfl, Cons.H_bel hK hσ.2.2.1 _ _ _ (show 12 ≤ 13 by decide) rfl⟩) ?_
   rintro ⟨d, km2, t2, s2⟩ ⟨hlo2, hkm2, hA2, hr2⟩ Q'' hn2 he2 hrr2
   simp only at hlo2 hkm2 hA2 hr2
   show holds _ _ _ _ _ (sx XY _ [] leafK (E112 i t sd ++ [(11, vi d)]) [] (HI K.c km2 (K.b2 s2) (K.b3 s2) (K.b4 s2) (K.b5 s2) (K.b7 s2) (K.b8 s2) t2 [Xb x]))
   rw [b112i]
   simp only [holds]
   have hmx : sd ≤ max2 sd x.deliv.lo ∧ x.deliv.lo ≤ max2 sd x.deliv.lo := by unfold max2; split <;> omega
   refine ⟨fun e2 => ?_, fun e2 => ?_⟩
   ·have e2 := of_decide_eq_true e2
    rw [upto_cons e2, List.flatMap_cons, runY_append] at hr2
    have l1 : (enc eI t.sold).take i = enc eI t.sold := List.take_of_length_le (by simp; omega)
    have l2 : (enc eI t.deliv).take i = enc eI t.deliv := List.take_of_length_le (by simp; omega)
    have hsn : (t.snoc sd d).sold.length = i + 1 ∧ (t.snoc sd d).deliv.length = i + 1 := by simp [Tru.snoc, hs, hd]
    have hc := ih (i + 1) (t.snoc sd d) s2 km2 (by omega) hsn.1 hsn.2 (datK_snoc hs hd hdat (by rw [hx]; simp [Rng.has, inR]; omega) (by rw [hx]; simp [Rng.has, inR]; omega) (by omega)) hA2 hkm2
    have hc2 := Cons.more hK hA2 rfl hc [Xb x]
    generalize hrr : runY K.stepZ (comp K.c (K.c.trades.drop (i + 1)) (t.snoc sd d)) (km2, s2) = r at hc2 hr2
    simp only [dp, Int.ofNat_eq_natCast, Int.toNat_natCast, Int.toNat_zero, Nat.sub_zero, Nat.zero_mul, List.drop_zero, Nat.mul_one, l1, l2, len_I, hs, hd, true_and, Int.le_refl, Option.isSome_some, List.length_cons, List.length_nil, Nat.zero_add, and_true]
    have q1 : enc eI (t.snoc sd d).sold = enc eI t.sold ++ [D.int .i64 sd] := by simp only [Tru.snoc, enc_append, enc_one]; rfl
    have q2 : enc eI (t.snoc sd d).deliv = enc eI t.deliv ++ [D.int .i64 d] := by simp only [Tru.snoc, enc_append, enc_one]; rfl
    have eH : K.H km2 s2 (t.snoc sd d) [Xb x] = Wk K.c km2 (K.b2 s2 :: K.b3 s2 :: K.b4 s2 :: K.b5 s2 :: Wc :: K.b7 s2 :: K.b8 s2 :: Yb :: some (.box [.d (.sl false (i + 1) (enc eI t.sold ++ [D.int .i64 sd])), .d (.sl false (i + 1) (enc eI t.deliv ++ [D.int .i64 d]))]) :: Cb :: [Xb x]) := by
     simp only [Cons.H, HI, hsn.1, hsn.2, q1, q2]
    rw [eH] at hc2
    have e3 : ((i + 1 : Nat) : Int) = (i : Int) + 1 := by omega
    rw [e3] at hc2
    refine ⟨by omega, ⟨by omega, by omega⟩, by omega, ⟨by omega, by omega⟩, ⟨by omega, by omega⟩, ?_⟩
    refine callV_holds (K := fun v h => v = vb r.1 ∧ K.A r.1 r.2.2 ∧ kmOk K.c r.2.1 ∧ ∃ t, h = K.H r.2.1 r.2.2 t [Xb x]) ?_ hc2
    rintro v h' ⟨rfl, hA', hkm', t', rfl⟩
    refine ⟨r.1, rfl, fun e => (by cases e), fun hb => ?_, fun hb => ⟨⟨by omega, by omega⟩, ?_⟩⟩
    ·have hb : r.1 = false := by simpa using hb
     refine hrr2 _ _ (retS_ret (hr _ _ (ret_tree XY_ok (doneK_ok rfl) (t112 false _) ?_)))
     simp only [holds]
     rw [hb] at hr2
     have htn : tin = (false, r.2) := by rw [← hr2]; simp
     rw [htn] at hr1
     have htt : tot = (false, r.2) := by rw [← hr1]; simp
     rw [htt]
     rw [hb] at hA'
     exact ⟨rfl, hA', hkm', t', [Xb x], rfl⟩
    ·have hb : r.1 = true := by simpa using hb
     rw [hb] at hr2 hA'
     have := hn2 (d + 1, r.2.1, t', r.2.2) [] ⟨by simp only; omega, hkm', hA', by simpa using hr2⟩ (by simp only; omega)
     simp only [E112, hs, hd] at this
     exact this
   ·have e2 := of_decide_eq_false e2
    rw [upto_nil e2] at hr2
    refine he2 _ _ _ (ret_tree (R := fun _ _ => True) XY_ok leafK_ok (x112i i t sd d _ _) ?_)
    simp only [holds]
    refine ⟨⟨by omega, by omega⟩, hn (sd + 1, km2, t2, s2) [] ⟨by simp only; omega, hkm2, hA2, ?_⟩ (by simp only; omega)⟩
    have : tin = (true, km2, s2) := by rw [← hr2]; rfl
    rw [this] at hr1
    simpa using hr1
  ·have e1 := of_decide_eq_false e1
   rw [upto_nil e1] at hr1
   refine he _ _ _ (ret_tree XY_ok (doneK_ok rfl) (x112 i _ _ _ _ _ _ _ _ _) ?_)
   simp only [holds]
   have : tot = (true, km1, s1) := by rw [← hr1]; rfl
   rw [this]
   exact ⟨rfl, hA1, hkm1, t1, [Xb x], rfl⟩
end
end
end Go.Proofs.Ytdnefcjbcieecaa
namespace Go.Proofs.Ytdnefcjbcieecaa
open Go Go.Proofs
end Go.Proofs.Ytdnefcjbcieecaa
namespace Go.Proofs.Ytdnefcjbcieecaa
open Go Go.Proofs
noncomputable section
def eW (n : Int) : List D := [.int .u16 n]
@[simp] theorem len_W (l : List Int) : (enc eW l).length = l.length * 1 := enc_len (sz := 1) (f := eW) (fun _ => rfl) l
def wordM (ws : List Int) (k : Int) : Int := if ws.length = 0 then 0 else lat ws (k.tmod ws.length)
theorem wrap_i64 {n : Int} (h0 : -9223372036854775808 ≤ n) (h1 : n ≤ 9223372036854775807) : IntKind.wrap .i64 n = n := by
 simp only [IntKind.wrap, IntKind.signed, IntKind.bits]
 simp only [Bool.true_and]
 split
 ·rename_i h; have h := of_decide_eq_true h; omega
 ·rename_i h; have h : ¬ (n % 2 ^ 64 ≥ 2 ^ (64 - 1)) := fun e => h (decide_eq_true e); omega
end
end Go.Proofs.Ytdnefcjbcieecaa
namespace Go.Proofs.Ytdnefcjbcieecaa
open Go Go.Proofs
noncomputable section
theorem StLe.cells {n sz : Nat} {env : Env} {h : Heap} {id : Nat} {cs cs' : List V} (hi : h[id]? = some (some (.box cs))) (hl : VLes cs cs') : StLe n sz env h env (h.set id (some (.box cs'))) := by
 intro M w a hs hn hE
 have hs2 := Sim.reb (M := M) hs (cs' := cs') hi hl.len.symm (fun k x y v hx hy hr => by
  obtain ⟨x', hx', hle⟩ := hl.get k y hy
  rw [hx] at hx'; cases hx'
  exact hle _ _ hr)
 have hlive : ∀ b, liveBlk M (h.set id (some (.box cs'))) b → liveBlk M h b := fun b ⟨j, blk, r, hj, hr, hb⟩ => by
  by_cases hj' : j = id
  ·subst hj'; exact ⟨j, _, r, hi, hr, hb⟩
  ·rw [List.getElem?_set_ne (Ne.symm hj')] at hj; exact ⟨j, blk, r, hj, hr, hb⟩
 exact ⟨M, ⟨fun _ _ _ h => h, ⟨⟨fun _ h => h, fun _ _ h => h, fun _ _ _ _ h => .inl h⟩, rfl⟩, MuLe.refl M, by simp; omega, hs2, rfl, rfl, rfl, Nat.le_refl _, fun _ _ _ => rfl, fun b hb hl => hlive b hl⟩, hE⟩
theorem wd {w n : Int} (h0 : 0 ≤ w) (h1 : w ≤ 65535) (hn : 0 < n) : 0 ≤ w.tmod n ∧ w.tmod n < n ∧ w.tmod n ≤ 65535 ∧ 0 ≤ w.tdiv n ∧ w.tdiv n ≤ 65535 := by
 rw [Int.tmod_eq_emod_of_nonneg h0, Int.tdiv_eq_ediv_of_nonneg h0]
 have a1 := Int.emod_nonneg w (show n ≠ 0 by omega)
 have a2 := Int.emod_lt_of_pos w hn
 have a3 := Int.ediv_nonneg h0 (show 0 ≤ n by omega)
 have a4 := Int.ediv_le_self n h0
 have a5 : w % n ≤ w := by have := Int.mul_nonneg (show 0 ≤ n by omega) a3; rw [Int.emod_def]; omega
 omega
def splS (d : Int) (w : Int) : Spl := ⟨d, 1 + (w.tdiv 8).tmod 6, 1 + (w.tdiv 64).tmod 4⟩
def splK (ws : List Int) : Nat → Int × List Spl
 | 0 => (-1, [])
 | k + 1 => ((splK ws k).1 + (1 + (wordM ws ((k : Int) + 1)).tmod 6), if (splK ws k).1 + (1 + (wordM ws ((k : Int) + 1)).tmod 6) ≤ 11 then (splK ws k).2 ++ [splS ((splK ws k).1 + (1 + (wordM ws ((k : Int) + 1)).tmod 6)) (wordM ws ((k : Int) + 1))] else (splK ws k).2)
def splN (ws : List Int) : Nat := ((wordM ws 0).tmod 3).toNat
def cloR (w : Int) : Rng := ⟨w.tmod 10, min2 11 (w.tmod 10 + (w.tdiv 16).tmod 4)⟩
def cloK (ws : List Int) (k : Nat) : List Rng := (List.range k).map fun (i : Nat) => cloR (wordM ws ((i : Int) + 3))
def cloN (ws : List Int) : Nat := (((wordM ws 0).tdiv 4).tmod 3).toNat
@[simp] theorem cloK_len (ws : List Int) (k : Nat) : (cloK ws k).length = k := by simp [cloK]
def divD (w : Int) : Dvd := ⟨w.tmod 12, min2 11 (w.tmod 12 + (w.tdiv 16).tmod 5), (w.tdiv 128).tmod 51⟩
def divK (ws : List Int) (k : Nat) : List Dvd := (List.range k).map fun (i : Nat) => divD (wordM ws ((i : Int) + 5))
def divN (ws : List Int) : Nat := (1 + ((wordM ws 0).tdiv 16).tmod 3).toNat
@[simp] theorem divK_len (ws : List Int) (k : Nat) : (divK ws k).length = k := by simp [divK]
def Cmp.more (c : Cmp) (x : Trd) : Cmp := { c with trades := c.trades ++ [x] }
def Tru.more (t : Tru) (s d : Int) : Tru := ⟨t.sold ++ [s], t.deliv ++ [d]⟩
def base (hl ws : List Int) : Cmp := ⟨hl.length, hl, [], divK ws (divN ws), (splK ws (splN ws)).2, cloK ws (cloN ws)⟩
theorem fault_of {c : Cmp} (h : 1 ≤ c.houses ∧ c.houses ≤ 4 ∧ (c.held.length : Int) = c.houses ∧ c.trades.length ≤ 4 ∧ c.divs.length ≤ 3 ∧ c.splits.length ≤ 2 ∧ c.closed.length ≤ 2) (h1 : c.held.all (Rng.has ⟨0, 100⟩) = true) (h2 : c.trades.all (okTr c.houses) = true) (h3 : c.divs.all okDv = true) (h4 : okSs (-1) c.splits = true) (h5 : c.closed.all Rng.days = true) : faultM c = 0 := by
 unfold faultM
 rw [if_neg (by omega), if_pos ⟨h.1, h.2.2.1, h1, h2, h3, h4, h5⟩]
end
end Go.Proofs.Ytdnefcjbcieecaa
namespace Go.Proofs.Ytdnefcjbcieecaa
open Go Go.Proofs
noncomputable section
def X111 : Sx := { sp := spNil, md := fun t => bif Nat.beq t 7 then 1 else 0, sh := shI }
theorem X111_ok : SpOk Try.prog X111.sp := spNil_ok _
def H9 (c : Cmp) (km : List (Int × Int × Int)) (b2 b3 b4 b5 b7 b8 : Option Blk) : Heap := Wk c km [b2, b3, b4, b5, Wc, b7, b8]
theorem w111 (c : Cmp) (km : List (Int × Int × Int)) (b2 b3 b4 b5 b7 b8 : Option Blk) : sx X111 c111 [] (doneK r111) (envOf [.yl 7, .ptr 6 0 0]) [] (H9 c km b2 b3 b4 b5 b7 b8) =
  let y0_ := [V.ptr 6 0 0, V.ptr 10 0 0, V.ptr 9 0 0, V.ptr 11 0 0]
  Tr.clB false (V.fn (Fn.func 112) [] y0_) [V.d (D.int .i64 0)] [some (Blk.map (List.map entE km)), some (Blk.box [V.d (D.int .i64 (Cmp.houses c)), V.d (D.sl false (List.length (Cmp.held c)) (enc eI (Cmp.held c))), V.d (D.sl false (List.length (Cmp.trades c)) (enc eT (Cmp.trades c))), V.d (D.sl false (List.length (Cmp.divs c)) (enc eV (Cmp.divs c))), V.d (D.sl false (List.length (Cmp.splits c)) (enc eS (Cmp.splits c))), V.d (D.sl false (List.length (Cmp.closed c)) (enc eR (Cmp.closed c))), V.mp 0]), b2, b3, b4, b5, some (Blk.box [V.ptr 1 0 0]), b7, b8, some (Blk.box [V.yl 7]), some (Blk.box [V.d D.nils, V.d D.nils]), some (Blk.box [V.fn (Fn.func 112) [] y0_])] fun b h' => Tr.done (V.tup []) h' := by kernel_rfl
theorem ACalls.le {P : Program} {f : FuncId} {vs : List V} {h h' : Heap} {R : V → Heap → Prop} (hst : StLe h.length 0 [] h [] h') (hl : h.length ≤ h'.length) (hc : ACalls P f vs h' R) : ACalls P f vs h R := by
 refine ⟨hc.1, fun M w args hm hs hu => ?_⟩
 obtain ⟨M1, p1, _⟩ := hst M w ⟨#[], []⟩ hs (Nat.le_refl _) ⟨rfl, DefOk.nil _, fun k => .any _⟩
 refine (hc.2 M1 w args (p1.cc hm) p1.sim (hu.mono p1.ro p1.le)).mono fun e w' hq => ?_
 obtain ⟨cv, v, h2, M2, e1, p2, hv, hr⟩ := hq
 exact ⟨cv, v, h2, M2, e1, p1.trans (p2.mono hl), hv, hr⟩
section
variable {S : Type} {K : Cons S} (hK : K.Ok)
def Cons.H9 {S : Type} (K : Cons S) (km : List (Int × Int × Int)) (s : S) : Heap := Wk K.c km [K.b2 s, K.b3 s, K.b4 s, K.b5 s, Wc, K.b7 s, K.b8 s]
include hK
theorem a111 {s : S} {km : List (Int × Int × Int)} (hA : K.A true s) (hkm : kmOk K.c km) :
  ACalls Try.prog 111 [.yl 7, .ptr 6 0 0] (K.H9 km s) fun _ h => K.A (runY K.stepZ (comp K.c K.c.trades ⟨[], []⟩) (km, s)).1 (runY K.stepZ (comp K.c K.c.trades ⟨[], []⟩) (km, s)).2.2 ∧ kmOk K.c (runY K.stepZ (comp K.c K.c.trades ⟨[], []⟩) (km, s)).2.1 ∧
   ∃ J, h = K.H9 (runY K.stepZ (comp K.c K.c.trades ⟨[], []⟩) (km, s)).2.1 (runY K.stepZ (comp K.c K.c.trades ⟨[], []⟩) (km, s)).2.2 ++ J := by
 refine q111.calls X111_ok rfl (w111 K.c km _ _ _ _ _ _) ?_
 simp only [holds]
 have hc := a112 hK K.c.trades.length 0 ⟨[], []⟩ s km (by omega) rfl rfl (fun j hj => by omega) hA hkm
 rw [List.drop_zero] at hc
 generalize runY K.stepZ (comp K.c K.c.trades ⟨[], []⟩) (km, s) = r at hc ⊢
 refine callV_holds (K := K.P r) ?_ (ACalls.le (h' := K.H km s ⟨[], []⟩ []) ?_ (Nat.le_refl _) hc)
 ·rintro v h' ⟨rfl, hA', hkm', t', J, rfl⟩
  exact ⟨r.1, rfl, fun e => (by cases e), hA', hkm', _, rfl⟩
 ·exact StLe.cells (id := 10) (cs := [.d .nils, .d .nils]) (cs' := [.d (.sl false 0 []), .d (.sl false 0 [])]) rfl (.cons .nilsF (.cons .nilsF .nil))
end
end
end Go.Proofs.Ytdnefcjbcieecaa
namespace Go.Proofs.Ytdnefcjbcieecaa
open Go Go.Proofs
noncomputable section
end
end Go.Proofs.Ytdnefcjbcieecaa
namespace Go.Proofs.Ytdnefcjbcieecaa
open Go Go.Proofs
noncomputable section
end
end Go.Proofs.Ytdnefcjbcieecaa
namespace Go.Proofs.Ytdnefcjbcieecaa
open Go Go.Proofs
noncomputable section
section
variable {P : Program} {G : Cfg} {n : Nat}
theorem wpc_seq' {a b : CCode} {Q : CExit → Env → Heap → Prop} {env : Env} {h : Heap} (hk : wpc P G n a (fun e env h => match e with
  | .normal => wpc P G n b Q env h
  | .exit id => Q (.exit id) env h
  | .ret => Q .ret env h) env h) : wpc P G n (.seq a b) Q env h := hk
theorem wpc_block' {id : Nat} {c : CCode} {Q : CExit → Env → Heap → Prop} {env : Env} {h : Heap} (hk : wpc P G n c (fun e env h => match e with
  | .normal => Q .normal env h
  | .exit i => if i = id then Q .normal env h else Q (.exit i) env h
  | .ret => Q .ret env h) env h) : wpc P G n (.block id c) Q env h := hk
theorem wpc_tree {X : Sx} (hX : SpOk P X.sp) {c : CCode} {Q : CExit → Env → Heap → Prop} {env : Env} {h : Heap} {T : Tr} (ht : sx X c [] leafK env [] h = T) (hh : holds P G n Q (fun _ _ => True) T) : wpc P G n c Q env h :=
 sx_sound (R := fun _ _ => True) hX c [] leafK env [] h leafK_ok (.nil _) (by rw [ht]; exact hh)
end
end
end Go.Proofs.Ytdnefcjbcieecaa
namespace Go.Proofs.Ytdnefcjbcieecaa
open Go Go.Proofs
noncomputable section
def truthsP (c : Cmp) : List Tru := (comp c c.trades ⟨[], []⟩).filter fun t => fitsB c t
end
end Go.Proofs.Ytdnefcjbcieecaa
namespace Go.Proofs.Ytdnefcjbcieecaa
open Go Go.Proofs
noncomputable section
mutual
def V.ren (p : Nat → Nat) : V → V
 | .any => .any
 | .d x => .d x
 | .agg cs => .agg (renL p cs)
 | .tup cs => .tup (renL p cs)
 | .own a b c => .own (p a) b c
 | .ptr a b c => .ptr (p a) b c
 | .rptr a b => .rptr a b
 | .fn f a c => .fn f (renL p a) (renL p c)
 | .mp a => .mp (p a)
 | .yl a => .yl (p a)
def renL (p : Nat → Nat) : List V → List V
 | [] => []
 | v :: l => v.ren p :: renL p l
end
theorem renL_eq (p : Nat → Nat) : ∀ l : List V, renL p l = l.map (V.ren p)
 | [] => rfl
 | v :: l => by rw [renL, renL_eq p l]; rfl
mutual
theorem V.ren_ren {p q : Nat → Nat} (h : ∀ i, q (p i) = i) : ∀ v : V, (v.ren p).ren q = v
 | .any => rfl
 | .d x => rfl
 | .agg cs => by rw [V.ren, V.ren, renL_renL h cs]
 | .tup cs => by rw [V.ren, V.ren, renL_renL h cs]
 | .own a b c => by rw [V.ren, V.ren, h]
 | .ptr a b c => by rw [V.ren, V.ren, h]
 | .rptr a b => rfl
 | .fn f a c => by rw [V.ren, V.ren, renL_renL h a, renL_renL h c]
 | .mp a => by rw [V.ren, V.ren, h]
 | .yl a => by rw [V.ren, V.ren, h]
theorem renL_renL {p q : Nat → Nat} (h : ∀ i, q (p i) = i) : ∀ l : List V, renL q (renL p l) = l
 | [] => rfl
 | v :: l => by rw [renL, renL, V.ren_ren h v, renL_renL h l]
end
def Mem.ren (M : Mem) (q : Nat → Nat) : Mem := { M with mu := fun i => M.mu (q i) }
theorem RepV.ren {M : Mem} {p q : Nat → Nat} (h : ∀ i, q (p i) = i) {v : V} {c : Value} (hr : RepV M v c) : RepV (M.ren q) (v.ren p) c := by
 have hmu : ∀ i, (M.ren q).mu (p i) = M.mu i := fun i => by show M.mu (q (p i)) = _; rw [h]
 induction hr with
 | any v => exact .any v
 | d x v hx => exact .d x v hx
 | agg cs arr hl h0 h1 ih =>
  rw [V.ren, renL_eq]
  refine .agg _ arr (by simp [hl]) (fun k v c hv hc => ?_) h1
  rw [List.getElem?_map] at hv
  cases hk : cs[k]? with
  | none => rw [hk] at hv; cases hv
  | some x => rw [hk] at hv; cases hv; exact ih k x c hk hc
 | tup cs arr hl h0 ih =>
  rw [V.ren, renL_eq]
  refine .tup _ arr (by simp [hl]) (fun k v c hv hc => ?_)
  rw [List.getElem?_map] at hv
  cases hk : cs[k]? with
  | none => rw [hk] at hv; cases hv
  | some x => rw [hk] at hv; cases hv; exact ih k x c hk hc
 | own id g len r ao cap h1 hg hl hm hv => exact .own (p id) g len r ao cap (by rw [hmu]; exact h1) hg hl hm hv
 | ptr id g off r b h1 hg hv => exact .ptr (p id) g off r b (by rw [hmu]; exact h1) hg hv
 | rptr cs off b o vals hro hrep => exact .rptr cs off b o vals hro hrep
 | fn f first caps a1 a2 h1l h2l h1 h2 ih1 ih2 =>
  rw [V.ren, renL_eq, renL_eq]
  refine .fn f _ _ a1 a2 (by simp [h1l]) (by simp [h2l]) (fun k v c hv hc => ?_) (fun k v c hv hc => ?_)
  ·rw [List.getElem?_map] at hv
   cases hk : first[k]? with
   | none => rw [hk] at hv; cases hv
   | some x => rw [hk] at hv; cases hv; exact ih1 k x c hk hc
  ·rw [List.getElem?_map] at hv
   cases hk : caps[k]? with
   | none => rw [hk] at hv; cases hv
   | some x => rw [hk] at hv; cases hv; exact ih2 k x c hk hc
 | mp id r b h1 hv => exact .mp (p id) r b (by rw [hmu]; exact h1) hv
 | yl id r b h1 hv => exact .yl (p id) r b (by rw [hmu]; exact h1) hv
def Blk.ren (p : Nat → Nat) : Blk → Blk
 | .box cs => .box (renL p cs)
 | .row e sz g cs => .row e sz g cs
 | .obj o => .obj o
 | .map es => .map (es.map fun e => (e.1.ren p, e.2.ren p))
 | .loop L => .loop { L with env := L.env.map fun e => (e.1, e.2.ren p) }
theorem env_ren (p : Nat → Nat) : ∀ (env : Env) (k : Nat), Env.get (env.map fun e => (e.1, e.2.ren p)) k = (env.get k).ren p
 | [], k => rfl
 | (j, v) :: r, k => by
  have ih := env_ren p r k
  show (if k = j then v.ren p else Env.get (r.map fun e => (e.1, e.2.ren p)) k) = (if k = j then v else Env.get r k).ren p
  split
  ·rfl
  ·exact ih
theorem BlkAt.ren {M : Mem} {w : World} {r : Ref} {p q : Nat → Nat} (h : ∀ i, q (p i) = i) {b : Blk} (hb : BlkAt M w r b) : BlkAt (M.ren q) w r (b.ren p) := by
 cases b with
 | box cs =>
  obtain ⟨h1, b, arr, T, h2, h3, h4, h5⟩ := hb
  refine ⟨h1, b, arr, T, h2, h3, ⟨by rw [renL_eq]; simpa using h4.1, fun k v c hv hc => ?_⟩, h5⟩
  rw [renL_eq, List.getElem?_map] at hv
  cases hk : cs[k]? with
  | none => rw [hk] at hv; cases hv
  | some x => rw [hk] at hv; cases hv; exact (h4.2 k x c hk hc).ren h
 | row e sz g cs => exact hb
 | obj o => exact hb
 | map es =>
  obtain ⟨h1, b, arr, clock, h2, h3, h4, h5⟩ := hb
  refine ⟨h1, b, arr, clock, h2, h3, by simpa using h4, fun k e x he hx => ?_⟩
  rw [List.getElem?_map] at he
  cases hk : es[k]? with
  | none => rw [hk] at he; cases he
  | some y => rw [hk] at he; cases he; exact ⟨(h5 k y x hk hx).1.ren h, (h5 k y x hk hx).2.ren h⟩
 | loop L =>
  obtain ⟨h1, b, rec, h2, h3, h4, h5, h6, h7, h8, h9, h10⟩ := hb
  exact ⟨h1, b, rec, h2, h3, h4, h5, h6, h7, h8, h9, fun k => by
   show RepV _ (Env.get (L.env.map fun e => (e.1, e.2.ren p)) k) _
   rw [env_ren]; exact (h10 k).ren h⟩
theorem Blk.ren_ren {p q : Nat → Nat} (h : ∀ i, q (p i) = i) (b : Blk) : (b.ren p).ren q = b := by
 cases b with
 | box cs => simp only [Blk.ren, renL_renL h]
 | row e sz g cs => rfl
 | obj o => rfl
 | map es =>
  simp only [Blk.ren, List.map_map]
  congr 1
  conv => rhs; rw [← List.map_id es]
  refine List.map_congr_left fun e _ => ?_
  simp [V.ren_ren h]
 | loop L =>
  simp only [Blk.ren, List.map_map]
  have : (List.map ((fun e : Nat × V => (e.1, e.2.ren q)) ∘ fun e => (e.1, e.2.ren p)) L.env) = L.env := by
   conv => rhs; rw [← List.map_id L.env]
   refine List.map_congr_left fun e _ => ?_
   simp [V.ren_ren h]
  rw [this]
def HRen (p : Nat → Nat) (h h' : Heap) : Prop := h'.length = h.length ∧ ∀ i, h'[p i]? = (h[i]?).map (Option.map (Blk.ren p))
theorem HRen.symm {p q : Nat → Nat} (h1 : ∀ i, q (p i) = i) (h2 : ∀ i, p (q i) = i) {h h' : Heap} (hr : HRen p h h') : HRen q h' h := by
 refine ⟨hr.1.symm, fun i => ?_⟩
 have := hr.2 (q i)
 rw [h2] at this
 rw [this]
 cases h[q i]? with
 | none => rfl
 | some b => cases b with
  | none => rfl
  | some b => simp [Blk.ren_ren h1]
theorem HRen.live {p q : Nat → Nat} (h1 : ∀ i, q (p i) = i) {M : Mem} {h h' : Heap} (hr : HRen p h h') {b : Nat} (hl : liveBlk M h b) : liveBlk (M.ren q) h' b := by
 obtain ⟨i, blk, r, hi, hm, hb⟩ := hl
 refine ⟨p i, blk.ren p, r, ?_, ?_, hb⟩
 ·rw [hr.2, hi]; rfl
 ·show M.mu (q (p i)) = _
  rw [h1]; exact hm
theorem Mem.ren_ren {p q : Nat → Nat} (h2 : ∀ i, q (p i) = i) (M : Mem) : (M.ren q).ren p = M := by
 show { M with mu := fun i => M.mu (q (p i)) } = M
 simp only [h2]
theorem Sim.ren {p q : Nat → Nat} (h1 : ∀ i, q (p i) = i) (h2 : ∀ i, p (q i) = i) {M : Mem} {h h' : Heap} {w : World} (hlen : ∀ i, h.length ≤ i → h.length ≤ q i) (hr : HRen p h h') (hs : Sim M h w) : Sim (M.ren q) h' w := by
 have hsy := hr.symm h1 h2
 have hlv : ∀ b, liveBlk (M.ren q) h' b → liveBlk M h b := fun b hl => by
  have := hsy.live (q := p) h2 hl
  rw [Mem.ren_ren h1] at this; exact this
 refine ⟨fun i blk hi => ?_, fun i j bi bj ri rj b hi hj hri hrj hbi hbj => ?_, fun b o v hv => ⟨(hs.ro b o v hv).1, fun hl => (hs.ro b o v hv).2 (hlv b hl)⟩, fun i hi => hs.dom _ (hlen i (by rw [← hr.1]; exact hi)), fun b hb => ⟨(hs.df b hb).1, fun hl => (hs.df b hb).2 (hlv b hl)⟩⟩
 ·have e := hsy.2 i
  rw [hi] at e
  obtain ⟨r, hm, hat⟩ := hs.blks (q i) (blk.ren q) e
  refine ⟨r, hm, ?_⟩
  have := hat.ren (p := p) (q := q) h1
  rw [Blk.ren_ren h2] at this
  exact this
 ·have ei := hsy.2 i
  rw [hi] at ei
  have ej := hsy.2 j
  rw [hj] at ej
  have := hs.inj (q i) (q j) _ _ ri rj b ei ej hri hrj hbi hbj
  have := congrArg p this
  rw [h2, h2] at this
  exact this
theorem HRen.make {p q : Nat → Nat} (h1 : ∀ i, q (p i) = i) {n : Nat} (hid : ∀ i, n ≤ i → p i = i) (k0 : Heap) (hn : n ≤ k0.length) : ∃ k, HRen p k0 k := by
 have hlt : ∀ i, i < k0.length → p i < k0.length := fun i hi => by
  rcases Nat.lt_or_ge (p i) k0.length with g | g
  ·exact g
  ·have e1 := hid (p i) (by omega)
   have e2 := h1 (p i)
   rw [e1, h1] at e2
   omega
 refine ⟨(List.range k0.length).map fun j => (k0[q j]?).join.map (Blk.ren p), by simp, fun i => ?_⟩
 rcases Nat.lt_or_ge i k0.length with g | g
 ·rw [List.getElem?_map, List.getElem?_range (hlt i g)]
  simp only [Option.map_some, h1]
  rw [List.getElem?_eq_getElem g]
  rfl
 ·rw [hid i (by omega), List.getElem?_eq_none (by simpa using g), List.getElem?_eq_none g]; rfl
theorem ACalls.ren {P : Program} {f : FuncId} {vs : List V} {h h' : Heap} {R : V → Heap → Prop} {p q : Nat → Nat} (h1 : ∀ i, q (p i) = i) (h2 : ∀ i, p (q i) = i) (hid : ∀ i, h.length ≤ i → p i = i) (hr : HRen p h h')
  (hc : ACalls P f vs h R) : ACalls P f (vs.map (V.ren p)) h' fun v k => ∃ v0 k0, R v0 k0 ∧ v = v0.ren p ∧ HRen p k0 k := by
 have hidq : ∀ i, h.length ≤ i → q i = i := fun i hi => by
  have := h1 i
  rw [hid i hi] at this
  exact this
 refine ⟨hc.1, fun M w args hm hs hu => ?_⟩
 have hsy := hr.symm h1 h2
 have hs0 : Sim (M.ren p) h w := hs.ren (p := q) (q := p) h2 h1 (fun i hi => by rw [hr.1] at hi ⊢; rw [hid i hi]; exact hi) hsy
 have hu0 : RepL (M.ren p) vs args := ⟨by simpa using hu.1, fun k v c hv hc => by
  have := (hu.2 k (v.ren p) c (by rw [List.getElem?_map, hv]; rfl) hc).ren (p := q) (q := p) h2
  rw [V.ren_ren h1] at this
  exact this⟩
 refine (hc.2 (M.ren p) w args hm hs0 hu0).mono ?_
 rintro e w' ⟨cv, v, k0, M1, rfl, pp, hrv, hR⟩
 obtain ⟨k, hk⟩ := HRen.make h1 hid k0 pp.len
 have hlive : ∀ b, liveBlk (M.ren p) h b → liveBlk M h' b := fun b hl => by
  have := hr.live (q := q) h1 hl
  rw [Mem.ren_ren h2] at this
  exact this
 have hlive1 : ∀ b, liveBlk (M1.ren q) k b → liveBlk M1 k0 b := fun b hl => by
  have := (hk.symm h1 h2).live (q := p) h2 hl
  rw [Mem.ren_ren h1] at this
  exact this
 have hl := pp.len
 refine ⟨cv, v.ren p, k, M1.ren q, rfl, ⟨pp.ro, ⟨⟨pp.dc.1.1, pp.dc.1.2.1, fun b o u hb hu => (pp.dc.1.2.2 b o u hb hu).elim .inl fun hl => .inr (hlive b hl)⟩, pp.dc.2⟩, fun i r hi => ?_, by rw [hk.1, hr.1]; exact hl,
  pp.sim.ren h1 h2 (fun i hi => by rw [hidq i (by omega)]; exact hi) hk, pp.os, pp.tape, pp.output, pp.size, fun b hb hnl => pp.keep b hb fun hl => hnl (hlive b hl), fun b hb hl => hlive b (pp.live b hb (hlive1 b hl))⟩, hrv.ren h1, v, k0, hR, rfl, hk⟩
 have := pp.le (q i) r (by show M.mu (p (q i)) = _; rw [h2]; exact hi)
 exact this
end
end Go.Proofs.Ytdnefcjbcieecaa
namespace Go.Proofs.Ytdnefcjbcieecaa
open Go Go.Proofs
noncomputable section
def Wbox1 (c : Cmp) : List V := [vi c.houses, .d (.sl false c.held.length (enc eI c.held)), .d (.sl false c.trades.length (enc eT c.trades)), .d (.sl false c.divs.length (enc eV c.divs)), .d (.sl false c.splits.length (enc eS c.splits)), .d (.sl false c.closed.length (enc eR c.closed)), .mp 1]
def Wk1 (b : Option Blk) (c : Cmp) (km : List (Int × Int × Int)) : Heap := [b, some (.map (km.map entE)), some (.box (Wbox1 c))]
def p1 : Nat → Nat
 | 0 => 1
 | 1 => 2
 | 2 => 0
 | n + 3 => n + 3
def q1 : Nat → Nat
 | 0 => 2
 | 1 => 0
 | 2 => 1
 | n + 3 => n + 3
theorem w72b (b : Option Blk) (c : Cmp) : sx (mkX spNil) c72 [] (doneK r72) (envOf [Cv c]) [] [b] =
  Tr.need (DP.P (dp True)) (Tr.done (V.ptr 2 0 0) [b, some (Blk.map []), some (Blk.box [V.d (D.int .i64 (Cmp.houses c)), V.d (D.sl false (List.length (Cmp.held c)) (enc eI (Cmp.held c))), V.d (D.sl false (List.length (Cmp.trades c)) (enc eT (Cmp.trades c))), V.d (D.sl false (List.length (Cmp.divs c)) (enc eV (Cmp.divs c))), V.d (D.sl false (List.length (Cmp.splits c)) (enc eS (Cmp.splits c))), V.d (D.sl false (List.length (Cmp.closed c)) (enc eR (Cmp.closed c))), V.mp 1])]) := by kernel_rfl
def ent72x : Ent := fun args h => match args, h with
 | [x], [] => match asC x with
  | some c => some (Cv c = x, .ptr 1 0 0, some (Wk c [] []))
  | none => none
 | [x], [b] => match asC x with
  | some c => some (Cv c = x, .ptr 2 0 0, some (Wk1 b c []))
  | none => none
 | _, _ => none
theorem ent72x_ok : EntOk Try.prog 72 ent72x := by
 intro args h p v h' he hp
 unfold ent72x at he
 split at he
 ·split at he
  ·cases he; rw [← hp]; exact a72 _
  ·cases he
 ·split at he
  ·cases he; rw [← hp]
   refine q72.calls (X := mkX spNil) (spNil_ok _) rfl (w72b _ _) ?_
   exact ⟨trivial, rfl, rfl⟩
  ·cases he
 ·cases he
end
end Go.Proofs.Ytdnefcjbcieecaa
namespace Go.Proofs.Ytdnefcjbcieecaa
open Go Go.Proofs
noncomputable section
end
end Go.Proofs.Ytdnefcjbcieecaa
namespace Go.Proofs.Ytdnefcjbcieecaa
open Go Go.Proofs
noncomputable section
theorem q77 : FunIs Try.prog 77 G77 c77 r77 := ⟨Try.f77, Try.func77, k77, e77, by kernel_rfl, by kernel_rfl⟩
theorem pad_get {h : Heap} {k i : Nat} {x : Blk} (hx : (h ++ List.replicate k none)[i]? = some (some x)) : h[i]? = some (some x) := by
 rcases Nat.lt_or_ge i h.length with g | g
 ·rwa [List.getElem?_append_left g] at hx
 ·rw [List.getElem?_append_right g] at hx
  rw [List.getElem?_replicate] at hx
  split at hx <;> simp at hx
theorem StLe.pad {n sz : Nat} {env : Env} {h : Heap} (k : Nat) : StLe n sz env h env (h ++ List.replicate k none) := by
 intro M w a hs hn hE
 have hlive : ∀ b, liveBlk M (h ++ List.replicate k none) b → liveBlk M h b := fun b ⟨j, blk, r, hj, hr, hb⟩ => ⟨j, blk, r, pad_get hj, hr, hb⟩
 have hs2 : Sim M (h ++ List.replicate k none) w := ⟨fun i blk hi => hs.blks i blk (pad_get hi), fun i j bi bj ri rj b hi hj hri hrj h1 h2 => hs.inj i j bi bj ri rj b (pad_get hi) (pad_get hj) hri hrj h1 h2,
  fun b o v hv => ⟨(hs.ro b o v hv).1, fun hl => (hs.ro b o v hv).2 (hlive b hl)⟩, fun i hi => hs.dom i (by simp at hi; omega), fun b hb => ⟨(hs.df b hb).1, fun hl => (hs.df b hb).2 (hlive b hl)⟩⟩
 exact ⟨M, ⟨fun _ _ _ h => h, ⟨⟨fun _ h => h, fun _ _ h => h, fun _ _ _ _ h => .inl h⟩, rfl⟩, MuLe.refl M, by simp; omega, hs2, rfl, rfl, rfl, Nat.le_refl _, fun _ _ _ => rfl, fun b hb hl => hlive b hl⟩, hE⟩
def Fb : Option Blk := some (.box [vb false])
theorem w77a (c : Cmp) : sx (mkX spNil) (CCode.at c77 [0]) [] leafK (envOf [Cv c]) [] [] =
  Tr.leaf CExit.normal [(1, V.rptr (Cds c) 0), (2, V.ptr 0 0 0)] [some (Blk.box [V.d (D.bool false)])] := by kernel_rfl
theorem w95b (c : Cmp) : sx (mkX spNil) c95 [] (doneK r95) (envOf [.ptr 2 0 0]) [] (Wk1 Fb c []) =
  Tr.done (V.fn (Fn.func 111) [] [V.ptr 3 0 0]) [some (Blk.box [V.d (D.bool false)]), some (Blk.map []), some (Blk.box [V.d (D.int .i64 (Cmp.houses c)), V.d (D.sl false (List.length (Cmp.held c)) (enc eI (Cmp.held c))), V.d (D.sl false (List.length (Cmp.trades c)) (enc eT (Cmp.trades c))), V.d (D.sl false (List.length (Cmp.divs c)) (enc eV (Cmp.divs c))), V.d (D.sl false (List.length (Cmp.splits c)) (enc eS (Cmp.splits c))), V.d (D.sl false (List.length (Cmp.closed c)) (enc eR (Cmp.closed c))), V.mp 1]), some (Blk.box [V.ptr 2 0 0])] := by kernel_rfl
def Wc2 : Option Blk := some (.box [.ptr 2 0 0])
def ent95b (c : Cmp) : Ent := fun args h => some (args = [.ptr 2 0 0] ∧ h = Wk1 Fb c [], .fn (.func 111) [] [.ptr 3 0 0], some (Wk1 Fb c [] ++ [Wc2]))
theorem ent95b_ok (c : Cmp) : EntOk Try.prog 95 (ent95b c) := by
 intro args h p v ho he hp
 unfold ent95b at he
 cases he
 obtain ⟨rfl, rfl⟩ := hp
 refine q95.calls (X := mkX spNil) (spNil_ok _) rfl (w95b c) ?_
 exact ⟨rfl, rfl⟩
def X77 (c : Cmp) : Sx := mkX (spAdd 72 ent72x (spAdd 95 (ent95b c) spNil))
theorem X77_ok (c : Cmp) : SpOk Try.prog (X77 c).sp := spAdd_ok ent72x_ok (spAdd_ok (ent95b_ok c) (spNil_ok _))
theorem w77b (c : Cmp) : sx (X77 c) (CCode.at c77 [1,0,0]) [] leafK [(1, .rptr (Cds c) 0), (2, .ptr 0 0 0)] [] [Fb] =
  Tr.need (Cv (dCe c) = Cv c) (Tr.need ([V.ptr 2 0 0] = [V.ptr 2 0 0] ∧ Wk1 Fb (dCe c) [] = Wk1 Fb c []) (Tr.leaf CExit.normal [(2, V.ptr 0 0 0), (5, V.fn (Fn.func 111) [] [V.ptr 3 0 0])] [some (Blk.box [V.d (D.bool false)]), some (Blk.map []), some (Blk.box [V.d (D.int .i64 (Cmp.houses c)), V.d (D.sl false (List.length (Cmp.held c)) (enc eI (Cmp.held c))), V.d (D.sl false (List.length (Cmp.trades c)) (enc eT (Cmp.trades c))), V.d (D.sl false (List.length (Cmp.divs c)) (enc eV (Cmp.divs c))), V.d (D.sl false (List.length (Cmp.splits c)) (enc eS (Cmp.splits c))), V.d (D.sl false (List.length (Cmp.closed c)) (enc eR (Cmp.closed c))), V.mp 1]), some (Blk.box [V.ptr 2 0 0])])) := by kernel_rfl
def E77 : Env := [(2, .ptr 2 0 0), (5, .fn (.func 111) [] [.ptr 6 0 0])]
def E77a : Env := [(2, .ptr 0 0 0), (5, .fn (.func 111) [] [.ptr 3 0 0])]
def L77 (e : Env) (st : LoopState) (pe : Option CExit) : LoopB := ⟨G77, CCode.at c77 [1,0,1,0,0], CCode.at c77 [1,0,1,0,1], [6], e, st, pe⟩
theorem b77 (c : Cmp) (km : List (Int × Int × Int)) (b7 : Option Blk) (t : Tru) : sx (mkX spNil) (CCode.at c77 [1,0,1,0,1]) [] leafK ((6, Uv t) :: E77) [] (HI c km Fb none none none b7 none t []) =
  Tr.leaf CExit.ret [(2, V.ptr 2 0 0)] [some (Blk.map (List.map entE km)), some (Blk.box [V.d (D.int .i64 (Cmp.houses c)), V.d (D.sl false (List.length (Cmp.held c)) (enc eI (Cmp.held c))), V.d (D.sl false (List.length (Cmp.trades c)) (enc eT (Cmp.trades c))), V.d (D.sl false (List.length (Cmp.divs c)) (enc eV (Cmp.divs c))), V.d (D.sl false (List.length (Cmp.splits c)) (enc eS (Cmp.splits c))), V.d (D.sl false (List.length (Cmp.closed c)) (enc eR (Cmp.closed c))), V.mp 0]), some (Blk.box [V.d (D.bool true)]), none, none, none, some (Blk.box [V.ptr 1 0 0]), b7, none, some (Blk.box [V.yl 7]), some (Blk.box [V.d (D.sl false (List.length (Tru.sold t)) (enc eI (Tru.sold t))), V.d (D.sl false (List.length (Tru.deliv t)) (enc eI (Tru.deliv t)))]), some (Blk.box [V.fn (Fn.func 112) [] [V.ptr 6 0 0, V.ptr 10 0 0, V.ptr 9 0 0, V.ptr 11 0 0]])] := by kernel_rfl
def K77 (c : Cmp) : Cons Bool where
 c := c
 step := fun _ _ => (false, true)
 A := fun b s => s = !b
 b2 := fun s => some (.box [vb s])
 b3 := fun _ => none
 b4 := fun _ => none
 b5 := fun _ => none
 b7 := fun s => some (.loop (L77 E77 (bif s then .done else .ready) (bif s then some .ret else none)))
 b8 := fun _ => none
 kmY := fun _ km => km
theorem K77_ok {c : Cmp} (hf : faultM c = 0) : (K77 c).Ok where
 fault := hf
 bel := fun b s _ => by
  simp only [K77, List.all_cons, List.all_nil, Bool.and_true]
  rfl
 yl := by
  intro t s km hA hkm hdt hfit
  have hs : s = false := hA
  subst hs
  refine AYield.of_body (L := L77 E77 .ready none) rfl rfl rfl ?_
  show (LoopState.ready = LoopState.ready) ∧ wpc Try.prog G77 12 (CCode.at c77 [1,0,1,0,1]) (endR 7 _) ((6, Uv t) :: E77) (HI c km Fb none none none (some (.loop (L77 E77 .busy none))) none t [])
  refine ⟨rfl, ?_⟩
  refine sx_sound (X := mkX spNil) (R := fun _ _ => True) (spNil_ok _) _ [] leafK _ [] _ leafK_ok (.nil _) ?_
  rw [b77]
  show (K77 c).P (false, km, true) (vb false) _
  exact ⟨rfl, rfl, hkm, t, [], rfl⟩
theorem run77 {c : Cmp} : ∀ (l : List Tru) (km : List (Int × Int × Int)), (runY (K77 c).stepZ l (km, false)).1 = (l.filter fun t => fitsB c t).isEmpty
 | [], km => rfl
 | t :: l, km => by
  rw [runY, List.filter_cons]
  by_cases h : fitsB c t = true
  ·have e : (K77 c).stepZ t (km, false) = (false, kmF c t km (kEnd c t), true) := by unfold Cons.stepZ; rw [if_pos (show fitsB (K77 c).c t = true from h)]; rfl
   rw [e, if_neg (show ¬ (false = true) by decide), if_pos h]; rfl
  ·have e : (K77 c).stepZ t (km, false) = (true, kmF c t km (kEnd c t), false) := by unfold Cons.stepZ; rw [if_neg (show ¬ fitsB (K77 c).c t = true from h)]; rfl
   rw [e, if_pos rfl, if_neg h]
   exact run77 l _
def p7 : Nat → Nat
 | 0 => 1
 | 1 => 2
 | 2 => 0
 | 3 => 5
 | 4 => 6
 | 5 => 7
 | 6 => 3
 | 7 => 4
 | n + 8 => n + 8
def q7' : Nat → Nat
 | 0 => 2
 | 1 => 0
 | 2 => 1
 | 3 => 6
 | 4 => 7
 | 5 => 3
 | 6 => 4
 | 7 => 5
 | n + 8 => n + 8
theorem q7_p7 : ∀ i, q7' (p7 i) = i
 | 0 | 1 | 2 | 3 | 4 | 5 | 6 | 7 => rfl
 | n + 8 => rfl
theorem p7_q7 : ∀ i, p7 (q7' i) = i
 | 0 | 1 | 2 | 3 | 4 | 5 | 6 | 7 => rfl
 | n + 8 => rfl
theorem ren77 (c : Cmp) : HRen p7 ((K77 c).H9 [] false) ((Wk1 Fb c [] ++ [Wc2, some (.loop (L77 E77a .ready none))]) ++ List.replicate 4 none) := by
 refine ⟨rfl, fun i => ?_⟩
 match i with
 | 0 | 1 | 2 | 3 | 4 | 5 | 6 | 7 | 8 => rfl
 | n + 9 => simp [p7, Wk1, Wk, Cons.H9]
theorem a111b {c : Cmp} (hf : faultM c = 0) : ACalls Try.prog 111 [.yl 4, .ptr 3 0 0] (Wk1 Fb c [] ++ [Wc2, some (.loop (L77 E77a .ready none))]) fun _ k =>
  ∃ b1 b2 b3 J, k = some (.box [vb (!(truthsP c).isEmpty)]) :: b1 :: b2 :: b3 :: some (.loop (L77 E77a (bif !(truthsP c).isEmpty then .done else .ready) (bif !(truthsP c).isEmpty then some .ret else none))) :: J := by
 refine ACalls.le (StLe.pad 4) (by simp) ?_
 have h := ACalls.ren q7_p7 p7_q7 (fun i hi => by
  match i, hi with
  | n + 9, _ => rfl) (ren77 c) (a111 (K77_ok hf) (s := false) (km := []) rfl (kmOk_nil c))
 refine ACalls.mono h ?_
 rintro v k ⟨v0, k0, ⟨hA, hkm, J, rfl⟩, rfl, hk⟩
 have hr := run77 (c := c) (comp c c.trades ⟨[], []⟩) []
 have hA' : (runY (K77 c).stepZ (comp c c.trades ⟨[], []⟩) ([], false)).2.2 = !(truthsP c).isEmpty := by
  have : (runY (K77 c).stepZ (comp c c.trades ⟨[], []⟩) ([], false)).2.2 = !(runY (K77 c).stepZ (comp c c.trades ⟨[], []⟩) ([], false)).1 := hA
  rw [this, hr]; rfl
 have hl := hk.1
 have h0 := hk.2 2
 have h4 := hk.2 7
 have e0 : ∀ km s, ((K77 c).H9 km s ++ J)[2]? = some (some (.box [vb s])) := fun _ _ => rfl
 have e4 : ∀ km s, ((K77 c).H9 km s ++ J)[7]? = some (some (.loop (L77 E77 (bif s then .done else .ready) (bif s then some .ret else none)))) := fun _ _ => rfl
 rw [e0] at h0
 rw [e4] at h4
 have hlen : 9 ≤ k.length := by
  rw [hl]
  show 9 ≤ ((K77 c).H9 _ _ ++ J).length
  rw [List.length_append]
  have : ((K77 c).H9 (runY (K77 c).stepZ (comp (K77 c).c (K77 c).c.trades ⟨[], []⟩) ([], false)).2.1 (runY (K77 c).stepZ (comp (K77 c).c (K77 c).c.trades ⟨[], []⟩) ([], false)).2.2).length = 9 := rfl
  omega
 rcases k with _ | ⟨x0, _ | ⟨x1, _ | ⟨x2, _ | ⟨x3, _ | ⟨x4, k⟩⟩⟩⟩⟩
 ·simp at hlen
 ·simp at hlen
 ·simp at hlen
 ·simp at hlen
 ·simp at hlen
 have g0 : x0 = some (.box [vb (runY (K77 c).stepZ (comp c c.trades ⟨[], []⟩) ([], false)).2.2]) := Option.some.inj h0
 have g4 : x4 = some (.loop (L77 E77a (bif (runY (K77 c).stepZ (comp c c.trades ⟨[], []⟩) ([], false)).2.2 then .done else .ready) (bif (runY (K77 c).stepZ (comp c c.trades ⟨[], []⟩) ([], false)).2.2 then some .ret else none))) := Option.some.inj h4
 rw [hA'] at g0 g4
 exact ⟨x1, x2, x3, k, by rw [g0, g4]⟩
theorem w77c (b0 : Bool) (b1 b2 b3 : Option Blk) (J : Heap) : sx (mkX spNil) (CCode.at c77 [1,1]) [] (doneK r77) E77a [] (some (.box [vb b0]) :: b1 :: b2 :: b3 :: none :: J) =
  Tr.done (V.d (D.bool false)) (some (Blk.box [V.d (D.bool false)]) :: b1 :: b2 :: b3 :: none :: J) := by kernel_rfl
theorem y77 (c : Cmp) (hf : faultM c = 0) : Yields Try.prog 77 [Cv c] (vb (!(truthsP c).isEmpty)) := by
 refine .of rfl rfl ?_
 obtain ⟨fn, h1, h2, h3, h4, h5⟩ := q77
 refine acalls_of h1 h2 h3 h4 h5 (show 1 ≤ G77.sz by decide) ?_
 show wpc Try.prog G77 0 (.seq (CCode.at c77 [0]) (.seq (.seq (CCode.at c77 [1,0,0]) (.block 0 (.rangeF (.tmp 5) [6] (CCode.at c77 [1,0,1,0,0]) (CCode.at c77 [1,0,1,0,1])))) (CCode.at c77 [1,1]))) _ _ _
 refine wpc_seq' (wpc_tree (X := mkX spNil) (spNil_ok _) (w77a c) ?_)
 refine wpc_seq' (wpc_seq' (wpc_tree (X := X77 c) (X77_ok c) (w77b c) ?_))
 have hC : Cv (dCe c) = Cv c := by simp only [dCe, dC_enc]
 simp only [holds, dCe, dC_enc, true_and]
 refine wpc_block' ?_
 show callF Try.prog (.fn (.func 111) [] [.ptr 3 0 0]) [.yl 4] (Wk1 Fb c [] ++ [Wc2, some (.loop (L77 E77a .ready none))]) fun _ h' => doneR 4 E77a h' _
 refine ACalls.mono (a111b hf) ?_
 rintro v k ⟨b1, b2, b3, J, rfl⟩
 generalize (!(truthsP c).isEmpty) = b
 show (bif b then LoopState.done else LoopState.ready) ≠ LoopState.busy ∧ _
 cases b with
 | true =>
  refine ⟨by decide, ?_⟩
  show resV E77a (some (.box [vb true]) :: b1 :: b2 :: b3 :: none :: J) r77 fun vs => VLe (oneV vs) (vb true)
  exact ⟨_, rfl, rfl, .refl _⟩
 | false =>
  refine ⟨by decide, ?_⟩
  show wpc Try.prog G77 0 (CCode.at c77 [1,1]) _ E77a (some (.box [vb false]) :: b1 :: b2 :: b3 :: none :: J)
  refine sx_sound (X := mkX spNil) (R := fun v _ => VLe v (vb false)) (spNil_ok _) (CCode.at c77 [1,1]) [] (doneK r77) _ [] _ (doneK_ok rfl) (.nil _) ?_
  rw [w77c]
  exact .refl _
end
end Go.Proofs.Ytdnefcjbcieecaa
namespace Go.Proofs.Ytdnefcjbcieecaa
open Go Go.Proofs
noncomputable section
theorem q97 : FunIs Try.prog 97 G97 c97 r97 := ⟨Try.f97, Try.func97, k97, e97, by kernel_rfl, by kernel_rfl⟩
theorem q76 : FunIs Try.prog 76 G76 c76 r76 := ⟨Try.f76, Try.func76, k76, e76, by kernel_rfl, by kernel_rfl⟩
theorem q75 : FunIs Try.prog 75 G75 c75 r75 := ⟨Try.f75, Try.func75, k75, e75, by kernel_rfl, by kernel_rfl⟩
theorem q38 : FunIs Try.prog 38 G38 c38 r38 := ⟨Try.f38, Try.func38, k38, e38, by kernel_rfl, by kernel_rfl⟩
theorem w97 (l : List Int) (v : Int) : sx (mkX spNil) c97 [] (doneK r97) (envOf [vsl eI l, vi v]) [] [] =
  Tr.lp (CCode.at c97 [1, 0, 1, 0, 0]) [Fr.blk 0, Fr.seq (CCode.at c97 [1, 1])] [(0, V.d (D.sl false (List.length l) (enc eI l))), (1, V.d (D.int .i64 v)), (7, V.d (D.int .i64 (Int.ofNat (List.length l)))), (8, V.d (D.int .i64 0))] [] := by kernel_rfl
def E97 (l : List Int) (v : Int) (k : Nat) : Env := [(0, .d (.sl false l.length (enc eI l))), (1, vi v), (7, vi l.length), (8, vi k)]
theorem b97 (l : List Int) (v : Int) (k : Nat) : sx (mkX spNil) (CCode.at c97 [1,0,1,0,0]) [] (bodyK r97) (E97 l v k) [] [] =
  let y0_ := (List.length l)
  let y1_ := (decide (Int.ofNat k < Int.ofNat y0_))
  let y2_ := (7, V.d (D.int .i64 (Int.ofNat y0_)))
  let y3_ := (0, V.d (D.sl false y0_ (enc eI l)))
  Tr.br y1_ (Tr.need ((0 : Int) ≤ Int.ofNat k ∧ Int.ofNat k < Int.ofNat y0_ ∧ okEl [0] (enc eI l) 1 (Int.ofNat k)) (Tr.br (v == cI (enc eI l) 1 (Int.ofNat k) 0) (Tr.done (V.d (D.int .i64 (Int.ofNat k))) []) (Tr.need (-9223372036854775808 ≤ Int.ofNat k + (1 : Int) ∧ Int.ofNat k + (1 : Int) ≤ 9223372036854775807) (Tr.leaf CExit.normal [y3_, (1, V.d (D.int .i64 v)), y2_, (8, V.d (D.int .i64 (Int.ofNat k + (1 : Int))))] [])))) (Tr.leaf (CExit.exit 0) [y3_, (1, V.d (D.int .i64 v)), y2_, (8, V.d (D.int .i64 (Int.ofNat k))), (9, V.d (D.bool y1_))] []) := by kernel_rfl
theorem x97 (u0 u1 u2 u3 : V) (b : Bool) : sS (mkX spNil) (doneK r97) [Fr.blk 0, Fr.seq (CCode.at c97 [1,1])] (.exit 0) [(0, u0), (1, u1), (7, u2), (8, u3), (9, vb b)] [] [] =
  Tr.done (V.d (D.int .i64 (-1 : Int))) [] := by kernel_rfl
def idx : List Int → Int → Nat
 | [], _ => 0
 | x :: l, v => if x = v then 0 else idx l v + 1
theorem idx_at : ∀ (l : List Int) (v : Int) (k : Nat), k ≤ l.length → (∀ j, j < k → lat l (j : Nat) ≠ v) → (k < l.length → lat l (k : Nat) = v) → idx l v = k
 | [], v, k, h, _, _ => by simp at h; simp [idx, h]
 | x :: l, v, 0, h, _, he => by
  have : x = v := by simpa [lat] using he (by simp)
  simp [idx, this]
 | x :: l, v, k + 1, h, hn, he => by
  have h0 : x ≠ v := by simpa [lat] using hn 0 (by omega)
  rw [idx, if_neg h0, idx_at l v k (by simpa using h) (fun j hj => by simpa [lat] using hn (j + 1) (by omega)) (fun hk => by simpa [lat] using he (by simpa using hk))]
def hasI (l : List Int) (v : Int) : Bool := decide (idx l v < l.length)
theorem y97 (l : List Int) (v : Int) (hl : l.length ≤ 1000000) : Yields Try.prog 97 [vsl eI l, vi v] (vi (if idx l v < l.length then (idx l v : Nat) else -1)) := by
 refine q97.yieldsK (X := mkX spNil) (spNil_ok _) rfl rfl rfl (w97 l v) ?_
 simp only [holds]
 refine lp_countK (X := mkX spNil) (spNil_ok _) rfl l.length (fun k => ∀ j, j < k → lat l (j : Nat) ≠ v) (fun k => E97 l v k) (fun _ => []) rfl rfl (fun j hj => by omega) (fun k _ => ⟨rfl, rfl, rfl⟩) ?_
 intro k hk hA Q' hn he
 rw [b97]
 simp only [holds, Int.ofNat_eq_natCast, cI_I]
 refine ⟨fun e1 => ?_, fun e1 => ?_⟩
 ·have hlt : k < l.length := by have := of_decide_eq_true e1; omega
  refine ⟨⟨by omega, by omega, ok_I (by omega)⟩, fun h2 => ?_, fun h2 => ⟨⟨by omega, by omega⟩, hn [] hlt fun j hj => ?_⟩⟩
  ·have h2 : lat l (k : Nat) = v := by simpa using (eq_comm.1 (eq_of_beq h2))
   have e := idx_at l v k hk hA (fun _ => h2)
   rw [if_pos (by omega), e]
   exact .refl _
  ·rcases Nat.lt_or_ge j k with g | g
   ·exact hA j g
   ·have : j = k := by omega
    subst this
    intro h
    rw [h] at h2
    simp at h2
 ·have hge : k = l.length := by have := of_decide_eq_false e1; omega
  subst hge
  refine he _ _ _ (ret_tree (X := mkX spNil) (R := fun v1 _ => VLe v1 (vi (if idx l v < l.length then (idx l v : Nat) else -1))) (spNil_ok _) (doneK_ok rfl) (x97 _ _ _ _ _) ?_)
  have e := idx_at l v l.length (Nat.le_refl _) hA (fun h => by omega)
  rw [e, if_neg (by omega)]
  exact .refl _
def ent97 : Ent := fun args _ => match args with
 | [.d (.sl false n cs), .d (.int .i64 v)] => some (enc eI (dec 1 gI n cs) = cs ∧ n ≤ 1000000, vi (if idx (dec 1 gI n cs) v < (dec 1 gI n cs).length then (idx (dec 1 gI n cs) v : Nat) else -1), none)
 | _ => none
theorem ent97_ok : EntOk Try.prog 97 ent97 := by
 intro args h p v h' he hp
 unfold ent97 at he
 split at he
 ·cases he
  rw [show V.d (.sl false _ _) = vsl eI (dec 1 gI _ _) from (by unfold vsl dsl; rw [hp.1, dec_len])]
  exact y97 _ _ (by rw [dec_len]; exact hp.2) h
 ·cases he
def tab76 : Spec := (spAdd 97 ent97 spNil)
theorem tab76_ok : SpOk Try.prog tab76 := (spAdd_ok ent97_ok (spNil_ok _))
def X76 : Sx := mkX tab76
theorem X76_ok : SpOk Try.prog X76.sp := tab76_ok
theorem w76 (l : List Int) (v : Int) : sx X76 c76 [] (doneK r76) (envOf [vsl eI l, vi v]) [] [] =
  let y0_ := (dec 1 gI (List.length l) (enc eI l))
  Tr.need (enc eI y0_ = enc eI l ∧ List.length l ≤ 1000000) (Tr.done (V.d (D.bool (decide ((0 : Int) ≤ if idx y0_ v < List.length y0_ then Int.ofNat (idx y0_ v) else (-1 : Int))))) []) := by kernel_rfl
theorem y76 (l : List Int) (v : Int) (hl : l.length ≤ 1000000) : Yields Try.prog 76 [vsl eI l, vi v] (vb (hasI l v)) := by
 refine q76.yieldsK X76_ok rfl rfl rfl (w76 l v) ?_
 simp only [holds, dec_I, true_and]
 refine ⟨hl, .of_eq (congrArg vb ?_)⟩
 unfold hasI
 by_cases h : idx l v < l.length
 ·rw [if_pos h]; simp; omega
 ·rw [if_neg h]; simp; omega
def ent77 := entC (fun c => faultM c = 0) (fun c => vb (!(truthsP c).isEmpty))
theorem ent77_ok : EntOk Try.prog 77 ent77 := entC_ok fun c h => y77 c h
def ent76x (l : List Int) : Ent := fun args _ => match args with
 | [o, .d (.int .i64 v)] => some (o = vsl eI l ∧ l.length ≤ 1000000, vb (hasI l v), none)
 | _ => none
theorem ent76x_ok (l : List Int) : EntOk Try.prog 76 (ent76x l) := by
 intro args h p v h' he hp
 unfold ent76x at he
 split at he
 ·cases he
  rw [hp.1]
  exact y76 _ _ hp.2 h
 ·cases he
def X75 (l : List Int) : Sx := { mkX (spAdd 76 (ent76x l) (spAdd 77 ent77 spNil)) with sfz := true }
theorem X75_ok (l : List Int) : SpOk Try.prog (X75 l).sp := spAdd_ok (ent76x_ok l) (spAdd_ok ent77_ok (spNil_ok _))
def Cb6 (c : Cmp) (v : V) : List V := [vi c.houses, .d (.sl false c.held.length (enc eI c.held)), v, .d (.sl false c.divs.length (enc eV c.divs)), .d (.sl false c.splits.length (enc eS c.splits)), .d (.sl false c.closed.length (enc eR c.closed))]
def H75 (c : Cmp) (fo : D) (rest : Heap) : Heap := some (.box (Cb6 c (.d (.sl false c.trades.length (enc eT c.trades))))) :: some (.box [.d fo]) :: some (.box [.fn (.func 75) [] [.ptr 0 0 0, .ptr 1 0 0, .ptr 2 0 0]]) :: rest
theorem w75 (c : Cmp) (l : List Int) (fo : D) (f : Int) : sx (X75 l) c75 [] (doneK r75) (envOf [vsl eI l, vi f, vi 0, .ptr 0 0 0, .ptr 1 0 0, .ptr 2 0 0]) [] (H75 c fo []) =
  let x1_ := (List.length (Cmp.trades c))
  let x2_ := (D.sl false x1_ (enc eT (Cmp.trades c)))
  let x3_ := (D.int .i64 0)
  let x4_ := (D.int .i64 (Cmp.houses c))
  let x5_ := (D.sl false (List.length (Cmp.held c)) (enc eI (Cmp.held c)))
  let x6_ := (D.sl false (List.length (Cmp.divs c)) (enc eV (Cmp.divs c)))
  let x7_ := (D.sl false (List.length (Cmp.splits c)) (enc eS (Cmp.splits c)))
  let x8_ := (D.sl false (List.length (Cmp.closed c)) (enc eR (Cmp.closed c)))
  let x9_ := (Blk.box [V.d x4_, V.d x5_, V.d x2_, V.d x6_, V.d x7_, V.d x8_])
  let x10_ := (Blk.box [V.fn (Fn.func 75) [] [V.ptr 0 0 0, V.ptr 1 0 0, V.ptr 2 0 0]])
  let y0_ := (0, V.d (D.sl false (List.length l) (enc eI l)))
  Tr.br ((0 : Int) == (0 : Int)) (Tr.lp (CCode.at c75 [1, 0, 1, 0, 1, 1, 0, 1, 0, 0]) [Fr.blk 0, Fr.seq (CCode.at c75 [1, 0, 1, 0, 1, 1, 1]), Fr.seq (CCode.at c75 [1, 1])] [y0_, (4, V.ptr 1 0 0), (10, V.ptr 3 0 0), (19, V.d x2_), (20, V.d (D.int .i64 (Int.ofNat x1_))), (21, V.d x3_)] [some x9_, some (Blk.box [V.d fo]), some x10_, some (Blk.box [V.d x4_, V.d x5_, V.d D.nils, V.d x6_, V.d x7_, V.d x8_])]) (Tr.lp (CCode.at c75 [1, 1, 0, 1, 0, 0]) [Fr.blk 2, Fr.seq (CCode.at c75 [1, 1, 1])] [y0_, (2, V.d x3_), (3, V.ptr 0 0 0), (5, V.ptr 2 0 0), (13, V.d (D.int .i64 f))] [some x9_, some (Blk.box [V.d fo]), some x10_]) := by kernel_rfl
def E75 (c : Cmp) (l : List Int) (k : Nat) : Env := [(0, vsl eI l), (4, .ptr 1 0 0), (10, .ptr 3 0 0), (19, .d (.sl false c.trades.length (enc eT c.trades))), (20, vi c.trades.length), (21, vi k)]
theorem b75 (c : Cmp) (l : List Int) (fo : D) (r : List Trd) (k : Nat) : sx (X75 l) (CCode.at c75 [1,0,1,0,1,1,0,1,0,0]) [] leafK (E75 c l k) [] (H75 c fo [some (.box (Cb6 c (.own 4 r.length r.length))), some (.row 93 7 r.length (enc eT r))]) =
  let x1_ := (List.length (Cmp.trades c))
  let x2_ := (decide (Int.ofNat k < Int.ofNat x1_))
  let x3_ := (D.sl false (List.length l) (enc eI l))
  let y1_ := (enc eT (Cmp.trades c))
  let x4_ := (cI y1_ 7 (Int.ofNat k) 0)
  let x5_ := (cI y1_ 7 (Int.ofNat k) 1)
  let x6_ := (cI y1_ 7 (Int.ofNat k) 2)
  let x7_ := (cI y1_ 7 (Int.ofNat k) 3)
  let x8_ := (cI y1_ 7 (Int.ofNat k) 4)
  let x9_ := (cI y1_ 7 (Int.ofNat k) 5)
  let x10_ := (cI y1_ 7 (Int.ofNat k) 6)
  let x11_ := [D.int .i64 x4_, D.int .i64 x5_, D.int .i64 x6_, D.int .i64 x7_, D.int .i64 x8_, D.int .i64 x9_, D.int .i64 x10_]
  let x12_ := (List.length r + 1)
  let x13_ := (-9223372036854775808 ≤ Int.ofNat k + (1 : Int) ∧ Int.ofNat k + (1 : Int) ≤ 9223372036854775807)
  let x14_ := (D.sl false x1_ y1_)
  let x15_ := (D.int .i64 (Cmp.houses c))
  let x16_ := (D.sl false (List.length (Cmp.held c)) (enc eI (Cmp.held c)))
  let x17_ := (D.sl false (List.length (Cmp.divs c)) (enc eV (Cmp.divs c)))
  let x18_ := (D.sl false (List.length (Cmp.splits c)) (enc eS (Cmp.splits c)))
  let x19_ := (D.sl false (List.length (Cmp.closed c)) (enc eR (Cmp.closed c)))
  let x20_ := (Blk.box [V.d x15_, V.d x16_, V.d x14_, V.d x17_, V.d x18_, V.d x19_])
  let x21_ := (Blk.box [V.fn (Fn.func 75) [] [V.ptr 0 0 0, V.ptr 1 0 0, V.ptr 2 0 0]])
  let y3_ := (List.length r)
  let x22_ := (Nat.add y3_ 1)
  let x23_ := (Blk.box [V.d (D.int .i64 x4_), V.d (D.int .i64 x5_), V.d (D.int .i64 x6_), V.d (D.int .i64 x7_), V.d (D.int .i64 x8_), V.d (D.int .i64 x9_), V.d (D.int .i64 x10_)])
  let x24_ := (Blk.box [V.d x15_, V.d x16_, V.own 4 y3_ y3_, V.d x17_, V.d x18_, V.d x19_])
  let x25_ := (Blk.row 93 7 y3_ (enc eT r))
  let y2_ := (20, V.d (D.int .i64 (Int.ofNat x1_)))
  let y0_ := [(0, V.d x3_), (4, V.ptr 1 0 0), (10, V.ptr 3 0 0), (19, V.d x14_), y2_, (21, V.d (D.int .i64 (Int.ofNat k + (1 : Int))))]
  Tr.br x2_ (Tr.need ((0 : Int) ≤ Int.ofNat k ∧ Int.ofNat k < Int.ofNat x1_ ∧ okEl [0, 0, 0, 0, 0, 0, 0] y1_ 7 (Int.ofNat k)) (Tr.need (V.d x3_ = vsl eI l ∧ List.length l ≤ 1000000) (Tr.br (!hasI l (Int.ofNat k)) (Tr.need (List.length r = List.length r ∧ 93 = 93 ∧ 7 = 7 ∧ List.length (enc eT r) = List.length r * 7 ∧ List.length x11_ = 1 * 7 ∧ List.length r + 1 ≤ 140737488355328 ∧ x12_ * 56 ≤ 140737488355328) (Tr.need x13_ (Tr.leaf CExit.normal y0_ [some x20_, some (Blk.box [V.d fo]), some x21_, some (Blk.box [V.d x15_, V.d x16_, V.own 4 x22_ x12_, V.d x17_, V.d x18_, V.d x19_]), some (Blk.row 93 7 x22_ (enc eT r ++ x11_)), some x23_]))) (Tr.need x13_ (Tr.leaf CExit.normal y0_ [some x20_, some (Blk.box [V.d fo]), some x21_, some x24_, some x25_, some x23_]))))) (Tr.leaf (CExit.exit 0) [(0, V.d x3_), (4, V.ptr 1 0 0), (10, V.ptr 3 0 0), (19, V.d x14_), y2_, (21, V.d (D.int .i64 (Int.ofNat k))), (22, V.d (D.bool x2_))] [some x20_, some (Blk.box [V.d fo]), some x21_, some x24_, some x25_]) := by kernel_rfl
theorem x75 (c : Cmp) (l : List Int) (fo : D) (r : List Trd) (k : Nat) (b : Bool) : sS (X75 l) (doneK r75) [Fr.blk 0, Fr.seq (CCode.at c75 [1,0,1,0,1,1,1]), Fr.seq (CCode.at c75 [1,1])] (.exit 0) [(0, vsl eI l), (4, .ptr 1 0 0), (10, .ptr 3 0 0), (19, .d (.sl false c.trades.length (enc eT c.trades))), (20, vi c.trades.length), (21, vi k), (22, vb b)] [] (H75 c fo [some (.box (Cb6 c (.own 4 r.length r.length))), some (.row 93 7 r.length (enc eT r))]) =
  let x1_ := (List.length r = List.length r)
  let x2_ := (List.length (Cmp.held c))
  let x3_ := (List.length (Cmp.divs c))
  let x4_ := (List.length (Cmp.splits c))
  let x5_ := (List.length (Cmp.closed c))
  let x6_ := (dC (Cmp.houses c) x2_ (enc eI (Cmp.held c)) (List.length r) (enc eT r) x3_ (enc eV (Cmp.divs c)) x4_ (enc eS (Cmp.splits c)) x5_ (enc eR (Cmp.closed c)))
  let x7_ := (D.int .i64 (Cmp.houses c))
  let x8_ := (D.sl false x2_ (enc eI (Cmp.held c)))
  let x9_ := (D.sl false x3_ (enc eV (Cmp.divs c)))
  let x10_ := (D.sl false x4_ (enc eS (Cmp.splits c)))
  let x11_ := (D.sl false x5_ (enc eR (Cmp.closed c)))
  let x12_ := [V.d x7_, V.d x8_, V.d (D.sl false (List.length r) (enc eT r)), V.d x9_, V.d x10_, V.d x11_]
  Tr.need x1_ (Tr.need x1_ (Tr.need (Cv x6_ = V.agg x12_ ∧ faultM x6_ = (0 : Int)) (Tr.done (V.d (D.bool !List.isEmpty (truthsP x6_))) [some (Blk.box [V.d x7_, V.d x8_, V.d (D.sl false (List.length (Cmp.trades c)) (enc eT (Cmp.trades c))), V.d x9_, V.d x10_, V.d x11_]), some (Blk.box [V.d (D.sl false (List.length l) (enc eI l))]), some (Blk.box [V.fn (Fn.func 75) [] [V.ptr 0 0 0, V.ptr 1 0 0, V.ptr 2 0 0]]), some (Blk.box x12_), none]))) := by kernel_rfl
def keptK (c : Cmp) (l : List Int) : Nat → List Trd
 | 0 => []
 | k + 1 => if hasI l (k : Nat) = true then keptK c l k else keptK c l k ++ [lat c.trades (k : Nat)]
def Cmp.keep (c : Cmp) (l : List Int) : Cmp := { c with trades := keptK c l c.trades.length }
theorem keptK_len (c : Cmp) (l : List Int) : ∀ k, (keptK c l k).length ≤ k
 | 0 => Nat.le_refl _
 | k + 1 => by
  have := keptK_len c l k
  rw [keptK]
  split
  ·omega
  ·simp; omega
theorem a75_0 (c : Cmp) (l : List Int) (fo : D) (f : Int) (hf : faultM c = 0) (hfk : faultM (c.keep l) = 0) (hl : l.length ≤ 1000000) :
  ACalls Try.prog 75 [vsl eI l, vi f, vi 0, .ptr 0 0 0, .ptr 1 0 0, .ptr 2 0 0] (H75 c fo []) fun v h => v = vb (!(truthsP (c.keep l)).isEmpty) ∧ h = H75 c (dsl eI l) [] := by
 have hb := (fault_ok hf).1
 refine ACalls.cutAt (q75.calls (X75_ok l) (show Nat.ble 6 G75.sz = true from rfl) (w75 c l fo f) ?_)
 simp only [holds]
 refine ⟨fun _ => ?_, fun h => by simp at h⟩
 refine LoopP.state (StLe.ghostBox (id := 3) (off := 2) 93 7 rfl rfl) ?_
 refine lp_count (X75_ok l) c.trades.length (fun _ => True) (fun k => E75 c l k) (fun k => H75 c fo [some (.box (Cb6 c (.own 4 (keptK c l k).length (keptK c l k).length))), some (.row 93 7 (keptK c l k).length (enc eT (keptK c l k)))]) rfl rfl trivial (fun k _ => ⟨rfl, rfl, rfl⟩) ?_
 intro k hk _ Q' hn he hr
 rw [b75]
 have hlen := keptK_len c l k
 simp only [holds, Int.ofNat_eq_natCast, len_T, true_and, and_true, List.length_cons, List.length_nil, Nat.add_eq, cI_T0, cI_T1, cI_T2, cI_T3, cI_T4, cI_T5, cI_T6]
 refine ⟨fun e1 => ?_, fun e1 => ?_⟩
 ·have hlt : k < c.trades.length := by have := of_decide_eq_true e1; omega
  have hn := fun J => hn J hlt trivial
  refine ⟨⟨by omega, by omega, ok_T (by omega)⟩, ⟨rfl, hl⟩, fun h2 => ?_, fun h2 => ?_⟩
  ·have h2 : ¬ hasI l (k : Nat) = true := by simpa using h2
   simp only [keptK, if_neg h2, List.length_append, List.length_cons, List.length_nil, enc_append, enc_one] at hn
   refine ⟨⟨by omega, by omega⟩, ⟨by omega, by omega⟩, ?_⟩
   exact hn [_]
  ·have h2 : hasI l (k : Nat) = true := by simpa using h2
   simp only [keptK, if_pos h2] at hn
   exact ⟨⟨by omega, by omega⟩, hn [_]⟩
 ·have hge : k = c.trades.length := by have := of_decide_eq_false e1; omega
  subst hge
  refine he _ _ _ (ret_tree (R := fun v1 h1 => ∃ m, (H75 c fo []).length ≤ m ∧ m ≤ h1.length ∧ bel2 m v1 = true ∧ (h1.take m).all (blkBel m) = true ∧ (v1 = vb (!(truthsP (c.keep l)).isEmpty) ∧ h1.take m = H75 c (dsl eI l) [])) (X75_ok l) (doneK_ok rfl) (x75 _ _ _ _ _ _) ?_)
  have hK : dC c.houses c.held.length (enc eI c.held) (keptK c l c.trades.length).length (enc eT (keptK c l c.trades.length)) c.divs.length (enc eV c.divs) c.splits.length (enc eS c.splits) c.closed.length (enc eR c.closed) = c.keep l := by
   simp only [dC, dec_I, dec_T, dec_V, dec_S, dec_R]; rfl
  simp only [holds, true_and, hK]
  exact ⟨⟨rfl, hfk⟩, 3, Nat.le_refl _, by simp, rfl, rfl, rfl, rfl⟩
end
end Go.Proofs.Ytdnefcjbcieecaa
namespace Go.Proofs.Ytdnefcjbcieecaa
open Go Go.Proofs
noncomputable section
theorem q78 : FunIs Try.prog 78 G78 c78 r78 := ⟨Try.f78, Try.func78, k78, e78, by kernel_rfl, by kernel_rfl⟩
theorem ACalls.frz {P : Program} {f : FuncId} {vs : List V} {h : Heap} {id g : Nat} {ds : List D} {b : Option Blk} {R : V → Heap → Prop} (hb : h[id]? = some b) (hd : blkDs b = some (g, ds)) (hc : ACalls P f (vs.map (fzV id g ds)) (fzH id g ds h) R) : ACalls P f vs h R := by
 refine ⟨hc.1, fun M w args hm hs hu => ?_⟩
 obtain ⟨M2, r, z, hs2, hnw⟩ := freeze_sim hs hb hd
 have hp := freeze_post (.refl hs (Nat.le_refl _)) z hs2 hnw
 have hu2 : RepL M2 (vs.map (fzV id g ds)) args := ⟨by simpa using hu.1, fun k v c hv hcc => by
  rw [List.getElem?_map] at hv
  cases hx : vs[k]? with
  | none => rw [hx] at hv; simp at hv
  | some x =>
   rw [hx] at hv
   simp at hv
   subst hv
   exact z.rep (hu.2 k x c hx hcc)⟩
 refine (hc.2 M2 w args (hp.cc hm) hs2 hu2).mono fun e w' hq => ?_
 obtain ⟨cv, v, h2, M3, e1, p2, hv, hr⟩ := hq
 exact ⟨cv, v, h2, M3, e1, hp.trans (p2.mono (by simp [fzH])), hv, hr⟩
theorem w78n (a0 a1 a2 : Option Blk) : sx (mkX spNil) c78 [] (doneK r78) (envOf [.d .nils]) [] [a0, a1, a2] =
  Tr.need (DP.P (dp True)) (Tr.br (if false = true then !true else true) (Tr.done (V.d D.nils) [a0, a1, a2]) (Tr.need (0 = 0 ∧ 3 = 3 ∧ 1 = 1 ∧ 0 = 0 * 1 ∧ 0 = 0 * 1 ∧ 0 + 0 ≤ 140737488355328 ∧ (0 + 0) * 8 ≤ 140737488355328) (Tr.done (V.own 3 1 0) [a0, a1, a2, some (Blk.row 3 1 1 ([] ++ []))]))) := by kernel_rfl
theorem w78c (a0 a1 a2 : Option Blk) (n : Nat) (d : D) (cs : List D) : sx (mkX spNil) c78 [] (doneK r78) (envOf [.d (.sl false n (d :: cs))]) [] [a0, a1, a2] =
  Tr.need (DP.P (dp True)) (Tr.br (if false = true then !false else false) (Tr.done (V.d D.nils) [a0, a1, a2]) (Tr.need (0 = 0 ∧ 3 = 3 ∧ 1 = 1 ∧ 0 = 0 * 1 ∧ List.length (d :: cs) = n * 1 ∧ 0 + n ≤ 140737488355328 ∧ (0 + n) * 8 ≤ 140737488355328) (Tr.done (V.own 3 1 (0 + n)) [a0, a1, a2, some (Blk.row 3 1 1 ([] ++ d :: cs))]))) := by kernel_rfl
def ent78 : Ent := fun args h => match args, h with
 | [.d .nils], [a0, a1, a2] => some (True, .d .nils, some [a0, a1, a2])
 | [.d (.sl false n cs)], [a0, a1, a2] => some (cs.length = n ∧ 0 < n ∧ n < 1000000, .own 3 1 n, some [a0, a1, a2, some (.row 3 1 1 cs)])
 | _, _ => none
theorem ent78_ok : EntOk Try.prog 78 ent78 := by
 intro args h p v h' he hp
 unfold ent78 at he
 split at he
 ·cases he
  refine q78.calls (X := mkX spNil) (spNil_ok _) rfl (w78n _ _ _) ?_
  exact ⟨trivial, fun _ => ⟨rfl, rfl⟩, fun h => by simp at h⟩
 ·rename_i n cs a0 a1 a2
  cases he
  obtain ⟨h1, h2, h3⟩ := hp
  cases cs with
  | nil => simp at h1; omega
  | cons d cs =>
   refine q78.calls (X := mkX spNil) (spNil_ok _) rfl (w78c _ _ _ _ _ _) ?_
   simp only [holds, Nat.zero_add, List.nil_append, true_and]
   exact ⟨fun h => by simp at h, fun _ => ⟨⟨by omega, by omega, by omega⟩, rfl⟩⟩
 ·cases he
def X78 : Sx := { mkX (spAdd 78 ent78 spNil) with md := fun t => bif Nat.beq t 50 then 6 else bif Nat.beq t 58 then 1 else 0 }
def E75b (o : V) (m : Int) (i : Nat) : Env := [(0, o), (2, vi m), (3, .ptr 0 0 0), (5, .ptr 2 0 0), (13, vi i)]
theorem w75m (c : Cmp) (l : List Int) (o : V) (fo : D) (f m : Int) : sx (X75 l) c75 [] (doneK r75) (envOf [o, vi f, vi m, .ptr 0 0 0, .ptr 1 0 0, .ptr 2 0 0]) [] (H75 c fo []) =
  let x1_ := (List.length (Cmp.trades c))
  let x2_ := (D.sl false x1_ (enc eT (Cmp.trades c)))
  let x3_ := (D.int .i64 (Cmp.houses c))
  let x4_ := (D.sl false (List.length (Cmp.held c)) (enc eI (Cmp.held c)))
  let x5_ := (D.sl false (List.length (Cmp.divs c)) (enc eV (Cmp.divs c)))
  let x6_ := (D.sl false (List.length (Cmp.splits c)) (enc eS (Cmp.splits c)))
  let x7_ := (D.sl false (List.length (Cmp.closed c)) (enc eR (Cmp.closed c)))
  let x8_ := (Blk.box [V.d x3_, V.d x4_, V.d x2_, V.d x5_, V.d x6_, V.d x7_])
  let x9_ := (Blk.box [V.fn (Fn.func 75) [] [V.ptr 0 0 0, V.ptr 1 0 0, V.ptr 2 0 0]])
  Tr.br (m == (0 : Int)) (Tr.lp (CCode.at c75 [1, 0, 1, 0, 1, 1, 0, 1, 0, 0]) [Fr.blk 0, Fr.seq (CCode.at c75 [1, 0, 1, 0, 1, 1, 1]), Fr.seq (CCode.at c75 [1, 1])] [(0, o), (4, V.ptr 1 0 0), (10, V.ptr 3 0 0), (19, V.d x2_), (20, V.d (D.int .i64 (Int.ofNat x1_))), (21, V.d (D.int .i64 0))] [some x8_, some (Blk.box [V.d fo]), some x9_, some (Blk.box [V.d x3_, V.d x4_, V.d D.nils, V.d x5_, V.d x6_, V.d x7_])]) (Tr.lp (CCode.at c75 [1, 1, 0, 1, 0, 0]) [Fr.blk 2, Fr.seq (CCode.at c75 [1, 1, 1])] [(0, o), (2, V.d (D.int .i64 m)), (3, V.ptr 0 0 0), (5, V.ptr 2 0 0), (13, V.d (D.int .i64 f))] [some x8_, some (Blk.box [V.d fo]), some x9_]) := by kernel_rfl
theorem b75n (c : Cmp) (fo : D) (m : Int) (i : Nat) : sx X78 (CCode.at c75 [1,1,0,1,0,0]) [] leafK (E75b (.d .nils) m i) [] (H75 c fo []) =
  let y8_ := (List.length (Cmp.trades c))
  let y11_ := (D.sl false y8_ (enc eT (Cmp.trades c)))
  let y0_ := (Blk.box [V.d (D.int .i64 (Cmp.houses c)), V.d (D.sl false (List.length (Cmp.held c)) (enc eI (Cmp.held c))), V.d y11_, V.d (D.sl false (List.length (Cmp.divs c)) (enc eV (Cmp.divs c))), V.d (D.sl false (List.length (Cmp.splits c)) (enc eS (Cmp.splits c))), V.d (D.sl false (List.length (Cmp.closed c)) (enc eR (Cmp.closed c)))])
  let y6_ := [V.ptr 0 0 0, V.ptr 1 0 0, V.ptr 2 0 0]
  let y14_ := (Blk.box [V.fn (Fn.func 75) [] y6_])
  let y1_ := [some y0_, some (Blk.box [V.d fo]), some y14_, some (Blk.row 3 1 0 [D.int .i64 (Int.ofNat i)])]
  let y2_ := (-9223372036854775808 ≤ Int.ofNat i + (1 : Int) ∧ Int.ofNat i + (1 : Int) ≤ 9223372036854775807)
  let y12_ := (D.int .i64 (Int.ofNat i + (1 : Int)))
  let y3_ := [(0, V.d D.nils), (2, V.d (D.int .i64 m)), (3, V.ptr 0 0 0), (5, V.ptr 2 0 0), (13, V.d y12_)]
  let y4_ := (HLe (H75 c fo []) [some (Blk.box (Cb6 c (V.d y11_))), some (Blk.box [V.d fo]), some (Blk.box [V.fn (Fn.func (75 : FuncId)) [] y6_])])
  let y5_ := (DP.P (dp (List.length [D.int .i64 (Int.ofNat i)] = 1 * 1 ∧ 1 ≤ 140737488355328 ∧ 1 * 8 ≤ 140737488355328)))
  let y7_ := [V.own 3 0 1, V.d y12_, V.d (D.int .i64 (m - (1 : Int)))]
  let y9_ := (V.fn (Fn.func 75) [] y6_)
  let y10_ := [(9, V.d (D.bool true))]
  let y13_ := (decide (Int.ofNat i < Int.ofNat y8_))
  Tr.br y13_ (Tr.need y2_ (Tr.need (-9223372036854775808 ≤ m - (1 : Int) ∧ m - (1 : Int) ≤ 9223372036854775807) (Tr.two (Tr.need True (Tr.need y4_ (Tr.need y5_ (Tr.clB false y9_ y7_ y1_ fun b h' => Tr.br b (Tr.leaf CExit.ret y10_ h') (Tr.need y2_ (Tr.leaf CExit.normal y3_ h')))))) (Tr.need True (Tr.need y4_ (Tr.two (Tr.need y5_ (Tr.clB false y9_ y7_ y1_ fun b h' => Tr.br b (Tr.leaf CExit.ret y10_ h') (Tr.need y2_ (Tr.leaf CExit.normal y3_ h')))) (Tr.need y5_ (Tr.clB false y9_ y7_ y1_ fun b h' => Tr.br b (Tr.leaf CExit.ret y10_ h') (Tr.need y2_ (Tr.leaf CExit.normal y3_ h')))))))))) (Tr.leaf (CExit.exit 2) [(0, V.d D.nils), (2, V.d (D.int .i64 m)), (3, V.ptr 0 0 0), (5, V.ptr 2 0 0), (13, V.d (D.int .i64 (Int.ofNat i))), (45, V.d (D.bool y13_))] [some y0_, some (Blk.box [V.d fo]), some y14_]) := by kernel_rfl
theorem b75c (c : Cmp) (l : List Int) (fo : D) (m : Int) (i : Nat) : sx X78 (CCode.at c75 [1,1,0,1,0,0]) [] leafK (E75b (vsl eI l) m i) [] (H75 c fo []) =
  let y9_ := (List.length (Cmp.trades c))
  let y13_ := (D.sl false y9_ (enc eT (Cmp.trades c)))
  let y0_ := (Blk.box [V.d (D.int .i64 (Cmp.houses c)), V.d (D.sl false (List.length (Cmp.held c)) (enc eI (Cmp.held c))), V.d y13_, V.d (D.sl false (List.length (Cmp.divs c)) (enc eV (Cmp.divs c))), V.d (D.sl false (List.length (Cmp.splits c)) (enc eS (Cmp.splits c))), V.d (D.sl false (List.length (Cmp.closed c)) (enc eR (Cmp.closed c)))])
  let y1_ := (1 = 1 ∧ 3 = 3 ∧ 1 = 1 ∧ List.length (enc eI l) = List.length l * 1 ∧ List.length [D.int .i64 (Int.ofNat i)] = 1 * 1 ∧ List.length l + 1 ≤ 140737488355328 ∧ (List.length l + 1) * 8 ≤ 140737488355328)
  let y7_ := [V.ptr 0 0 0, V.ptr 1 0 0, V.ptr 2 0 0]
  let y16_ := (Blk.box [V.fn (Fn.func 75) [] y7_])
  let y2_ := [some y0_, some (Blk.box [V.d fo]), some y16_, some (Blk.row 3 1 2 (enc eI l ++ [D.int .i64 (Int.ofNat i)]))]
  let y10_ := (0, V.d (D.sl false (List.length l) (enc eI l)))
  let y14_ := (D.int .i64 (Int.ofNat i + (1 : Int)))
  let y3_ := [y10_, (2, V.d (D.int .i64 m)), (3, V.ptr 0 0 0), (5, V.ptr 2 0 0), (13, V.d y14_)]
  let y4_ := (-9223372036854775808 ≤ Int.ofNat i + (1 : Int) ∧ Int.ofNat i + (1 : Int) ≤ 9223372036854775807)
  let y5_ := (HLe (H75 c fo []) [some (Blk.box (Cb6 c (V.d y13_))), some (Blk.box [V.d fo]), some (Blk.box [V.fn (Fn.func (75 : FuncId)) [] y7_]), some (Blk.row 3 1 1 (enc eI l))])
  let y6_ := [V.own 3 2 (List.length l + 1), V.d y14_, V.d (D.int .i64 (m - (1 : Int)))]
  let y8_ := (List.length (enc eI l) = List.length l ∧ 0 < List.length l ∧ List.length l < 1000000)
  let y11_ := (V.fn (Fn.func 75) [] y7_)
  let y12_ := [(9, V.d (D.bool true))]
  let y15_ := (decide (Int.ofNat i < Int.ofNat y9_))
  Tr.br y15_ (Tr.need y4_ (Tr.need (-9223372036854775808 ≤ m - (1 : Int) ∧ m - (1 : Int) ≤ 9223372036854775807) (Tr.two (Tr.need y8_ (Tr.need y5_ (Tr.need y1_ (Tr.clB false y11_ y6_ y2_ fun b h' => Tr.br b (Tr.leaf CExit.ret y12_ h') (Tr.need y4_ (Tr.leaf CExit.normal y3_ h')))))) (Tr.need y8_ (Tr.need y5_ (Tr.two (Tr.need y1_ (Tr.clB false y11_ y6_ y2_ fun b h' => Tr.br b (Tr.leaf CExit.ret y12_ h') (Tr.need y4_ (Tr.leaf CExit.normal y3_ h')))) (Tr.need y1_ (Tr.clB false y11_ y6_ y2_ fun b h' => Tr.br b (Tr.leaf CExit.ret y12_ h') (Tr.need y4_ (Tr.leaf CExit.normal y3_ h')))))))))) (Tr.leaf (CExit.exit 2) [y10_, (2, V.d (D.int .i64 m)), (3, V.ptr 0 0 0), (5, V.ptr 2 0 0), (13, V.d (D.int .i64 (Int.ofNat i))), (45, V.d (D.bool y15_))] [some y0_, some (Blk.box [V.d fo]), some y16_]) := by kernel_rfl
theorem x75b (u0 u1 u2 u3 u4 : V) (b : Bool) (h : Heap) : sS X78 (doneK r75) [Fr.blk 2, Fr.seq (CCode.at c75 [1,1,1])] (.exit 2) [(0, u0), (2, u1), (3, u2), (5, u3), (13, u4), (45, vb b)] [] h =
  Tr.done (V.d (D.bool false)) h := by kernel_rfl
theorem X78_ok : SpOk Try.prog X78.sp := spAdd_ok ent78_ok (spNil_ok _)
def lvP (c : Cmp) (l : List Int) : Bool := !(truthsP (c.keep l)).isEmpty
def lvL {α : Type} (F : List Int → Nat → α → Bool × α) (l : List Int) : Nat → Nat → α → Bool × α
 | 0, _, fo => (false, fo)
 | r + 1, i, fo => if (F (l ++ [(i : Int)]) (i + 1) fo).1 = true then (true, (F (l ++ [(i : Int)]) (i + 1) fo).2) else lvL F l r (i + 1) (F (l ++ [(i : Int)]) (i + 1) fo).2
def lvF (c : Cmp) : Nat → List Int → Nat → D → Bool × D
 | 0, l, _, _ => (lvP c l, dsl eI l)
 | m + 1, l, i, fo => lvL (lvF c m) l (c.trades.length - i) i fo
theorem HLe_app (h k : Heap) : HLe h (h ++ k) := fun i b hb _ => by
 rw [List.getElem?_append_left (List.getElem?_eq_some_iff.1 hb).1]; exact hb
abbrev C75 : List V := [.ptr 0 0 0, .ptr 1 0 0, .ptr 2 0 0]
theorem call75 {c : Cmp} {fo fo' : D} {l : List Int} {i j : V} {g : Nat} {b : Bool} (hi : fzV 3 g (enc eI l) i = i) (hj : fzV 3 g (enc eI l) j = j)  (hib : bel2 3 i = true) (hjb : bel2 3 j = true)
  (h : ACalls Try.prog 75 (vsl eI l :: i :: j :: C75) (H75 c fo []) fun v h => v = vb b ∧ h = H75 c fo' []) :
  ACalls Try.prog 75 (.own 3 g l.length :: i :: j :: C75) (H75 c fo [some (.row 3 1 g (enc eI l))]) fun v h => v = vb b ∧ h = H75 c fo' [none] := by
 refine ACalls.frz (id := 3) (g := g) (ds := enc eI l) rfl rfl ?_
 have e1 : (V.own 3 g l.length :: i :: j :: C75).map (fzV 3 g (enc eI l)) = vsl eI l :: i :: j :: C75 := by
  simp only [List.map_cons, hi, hj, List.map_nil]
  simp [fzV, fz2, fz1, vsl, dsl]
 have e2 : fzH 3 g (enc eI l) (H75 c fo [some (.row 3 1 g (enc eI l))]) = H75 c fo [] ++ [none] := rfl
 rw [e1, e2]
 have := ACalls.more (h0 := H75 c fo []) (R := fun v k => v = vb b ∧ k = H75 c fo' []) (show (vsl eI l :: i :: j :: C75).all (bel2 3) = true from by simp only [List.all_cons, hib, hjb]; rfl) rfl (h.mono fun v h1 ⟨e1, e2⟩ => by
  subst e1; subst e2; exact ⟨rfl, rfl, rfl, rfl⟩) [none]
 refine this.mono ?_
 rintro v h1 ⟨k, _, ⟨rfl, rfl⟩, rfl⟩
 exact ⟨rfl, rfl⟩
theorem a75 {c : Cmp} (hf : faultM c = 0) (hk : ∀ l, faultM (c.keep l) = 0) : ∀ (m : Nat) (l : List Int) (i : Nat) (fo : D), i ≤ c.trades.length → l.length + m ≤ 1000 → ∀ o, (o = vsl eI l ∧ 0 < l.length ∨ o = .d .nils ∧ l = []) →
  ACalls Try.prog 75 (o :: vi i :: vi m :: C75) (H75 c fo []) fun v h => v = vb (lvF c m l i fo).1 ∧ h = H75 c (lvF c m l i fo).2 []
 | 0, l, i, fo, hi, hl, o, ho => by
  have h0 := a75_0 c l fo i hf (hk l) (by omega)
  rcases ho with ⟨rfl, _⟩ | ⟨rfl, rfl⟩
  ·exact h0
  ·exact ACalls.args (.cons .nilsF (.cons (.refl _) (.cons (.refl _) (.cons (.refl _) (.cons (.refl _) (.cons (.refl _) .nil)))))) h0
 | m + 1, l, i, fo, hi, hl, o, ho => by
  have ih := a75 hf hk m
  have hb := (fault_ok hf).1
  have hE : ∀ (j : Nat), (E75b o ((m + 1 : Nat) : Int) j).all (fun p => bel2 3 p.2) = true := by
   intro j
   rcases ho with ⟨rfl, _⟩ | ⟨rfl, _⟩ <;> rfl
  refine ACalls.cutAt (q75.calls (X75_ok l) (show Nat.ble 6 G75.sz = true from rfl) (w75m c l o fo i ((m + 1 : Nat) : Int)) ?_)
  simp only [holds]
  refine ⟨fun h => by simp at h; omega, fun _ => ?_⟩
  generalize hr : lvF c (m + 1) l i fo = r
  rw [lvF] at hr
  refine lp_state (S := Nat × D) (X := X78) X78_ok (fun σ => c.trades.length - σ.1) (fun σ => σ.1 ≤ c.trades.length ∧ lvL (lvF c m) l (c.trades.length - σ.1) σ.1 σ.2 = r) (fun σ => E75b o ((m + 1 : Nat) : Int) σ.1) (fun σ => H75 c σ.2 []) (i, fo) rfl rfl ⟨hi, hr⟩ (fun σ hσ => ⟨rfl, hE σ.1, rfl⟩) ?_
  rintro ⟨j, fj⟩ ⟨hj, hrj⟩ Q' hn he hrr
  simp only at hj hrj
  have fin : ¬ j < c.trades.length → r = (false, fj) := fun h => by
   have : c.trades.length - j = 0 := by omega
   rw [this, lvL] at hrj
   exact hrj.symm
  have key : ∀ (hlt : j < c.trades.length) (g : Nat) (H' : Heap) (n : Nat) (ds : List D), n = l.length + 1 → ds = enc eI (l ++ [(j : Int)]) → callV Try.prog (.fn (.func 75) [] C75) [.own 3 g n, vi ((j : Int) + 1), vi (((m + 1 : Nat) : Int) - 1)] (H75 c fj [some (.row 3 1 g ds)]) fun v h' =>
    ∃ b, v = .d (.bool b) ∧ (false = true → HLe H' h') ∧ (b = true → Q' .ret [(9, .d (.bool true))] h') ∧ (b = false → ((-9223372036854775808 : Int) ≤ (j : Int) + 1 ∧ (j : Int) + 1 ≤ 9223372036854775807) ∧ Q' .normal (E75b o ((m + 1 : Nat) : Int) (j + 1)) h') := by
   intro hlt g H' n ds hn1 hd1
   have hnl : n = (l ++ [(j : Int)]).length := by rw [hn1]; simp
   subst hd1
   rw [hnl]
   have em : ((m + 1 : Nat) : Int) - 1 = (m : Int) := by omega
   have ej : (j : Int) + 1 = ((j + 1 : Nat) : Int) := by omega
   rw [em, ej]
   have hc := call75 (g := g) (c := c) (fo := fj) (l := l ++ [(j : Int)]) (i := vi ((j + 1 : Nat) : Int)) (j := vi (m : Int)) rfl rfl rfl rfl (ih (l ++ [(j : Int)]) (j + 1) fj (by omega) (by simp; omega) _ (.inl ⟨rfl, by simp⟩))
   refine callV_holds ?_ hc
   rintro v h' ⟨rfl, rfl⟩
   have hs : c.trades.length - j = (c.trades.length - (j + 1)) + 1 := by omega
   rw [hs, lvL] at hrj
   refine ⟨_, rfl, fun h => (by cases h), fun hb1 => ?_, fun hb1 => ⟨⟨by omega, by omega⟩, ?_⟩⟩
   ·rw [if_pos hb1] at hrj
    refine hrr _ _ (retS_ret ?_)
    rw [← hrj]
    exact ⟨3, Nat.le_refl _, Nat.le_add_right 3 _, rfl, rfl, rfl, rfl⟩
   ·rw [if_neg (by rw [hb1]; decide)] at hrj
    exact hn (j + 1, _) [none] ⟨by show j + 1 ≤ c.trades.length; omega, hrj⟩ (by show c.trades.length - (j + 1) < c.trades.length - j; omega)
  rcases ho with ⟨rfl, hl0⟩ | ⟨rfl, rfl⟩
  ·rw [b75c]
   simp only [holds, Int.ofNat_eq_natCast, true_and, and_true, len_I, List.length_cons, List.length_nil]
   refine ⟨fun e1 => ?_, fun e1 => ?_⟩
   ·have hlt : j < c.trades.length := by have := of_decide_eq_true e1; omega
    have k1 := fun H' => key hlt 2 H' _ _ rfl (show enc eI l ++ [D.int .i64 (j : Int)] = _ by rw [enc_append, enc_one]; rfl)
    refine ⟨⟨by omega, by omega⟩, ⟨by omega, by omega⟩, ⟨⟨by omega, hl0, by omega⟩, HLe_app (H75 c fj []) [_], ⟨by omega, by omega⟩, k1 _⟩, ⟨by omega, hl0, by omega⟩, HLe_app (H75 c fj []) [_], ⟨⟨by omega, by omega⟩, k1 _⟩, ⟨⟨by omega, by omega⟩, k1 _⟩⟩
   ·have hge : ¬ j < c.trades.length := by have := of_decide_eq_false e1; omega
    have hr2 := fin hge
    subst hr2
    refine he _ _ _ (ret_tree (R := fun v1 h1 => ∃ m, (H75 c fo []).length ≤ m ∧ m ≤ h1.length ∧ bel2 m v1 = true ∧ (h1.take m).all (blkBel m) = true ∧ (v1 = vb (false, fj).1 ∧ h1.take m = H75 c (false, fj).2 [])) X78_ok (doneK_ok rfl) (x75b _ _ _ _ _ _ _) ?_)
    exact ⟨3, Nat.le_refl _, Nat.le_refl _, rfl, rfl, rfl, rfl⟩
  ·rw [b75n]
   simp only [holds, Int.ofNat_eq_natCast, true_and, and_true, List.length_cons, List.length_nil]
   refine ⟨fun e1 => ?_, fun e1 => ?_⟩
   ·have hlt : j < c.trades.length := by have := of_decide_eq_true e1; omega
    have k1 := fun H' => key hlt 0 H' 1 [D.int .i64 (j : Int)] rfl rfl
    refine ⟨⟨by omega, by omega⟩, ⟨by omega, by omega⟩, ⟨HLe.refl _, ⟨by omega, by omega⟩, k1 _⟩, HLe.refl _, ⟨⟨by omega, by omega⟩, k1 _⟩, ⟨⟨by omega, by omega⟩, k1 _⟩⟩
   ·have hge : ¬ j < c.trades.length := by have := of_decide_eq_false e1; omega
    have hr2 := fin hge
    subst hr2
    refine he _ _ _ (ret_tree (R := fun v1 h1 => ∃ m, (H75 c fo []).length ≤ m ∧ m ≤ h1.length ∧ bel2 m v1 = true ∧ (h1.take m).all (blkBel m) = true ∧ (v1 = vb (false, fj).1 ∧ h1.take m = H75 c (false, fj).2 [])) X78_ok (doneK_ok rfl) (x75b _ _ _ _ _ _ _) ?_)
    exact ⟨3, Nat.le_refl _, Nat.le_refl _, rfl, rfl, rfl, rfl⟩
end
end Go.Proofs.Ytdnefcjbcieecaa
namespace Go.Proofs.Ytdnefcjbcieecaa
open Go Go.Proofs
def G70 : Cfg := ⟨[5], [(0, [1]), (1, [1, 3]), (2, [1, 3, 4]), (3, [1, 3, 4, 10]), (5, [1, 3, 4, 5]), (6, [1, 3, 4]), (4, [1, 3, 4]), (7, [2])], 38, []⟩
def r70 : List CRes := [.tmp 2]
def c70 : CCode :=
(.seq (.region [
 rs 1 (.box false (.tmp 0)),
 mI 2 0] (some [1]))
(.seq (.region [
 mI 3 1] (some [1, 3]))
(.seq (.seq (.region [
 mI 4 0] (some [1, 3, 4]))
(.block 0 (.loop (.seq (.seq (.region [
 mV 6 4,
 fA 7 2 1,
 lD 8 7,
 rs 9 (.len (.tmp 8)),
 rs 10 (.bin .lss (.tmp 6) (.tmp 9))] (some [1, 3, 4, 10])) (.cond (.tmp 10) .skip (.exit 0))) (.seq (.block 1 (.seq (.region [
 fA 13 2 1,
 lD 14 13,
 mV 15 4,
 iX 16 7 14 15,
 lS 17 7 16,
 rs 5 (.alloc [(.d (.int .i64 0)), (.d (.int .i64 0)), (.d (.int .i64 0)), (.d (.int .i64 0)), (.d (.int .i64 0)), (.d (.int .i64 0)), (.d (.int .i64 0))]),
 rn (.store 7 (.tmp 5) (.tmp 17))] (some [1, 3, 4, 5])) (.region [
 mV 18 3,
 fA 19 3 5,
 fA 20 1 19,
 lD 21 20,
 fA 22 3 5,
 fA 23 0 22,
 lD 24 23,
 rs 25 (.bin .sub (.tmp 21) (.tmp 24)),
 rs 26 (.bin .add (.tmp 25) (ci 1)),
 fA 27 5 5,
 fA 28 1 27,
 lD 29 28,
 fA 30 5 5,
 fA 31 0 30,
 lD 32 31,
 rs 33 (.bin .sub (.tmp 29) (.tmp 32)),
 rs 34 (.bin .add (.tmp 33) (ci 1)),
 rs 35 (.bin .mul (.tmp 26) (.tmp 34)),
 rs 36 (.bin .mul (.tmp 18) (.tmp 35)),
 mV 3 36] (some [1, 3, 4])))) (.region [
 mV 11 4,
 rs 12 (.bin .add (.tmp 11) (ci 1)),
 mV 4 12] (some [1, 3, 4])))))))
(.seq (.region [
 mV 37 3,
 mV 2 37] (some [2]))
.ret))))
theorem k70 : Try.f70.body.bind (compC Try.prog G70) = some c70 := by kernel_rfl
theorem e70 : compRes Try.prog Try.f70.results.toList = some r70 := by kernel_rfl
def G5 : Cfg := ⟨[11], [(0, [1, 2]), (1, [1, 2, 18]), (2, [4]), (3, [1, 2, 5, 6, 7, 8]), (4, [1, 2, 5, 6, 7, 8, 9]), (5, [1, 2, 5, 6, 7, 8, 9, 41]), (6, [1, 2, 5, 6, 7, 8, 9]), (7, [1, 2, 5, 6, 7, 8, 9, 10]), (8, [1, 2, 5, 6, 7, 8, 9, 10, 43]), (9, [1, 2, 5, 6, 7, 8, 9, 10]), (10, [1, 2, 5, 6, 7, 8, 9, 10, 48]), (11, [1, 2, 5, 6, 7, 8, 9, 10]), (12, [1, 2, 5, 6, 7, 8, 9, 10, 50]), (13, [4]), (14, [2, 5, 6, 7, 8, 10, 11]), (15, [2, 5, 6, 7, 8, 10, 11, 12, 13, 14]), (16, [2, 5, 6, 7, 8, 10, 11, 12, 13, 14, 15]), (17, [2, 5, 6, 7, 8, 10, 11, 12, 13, 14, 15, 76]), (19, [2, 5, 6, 7, 8, 10, 11, 12, 13, 14, 15]), (18, [2, 5, 6, 7, 8, 10, 11, 12, 13, 14, 15]), (20, [4])], 132, []⟩
def r5 : List CRes := [.tmp 4]
def c5 : CCode :=
(.seq (.region [
 rs 2 (.box false (.tmp 0)),
 mB 4 false] (some [1, 2]))
(.seq (.seq (.region [
 lS 16 6 2,
 ⟨(some 17), none, .call (.func 32) [(.tmp 16), (ci 150)]⟩,
 rs 18 (.un .not (.tmp 17))] (some [1, 2, 18]))
(.cond (.tmp 18) (.seq (.region [
 ⟨(some 19), none, .call (.func 18) []⟩,
 mV 4 19] (some [4]))
 .ret)
 .skip))
(.seq (.region [
 lS 21 6 2,
 kL1 22 20 21,
 mV 23 1,
 kL2 24 33 22 23,
 mV 20 24,
 rs 25 (.extract (.tmp 20) 0),
 rs 26 (.extract (.tmp 20) 1),
 rs 27 (.extract (.tmp 20) 2),
 rs 28 (.extract (.tmp 20) 3),
 mV 5 25,
 mV 6 26,
 mV 7 27,
 mV 8 28] (some [1, 2, 5, 6, 7, 8]))
(.seq (.region [
 lS 29 6 2,
 kL1 30 34 29,
 mV 9 30] (some [1, 2, 5, 6, 7, 8, 9]))
(.seq (.seq (.region [
 mV 31 9,
 rs 32 (.bin .eql (.tmp 31) (ci 0)),
 mV 33 32,
 qV 34 33 true 1,
 qA 35 33 true 3 2,
 qL 36 33 true 35,
 rg 37 33 true (.len (.tmp 36)),
 rg 38 33 true (.bin .sub (.tmp 37) (ci 1)),
 ⟨(some 39), (some (33, true)), .call (.func 23) [(.tmp 34), (ci 0), (.tmp 38)]⟩,
 rg 40 33 true (.un .not (.tmp 39)),
 pA 41 33 40] (some [1, 2, 5, 6, 7, 8, 9, 41]))
(.cond (.tmp 41) (.region [
 mI 9 2] (some [1, 2, 5, 6, 7, 8, 9]))
 .skip))
(.seq (.region [
 rs 10 (.move (.const (.slice none 0 0)))] (some [1, 2, 5, 6, 7, 8, 9, 10]))
(.seq (.seq (.region [
 mV 42 9,
 rs 43 (.bin .eql (.tmp 42) (ci 0))] (some [1, 2, 5, 6, 7, 8, 9, 10, 43]))
(.cond (.tmp 43) (.seq (.region [
 lS 44 6 2,
 kL1 45 35 44,
 mV 10 45] (some [1, 2, 5, 6, 7, 8, 9, 10])) (.seq (.region [
 mV 46 10,
 rs 47 (.len (.tmp 46)),
 rs 48 (.bin .eql (.tmp 47) (ci 0))] (some [1, 2, 5, 6, 7, 8, 9, 10, 48])) (.cond (.tmp 48) (.region [
 mI 9 9] (some [1, 2, 5, 6, 7, 8, 9, 10]))
 .skip)))
 .skip))
(.seq (.seq (.region [
 mV 49 9,
 rs 50 (.bin .neq (.tmp 49) (ci 0))] (some [1, 2, 5, 6, 7, 8, 9, 10, 50]))
(.cond (.tmp 50) (.seq (.region [
 mV 51 8,
 mV 52 9,
 rs 53 (.bin .eql (.tmp 51) (.tmp 52)),
 mV 54 53,
 qV 55 54 true 5,
 rg 56 54 true (.len (.tmp 55)),
 qV 57 54 true 6,
 rg 58 54 true (.len (.tmp 57)),
 rg 59 54 true (.bin .add (.tmp 56) (.tmp 58)),
 qV 60 54 true 7,
 rg 61 54 true (.len (.tmp 60)),
 rg 62 54 true (.bin .add (.tmp 59) (.tmp 61)),
 rg 63 54 true (.bin .eql (.tmp 62) (ci 0)),
 pA 64 54 63,
 mV 65 64,
 ⟨(some 66), (some (65, true)), .call (.func 18) []⟩,
 pA 67 65 66,
 mV 4 67] (some [4]))
 .ret)
 .skip))
(.seq (.region [
 fA 68 3 2,
 lD 69 68,
 mV 70 1,
 iX 71 3 69 70,
 lS 72 3 71,
 rs 11 (.alloc [(.d (.int .i64 0)), (.d (.int .i64 0)), (.d (.int .i64 0))]),
 rn (.store 3 (.tmp 11) (.tmp 72))] (some [2, 5, 6, 7, 8, 10, 11]))
(.seq (.region [
 rs 12 (.move (.const (.slice none 0 0))),
 rs 13 (.move (.const (.slice none 0 0))),
 rs 14 (.move (.const (.slice none 0 0)))] (some [2, 5, 6, 7, 8, 10, 11, 12, 13, 14]))
(.seq (.seq (.region [
 mI 15 0] (some [2, 5, 6, 7, 8, 10, 11, 12, 13, 14, 15]))
(.block 0 (.loop (.seq (.seq (.region [
 mV 73 15,
 mV 74 10,
 rs 75 (.len (.tmp 74)),
 rs 76 (.bin .lss (.tmp 73) (.tmp 75))] (some [2, 5, 6, 7, 8, 10, 11, 12, 13, 14, 15, 76])) (.cond (.tmp 76) .skip (.exit 0))) (.seq (.block 1 (.region [
 mV 79 12,
 lS 80 6 2,
 mV 81 10,
 mV 82 15,
 iX 83 2 81 82,
 lS 84 2 83,
 lS 85 3 11,
 mV 87 15,
 rs 88 (.bin .eql (.tmp 87) (ci 0)),
 mV 90 13,
 lS 91 6 2,
 mV 92 10,
 mV 93 15,
 iX 94 2 92 93,
 lS 95 2 94,
 lS 96 3 11,
 mV 98 15,
 rs 99 (.bin .eql (.tmp 98) (ci 0)),
 mV 101 14,
 lS 102 6 2,
 mV 103 10,
 mV 104 15,
 iX 105 2 103 104,
 lS 106 2 105,
 lS 107 3 11,
 mV 109 15,
 rs 110 (.bin .eql (.tmp 109) (ci 0)),
 ⟨(some 86), none, .callx (.func 29) [(.tmp 80), (.tmp 84), (.tmp 85)]⟩,
 ⟨(some 89), none, .callx (.func 36) [(.tmp 79), (.tmp 86), (.tmp 88)]⟩,
 ⟨(some 97), none, .callx (.func 30) [(.tmp 91), (.tmp 95), (.tmp 96)]⟩,
 ⟨(some 100), none, .callx (.func 36) [(.tmp 90), (.tmp 97), (.tmp 99)]⟩,
 ⟨(some 108), none, .callx (.func 31) [(.tmp 102), (.tmp 106), (.tmp 107)]⟩,
 kL3 111 36 101 108 110,
 mV 12 89,
 mV 13 100,
 mV 14 111] (some [2, 5, 6, 7, 8, 10, 11, 12, 13, 14, 15]))) (.region [
 mV 77 15,
 rs 78 (.bin .add (.tmp 77) (ci 1)),
 mV 15 78] (some [2, 5, 6, 7, 8, 10, 11, 12, 13, 14, 15])))))))
(.seq (.region [
 mV 112 8,
 rs 113 (.bin .eql (.tmp 112) (ci 0)),
 mV 114 113,
 qV 115 114 true 5,
 qV 116 114 true 12,
 ⟨(some 117), (some (114, true)), .call (.func 37) [(.tmp 115), (.tmp 116)]⟩,
 pA 118 114 117,
 mV 119 118,
 qV 120 119 true 6,
 qV 121 119 true 13,
 ⟨(some 122), (some (119, true)), .call (.func 37) [(.tmp 120), (.tmp 121)]⟩,
 pA 123 119 122,
 mV 124 123,
 qV 125 124 true 7,
 qV 126 124 true 14,
 ⟨(some 127), (some (124, true)), .call (.func 37) [(.tmp 125), (.tmp 126)]⟩,
 pA 128 124 127,
 mV 129 128,
 ⟨(some 130), (some (129, true)), .call (.func 18) []⟩,
 pA 131 129 130,
 mV 4 131] (some [4]))
.ret))))))))))))
theorem k5 : Try.f5.body.bind (compC Try.prog G5) = some c5 := by kernel_rfl
theorem e5 : compRes Try.prog Try.f5.results.toList = some r5 := by kernel_rfl
end Go.Proofs.Ytdnefcjbcieecaa
namespace Go.Proofs.Ytdnefcjbcieecaa
open Go Go.Proofs
noncomputable section
theorem q70 : FunIs Try.prog 70 G70 c70 r70 := ⟨Try.f70, Try.func70, k70, e70, by kernel_rfl, by kernel_rfl⟩
def E70 (c : Cmp) (m : Int) (k : Nat) : Env := [(1, .rptr (Cds c) 0), (3, vi m), (4, vi k)]
theorem w70 (c : Cmp) : sx (mkX spNil) c70 [] (doneK r70) (envOf [Cv c]) [] [] =
  Tr.lp (CCode.at c70 [1, 1, 0, 1, 0, 0]) [Fr.blk 0, Fr.seq (CCode.at c70 [1, 1, 1])] [(1, V.rptr (Cds c) 0), (3, V.d (D.int .i64 (1 : Int))), (4, V.d (D.int .i64 0))] [] := by kernel_rfl
theorem b70 (c : Cmp) (m : Int) (k : Nat) : sx (mkX spNil) (CCode.at c70 [1,1,0,1,0,0]) [] leafK (E70 c m k) [] [] =
  let x1_ := (List.length (Cmp.trades c))
  let x2_ := (decide (Int.ofNat k < Int.ofNat x1_))
  let y0_ := (enc eT (Cmp.trades c))
  let x3_ := (cI y0_ 7 (Int.ofNat k) 4 - cI y0_ 7 (Int.ofNat k) 3 + (1 : Int))
  let x4_ := (cI y0_ 7 (Int.ofNat k) 6 - cI y0_ 7 (Int.ofNat k) 5 + (1 : Int))
  Tr.br x2_ (Tr.need ((0 : Int) ≤ Int.ofNat k ∧ Int.ofNat k < Int.ofNat x1_ ∧ okEl [0, 0, 0, 0, 0, 0, 0] y0_ 7 (Int.ofNat k)) (Tr.need (-9223372036854775808 ≤ cI y0_ 7 (Int.ofNat k) 4 - cI y0_ 7 (Int.ofNat k) 3 ∧ cI y0_ 7 (Int.ofNat k) 4 - cI y0_ 7 (Int.ofNat k) 3 ≤ 9223372036854775807) (Tr.need (-9223372036854775808 ≤ cI y0_ 7 (Int.ofNat k) 4 - cI y0_ 7 (Int.ofNat k) 3 + (1 : Int) ∧ cI y0_ 7 (Int.ofNat k) 4 - cI y0_ 7 (Int.ofNat k) 3 + (1 : Int) ≤ 9223372036854775807) (Tr.need (-9223372036854775808 ≤ cI y0_ 7 (Int.ofNat k) 6 - cI y0_ 7 (Int.ofNat k) 5 ∧ cI y0_ 7 (Int.ofNat k) 6 - cI y0_ 7 (Int.ofNat k) 5 ≤ 9223372036854775807) (Tr.need (-9223372036854775808 ≤ cI y0_ 7 (Int.ofNat k) 6 - cI y0_ 7 (Int.ofNat k) 5 + (1 : Int) ∧ cI y0_ 7 (Int.ofNat k) 6 - cI y0_ 7 (Int.ofNat k) 5 + (1 : Int) ≤ 9223372036854775807) (Tr.need (-9223372036854775808 ≤ x3_ * x4_ ∧ x3_ * x4_ ≤ 9223372036854775807) (Tr.need (-9223372036854775808 ≤ m * (x3_ * x4_) ∧ m * (x3_ * x4_) ≤ 9223372036854775807) (Tr.need (-9223372036854775808 ≤ Int.ofNat k + (1 : Int) ∧ Int.ofNat k + (1 : Int) ≤ 9223372036854775807) (Tr.leaf CExit.normal [(1, V.rptr (Cds c) 0), (3, V.d (D.int .i64 (m * (x3_ * x4_)))), (4, V.d (D.int .i64 (Int.ofNat k + (1 : Int))))] [some (Blk.box [V.d (D.int .i64 (cI y0_ 7 (Int.ofNat k) 0)), V.d (D.int .i64 (cI y0_ 7 (Int.ofNat k) 1)), V.d (D.int .i64 (cI y0_ 7 (Int.ofNat k) 2)), V.d (D.int .i64 (cI y0_ 7 (Int.ofNat k) 3)), V.d (D.int .i64 (cI y0_ 7 (Int.ofNat k) 4)), V.d (D.int .i64 (cI y0_ 7 (Int.ofNat k) 5)), V.d (D.int .i64 (cI y0_ 7 (Int.ofNat k) 6))])]))))))))) (Tr.leaf (CExit.exit 0) [(1, V.rptr (Cds c) 0), (3, V.d (D.int .i64 m)), (4, V.d (D.int .i64 (Int.ofNat k))), (10, V.d (D.bool x2_))] []) := by kernel_rfl
theorem x70 (c : Cmp) (m : Int) (u : V) (z : Bool) : sS (mkX spNil) (doneK r70) [Fr.blk 0, Fr.seq (CCode.at c70 [1,1,1])] (.exit 0) [(1, .rptr (Cds c) 0), (3, vi m), (4, u), (10, vb z)] [] [] =
  Tr.done (V.d (D.int .i64 m)) [] := by kernel_rfl
def wS (x : Trd) : Int := x.sold.hi - x.sold.lo + 1
def wD (x : Trd) : Int := x.deliv.hi - x.deliv.lo + 1
def manyK (c : Cmp) : Nat → Int
 | 0 => 1
 | k + 1 => manyK c k * (wS (lat c.trades (k : Nat)) * wD (lat c.trades (k : Nat)))
def many (c : Cmp) : Int := manyK c c.trades.length
theorem trade_wide {c : Cmp} (hf : faultM c = 0) {k : Nat} (hk : k < c.trades.length) : 0 ≤ (lat c.trades (k : Nat)).sold.lo ∧ (lat c.trades (k : Nat)).sold.hi ≤ 11 ∧ 0 ≤ (lat c.trades (k : Nat)).deliv.lo ∧ (lat c.trades (k : Nat)).deliv.hi ≤ 11 ∧ 1 ≤ wS (lat c.trades (k : Nat)) ∧ wS (lat c.trades (k : Nat)) ≤ 3 ∧ 1 ≤ wD (lat c.trades (k : Nat)) ∧ wD (lat c.trades (k : Nat)) ≤ 3 := by
 have htr := trade_in hf hk
 simp only [okTr, Bool.and_eq_true, Rng.short, Rng.days, Rng.has, inR, isDay, decide_eq_true_eq] at htr
 unfold wS wD
 omega
theorem mul9 {m a b : Int} {M : Int} (h0 : 1 ≤ m) (h1 : m ≤ M) (ha : 1 ≤ a) (ha3 : a ≤ 3) (hb : 1 ≤ b) (hb3 : b ≤ 3) : 1 ≤ a * b ∧ a * b ≤ 9 ∧ 1 ≤ m * (a * b) ∧ m * (a * b) ≤ M * 9 := by
 have e1 : a * b ≤ 3 * 3 := Int.mul_le_mul ha3 hb3 (by omega) (by omega)
 have e2 : 1 * 1 ≤ a * b := Int.mul_le_mul ha hb (by omega) (by omega)
 have e3 : 1 * 1 ≤ m * (a * b) := Int.mul_le_mul h0 (by omega) (by omega) (by omega)
 have e4 : m * (a * b) ≤ M * 9 := Int.mul_le_mul h1 (by omega) (by omega) (by omega)
 omega
theorem manyK_in {c : Cmp} (hf : faultM c = 0) : ∀ k, k ≤ c.trades.length → 1 ≤ manyK c k ∧ manyK c k ≤ 9 ^ k
 | 0, _ => by simp [manyK]
 | k + 1, hk => by
  have ih := manyK_in hf k (by omega)
  have h := trade_wide hf (show k < c.trades.length by omega)
  have := mul9 ih.1 ih.2 h.2.2.2.2.1 h.2.2.2.2.2.1 h.2.2.2.2.2.2.1 h.2.2.2.2.2.2.2
  rw [manyK, Int.pow_succ]
  exact ⟨this.2.2.1, this.2.2.2⟩
theorem y70 (c : Cmp) (hf : faultM c = 0) : Yields Try.prog 70 [Cv c] (vi (many c)) := by
 have hb := (fault_ok hf).1
 refine q70.yieldsK (X := mkX spNil) (spNil_ok _) rfl rfl rfl (w70 c) ?_
 simp only [holds]
 refine lp_count (X := mkX spNil) (spNil_ok _) c.trades.length (fun _ => True) (fun k => E70 c (manyK c k) k) (fun _ => []) rfl rfl trivial (fun k _ => ⟨rfl, rfl, rfl⟩) ?_
 intro k hk _ Q' hn he hr
 rw [b70]
 simp only [holds, Int.ofNat_eq_natCast, cI_T0, cI_T1, cI_T2, cI_T3, cI_T4, cI_T5, cI_T6]
 refine ⟨fun e1 => ?_, fun e1 => ?_⟩
 ·have hlt : k < c.trades.length := by have := of_decide_eq_true e1; omega
  have h := trade_wide hf hlt
  have hm := manyK_in hf k hk
  have h9 : (9 : Int) ^ k ≤ 9 ^ 4 := by
   have : k = 0 ∨ k = 1 ∨ k = 2 ∨ k = 3 := by omega
   rcases this with rfl | rfl | rfl | rfl <;> decide
  have h94 : (9 : Int) ^ 4 = 6561 := by decide
  have hp := mul9 hm.1 (show manyK c k ≤ 6561 by omega) h.2.2.2.2.1 h.2.2.2.2.2.1 h.2.2.2.2.2.2.1 h.2.2.2.2.2.2.2
  have hn := fun J => hn J hlt trivial
  simp only [manyK] at hn
  unfold wS wD at hp hn h
  exact ⟨⟨by omega, by omega, ok_T (by omega)⟩, ⟨by omega, by omega⟩, ⟨by omega, by omega⟩, ⟨by omega, by omega⟩, ⟨by omega, by omega⟩, ⟨by omega, by omega⟩, ⟨by omega, by omega⟩, ⟨by omega, by omega⟩, hn _⟩
 ·have hge : k = c.trades.length := by have := of_decide_eq_false e1; omega
  subst hge
  refine he _ _ _ (ret_tree (X := mkX spNil) (spNil_ok _) (doneK_ok rfl) (x70 _ _ _ _) ?_)
  simp only [holds]
  exact .refl _
end
end Go.Proofs.Ytdnefcjbcieecaa
namespace Go.Proofs.Ytdnefcjbcieecaa
open Go Go.Proofs
noncomputable section
instance : DecidableEq Rng := fun a b => decidable_of_iff (a.lo = b.lo ∧ a.hi = b.hi) ⟨fun h => by cases a; cases b; simp only at h; rw [h.1, h.2], fun h => by rw [h]; exact ⟨rfl, rfl⟩⟩
end
end Go.Proofs.Ytdnefcjbcieecaa
namespace Go.Proofs.Ytdnefcjbcieecaa
open Go Go.Proofs
noncomputable section
def nthN (c : Cmp) (n : Int) : Nat → Int
 | 0 => n
 | k + 1 => ((nthN c n k).tdiv (wS (lat c.trades (k : Nat)))).tdiv (wD (lat c.trades (k : Nat)))
def nthK (c : Cmp) (n : Int) : Nat → Tru
 | 0 => ⟨[], []⟩
 | k + 1 => (nthK c n k).snoc ((lat c.trades (k : Nat)).sold.lo + (nthN c n k).tmod (wS (lat c.trades (k : Nat)))) ((lat c.trades (k : Nat)).deliv.lo + ((nthN c n k).tdiv (wS (lat c.trades (k : Nat)))).tmod (wD (lat c.trades (k : Nat))))
def nth (c : Cmp) (n : Int) : Tru := nthK c n c.trades.length
end
end Go.Proofs.Ytdnefcjbcieecaa
namespace Go.Proofs.Ytdnefcjbcieecaa
open Go Go.Proofs
noncomputable section
def ent70 := entC (fun c => faultM c = 0) (fun c => vi (many c))
theorem ent70_ok : EntOk Try.prog 70 ent70 := entC_ok fun c h => y70 c h
def trK (c : Cmp) : Nat → List Tru
 | 0 => []
 | k + 1 => if truthB c (nth c (k : Nat)) = true then trK c k ++ [nth c (k : Nat)] else trK c k
def truthsR (c : Cmp) : List Tru := trK c (many c).toNat
end
end Go.Proofs.Ytdnefcjbcieecaa
namespace Go.Proofs.Ytdnefcjbcieecaa
open Go Go.Proofs
noncomputable section
theorem upto_mem {a b x : Int} : x ∈ upto a b ↔ a ≤ x ∧ x ≤ b := by
 simp only [upto, List.mem_map, List.mem_range]
 constructor
 ·rintro ⟨k, hk, rfl⟩; omega
 ·intro h; exact ⟨(x - a).toNat, by omega, by omega⟩
def datedL : List Trd → List Int → List Int → Prop
 | [], [], [] => True
 | x :: xs, s :: ss, d :: ds => x.sold.has s = true ∧ x.deliv.has d = true ∧ s ≤ d ∧ datedL xs ss ds
 | _, _, _ => False
theorem comp_mem {c : Cmp} : ∀ (xs : List Trd) (t u : Tru), u ∈ comp c xs t ↔ ∃ ss ds, datedL xs ss ds ∧ u = ⟨t.sold ++ ss, t.deliv ++ ds⟩
 | [], t, u => by
  simp only [comp, List.mem_singleton]
  constructor
  ·rintro rfl; exact ⟨[], [], trivial, by simp⟩
  ·rintro ⟨ss, ds, h, rfl⟩
   cases ss with
   | nil => cases ds with
    | nil => simp
    | cons => exact h.elim
   | cons => exact h.elim
 | x :: xs, t, u => by
  simp only [comp, List.mem_flatMap, upto_mem]
  constructor
  ·rintro ⟨s, hs, d, hd, h⟩
   obtain ⟨ss, ds, h2, rfl⟩ := (comp_mem xs _ u).1 h
   have hmx : s ≤ max2 s x.deliv.lo ∧ x.deliv.lo ≤ max2 s x.deliv.lo := by unfold max2; split <;> omega
   refine ⟨s :: ss, d :: ds, ⟨?_, ?_, by omega, h2⟩, by simp [Tru.snoc]⟩
   ·simp only [Rng.has, inR, decide_eq_true_eq]; omega
   ·simp only [Rng.has, inR, decide_eq_true_eq]; omega
  ·rintro ⟨ss, ds, h, rfl⟩
   cases ss with
   | nil => exact h.elim
   | cons s ss => cases ds with
    | nil => exact h.elim
    | cons d ds =>
     obtain ⟨h1, h2, h3, h4⟩ := h
     simp only [Rng.has, inR, decide_eq_true_eq] at h1 h2
     have hmx : max2 s x.deliv.lo ≤ d := by unfold max2; split <;> omega
     exact ⟨s, by omega, d, by omega, (comp_mem xs _ _).2 ⟨ss, ds, h4, by simp [Tru.snoc]⟩⟩
theorem datedL_len : ∀ (xs : List Trd) (ss ds : List Int), datedL xs ss ds → ss.length = xs.length ∧ ds.length = xs.length
 | [], [], [], _ => ⟨rfl, rfl⟩
 | x :: xs, s :: ss, d :: ds, h => by
  have := datedL_len xs ss ds h.2.2.2
  simp [this]
theorem datedL_iff : ∀ (xs : List Trd) (ss ds : List Int), ss.length = xs.length → ds.length = xs.length → (datedL xs ss ds ↔ ∀ k : Nat, k < xs.length → (lat xs (k : Nat)).sold.has (lat ss (k : Nat)) = true ∧ (lat xs (k : Nat)).deliv.has (lat ds (k : Nat)) = true ∧ lat ss (k : Nat) ≤ lat ds (k : Nat))
 | [], [], [], _, _ => ⟨fun _ k hk => by simp at hk, fun _ => trivial⟩
 | x :: xs, s :: ss, d :: ds, h1, h2 => by
  have ih := datedL_iff xs ss ds (by simpa using h1) (by simpa using h2)
  constructor
  ·rintro ⟨a, b, e, f⟩ k hk
   cases k with
   | zero => exact ⟨a, b, e⟩
   | succ k => exact ih.1 f k (by simpa using hk)
  ·intro h
   have h0 := h 0 (by simp)
   exact ⟨h0.1, h0.2.1, h0.2.2, ih.2 fun k hk => h (k + 1) (by simpa using hk)⟩
theorem comp_dated {c : Cmp} {u : Tru} : u ∈ comp c c.trades ⟨[], []⟩ ↔ datedB c u = true := by
 rw [comp_mem]
 simp only [List.nil_append, datedB, decide_eq_true_eq]
 constructor
 ·rintro ⟨ss, ds, h, rfl⟩
  obtain ⟨l1, l2⟩ := datedL_len _ _ _ h
  refine ⟨l1, l2, fun k hk => ?_⟩
  have := (datedL_iff _ _ _ l1 l2).1 h k hk
  simp [datK, this]
 ·rintro ⟨l1, l2, h⟩
  refine ⟨u.sold, u.deliv, (datedL_iff _ _ _ l1 l2).2 fun k hk => ?_, rfl⟩
  have := h k hk
  simp only [datK, Bool.and_eq_true, decide_eq_true_eq] at this
  exact ⟨this.1.1, this.1.2, this.2⟩
theorem truthsP_mem {c : Cmp} {u : Tru} : u ∈ truthsP c ↔ truthB c u = true := by
 simp only [truthsP, List.mem_filter, comp_dated, truthB, Bool.and_eq_true]
theorem nthN_step (c : Cmp) (n : Int) (k : Nat) : nthN c n (k + 1) = ((nthN c n k).tdiv (wS (lat c.trades (k : Nat)))).tdiv (wD (lat c.trades (k : Nat))) := rfl
theorem radix {p q a b m : Int} (hp : 1 ≤ p ∧ p ≤ 3) (hq : 1 ≤ q ∧ q ≤ 3) (ha : 0 ≤ a ∧ a < p) (hb : 0 ≤ b ∧ b < q) (hm : 0 ≤ m) :
  0 ≤ a + p * (b + q * m) ∧ (a + p * (b + q * m)).tmod p = a ∧ ((a + p * (b + q * m)).tdiv p).tmod q = b ∧ ((a + p * (b + q * m)).tdiv p).tdiv q = m ∧ a + p * (b + q * m) + 1 ≤ p * q * (m + 1) := by
 have hp3 : p = 1 ∨ p = 2 ∨ p = 3 := by omega
 have hq3 : q = 1 ∨ q = 2 ∨ q = 3 := by omega
 rcases hp3 with rfl | rfl | rfl <;> rcases hq3 with rfl | rfl | rfl <;>
  (refine ⟨by omega, ?_, ?_, ?_, by omega⟩ <;>
   (first
    | (rw [Int.tmod_eq_emod_of_nonneg (by omega)]; omega)
    | (rw [Int.tdiv_eq_ediv_of_nonneg (by omega), Int.tmod_eq_emod_of_nonneg (by omega)]; omega)
    | (rw [Int.tdiv_eq_ediv_of_nonneg (a := _ + _) (by omega), Int.tdiv_eq_ediv_of_nonneg (by omega)]; omega)))
theorem nth_onto {c : Cmp} {u : Tru} (hf : faultM c = 0) (hd : datedB c u = true) : ∀ j, j ≤ c.trades.length → ∀ m, 0 ≤ m → ∃ n, 0 ≤ n ∧ n < manyK c j * (m + 1) ∧ nthN c n j = m ∧ nthK c n j = ⟨u.sold.take j, u.deliv.take j⟩
 | 0, _, m, hm => ⟨m, hm, by rw [manyK]; omega, rfl, rfl⟩
 | j + 1, hj, m, hm => by
  have hlt : j < c.trades.length := by omega
  obtain ⟨l1, l2⟩ := dated_len hd
  have h := trade_wide hf hlt
  have hk := (of_decide_eq_true hd).2.2 j hlt
  simp only [datK, Rng.has, inR, Bool.and_eq_true, decide_eq_true_eq] at hk
  have hr := radix (p := wS (lat c.trades (j : Nat))) (q := wD (lat c.trades (j : Nat))) (a := lat u.sold (j : Nat) - (lat c.trades (j : Nat)).sold.lo) (b := lat u.deliv (j : Nat) - (lat c.trades (j : Nat)).deliv.lo) (m := m)
   ⟨h.2.2.2.2.1, h.2.2.2.2.2.1⟩ ⟨h.2.2.2.2.2.2.1, h.2.2.2.2.2.2.2⟩ ⟨by omega, by unfold wS; omega⟩ ⟨by omega, by unfold wD; omega⟩ hm
  obtain ⟨r1, r2, r3, r4, r5⟩ := hr
  obtain ⟨n, h0, h1, h2, h3⟩ := nth_onto hf hd j (by omega) _ r1
  have hm1 := manyK_in hf j (by omega)
  refine ⟨n, h0, ?_, ?_, ?_⟩
  ·rw [manyK, Int.mul_assoc]
   exact Int.lt_of_lt_of_le h1 (Int.mul_le_mul_of_nonneg_left r5 (by omega))
  ·rw [nthN_step, h2, r4]
  ·rw [nthK, h2, h3, r2, r3]
   have t1 : u.sold.take (j + 1) = u.sold.take j ++ [lat u.sold (j : Nat)] := take_lat (by omega)
   have t2 : u.deliv.take (j + 1) = u.deliv.take j ++ [lat u.deliv (j : Nat)] := take_lat (by omega)
   rw [t1, t2]
   simp only [Tru.snoc]
   congr 2
   ·congr 1; omega
   ·congr 1; omega
theorem trK_mem {c : Cmp} {u : Tru} : ∀ K, u ∈ trK c K ↔ ∃ k : Nat, k < K ∧ u = nth c (k : Nat) ∧ truthB c u = true
 | 0 => by simp [trK]
 | K + 1 => by
  have ih := trK_mem (c := c) (u := u) K
  rw [trK]
  split
  ·rename_i h
   rw [List.mem_append, ih, List.mem_singleton]
   constructor
   ·rintro (⟨k, hk, h1, h2⟩ | h1)
    ·exact ⟨k, by omega, h1, h2⟩
    ·exact ⟨K, by omega, h1, by rw [h1]; exact h⟩
   ·rintro ⟨k, hk, h1, h2⟩
    rcases Nat.lt_or_ge k K with g | g
    ·exact .inl ⟨k, g, h1, h2⟩
    ·have : k = K := by omega
     exact .inr (by rw [h1, this])
  ·rename_i h
   rw [ih]
   constructor
   ·rintro ⟨k, hk, h1, h2⟩; exact ⟨k, by omega, h1, h2⟩
   ·rintro ⟨k, hk, h1, h2⟩
    rcases Nat.lt_or_ge k K with g | g
    ·exact ⟨k, g, h1, h2⟩
    ·have e : k = K := by omega
     rw [h1, e] at h2
     exact (h h2).elim
theorem truthsR_mem {c : Cmp} (hf : faultM c = 0) {u : Tru} : u ∈ truthsR c ↔ truthB c u = true := by
 rw [truthsR, trK_mem]
 constructor
 ·rintro ⟨k, _, _, h⟩; exact h
 ·intro h
  have hd : datedB c u = true := by simp only [truthB, Bool.and_eq_true] at h; exact h.1
  obtain ⟨l1, l2⟩ := dated_len hd
  obtain ⟨n, h0, h1, h2, h3⟩ := nth_onto hf hd c.trades.length (Nat.le_refl _) 0 (Int.le_refl _)
  have hmn : n < many c := by unfold many; omega
  refine ⟨n.toNat, by omega, ?_, h⟩
  have e : ((n.toNat : Nat) : Int) = n := by omega
  rw [e, nth, h3, List.take_of_length_le (by omega), List.take_of_length_le (by omega)]
end
end Go.Proofs.Ytdnefcjbcieecaa
namespace Go.Proofs.Ytdnefcjbcieecaa
open Go Go.Proofs
noncomputable section
def Span (M : Tru → List Int) (l : List Tru) (k : Nat) (r : Rng) : Prop := (∃ t ∈ l, lat (M t) (k : Nat) = r.lo) ∧ (∃ t ∈ l, lat (M t) (k : Nat) = r.hi) ∧ ∀ t ∈ l, r.lo ≤ lat (M t) (k : Nat) ∧ lat (M t) (k : Nat) ≤ r.hi
theorem Span.one (M : Tru → List Int) (t : Tru) (k : Nat) : Span M [t] k ⟨lat (M t) (k : Nat), lat (M t) (k : Nat)⟩ :=
 ⟨⟨t, by simp, rfl⟩, ⟨t, by simp, rfl⟩, fun u hu => by simp only [List.mem_singleton] at hu; subst hu; exact ⟨Int.le_refl _, Int.le_refl _⟩⟩
theorem Span.snoc {M : Tru → List Int} {l : List Tru} {k : Nat} {r : Rng} (h : Span M l k r) (t : Tru) : Span M (l ++ [t]) k ⟨min2 r.lo (lat (M t) (k : Nat)), max2 r.hi (lat (M t) (k : Nat))⟩ := by
 obtain ⟨⟨t1, m1, e1⟩, ⟨t2, m2, e2⟩, h3⟩ := h
 have hmin : ∀ a b : Int, (min2 a b = a ∨ min2 a b = b) ∧ min2 a b ≤ a ∧ min2 a b ≤ b := fun a b => by unfold min2; split <;> omega
 have hmax : ∀ a b : Int, (max2 a b = a ∨ max2 a b = b) ∧ a ≤ max2 a b ∧ b ≤ max2 a b := fun a b => by unfold max2; split <;> omega
 have p1 := hmin r.lo (lat (M t) (k : Nat))
 have p2 := hmax r.hi (lat (M t) (k : Nat))
 refine ⟨?_, ?_, fun u hu => ?_⟩
 ·rcases p1.1 with e | e
  ·exact ⟨t1, by simp [m1], by rw [e1]; exact e.symm⟩
  ·exact ⟨t, by simp, e.symm⟩
 ·rcases p2.1 with e | e
  ·exact ⟨t2, by simp [m2], by rw [e2]; exact e.symm⟩
  ·exact ⟨t, by simp, e.symm⟩
 ·simp only [List.mem_append, List.mem_singleton] at hu
  rcases hu with hu | rfl
  ·have := h3 u hu
   simp only; omega
  ·simp only; omega
end
end Go.Proofs.Ytdnefcjbcieecaa
namespace Go.Proofs.Ytdnefcjbcieecaa
open Go Go.Proofs
noncomputable section
end
end Go.Proofs.Ytdnefcjbcieecaa
namespace Go.Proofs.Ytdnefcjbcieecaa
open Go Go.Proofs
noncomputable section
theorem truths_empty {c : Cmp} (hf : faultM c = 0) : (truthsR c).isEmpty = (truthsP c).isEmpty := by
 have hm : ∀ t, t ∈ truthsP c ↔ t ∈ truthsR c := fun t => by rw [truthsP_mem, truthsR_mem hf]
 cases hp : truthsP c with
 | nil => cases hr : truthsR c with
  | nil => rfl
  | cons u l =>
   have := (hm u).2 (by rw [hr]; simp)
   rw [hp] at this; simp at this
 | cons t l => cases hr : truthsR c with
  | nil =>
   have := (hm t).1 (by rw [hp]; simp)
   rw [hr] at this; simp at this
  | cons u l => rfl
end
end Go.Proofs.Ytdnefcjbcieecaa
namespace Go.Proofs.Ytdnefcjbcieecaa
open Go Go.Proofs
noncomputable section
end
end Go.Proofs.Ytdnefcjbcieecaa
namespace Go.Proofs.Ytdnefcjbcieecaa
open Go Go.Proofs
def G6 : Cfg := ⟨[], [(0, [1]), (1, [1, 8]), (2, [2]), (3, [1, 3, 4]), (4, [1, 3, 4, 5]), (5, [1, 3, 4, 5, 19]), (6, [2]), (7, [2])], 42, []⟩
def r6 : List CRes := [.tmp 2]
def c6 : CCode :=
(.seq (.region [
 rs 1 (.box false (.tmp 0)),
 mB 2 false] (some [1]))
(.seq (.seq (.region [
 lS 6 6 1,
 ⟨(some 7), none, .call (.func 32) [(.tmp 6), (ci 100)]⟩,
 rs 8 (.un .not (.tmp 7))] (some [1, 8]))
(.cond (.tmp 8) (.seq (.region [
 ⟨(some 9), none, .call (.func 18) []⟩,
 mV 2 9] (some [2]))
 .ret)
 .skip))
(.seq (.region [
 lS 11 6 1,
 kL1 12 20 11,
 kL1 13 38 12,
 mV 10 13,
 rs 14 (.extract (.tmp 10) 0),
 rs 15 (.extract (.tmp 10) 1),
 mV 3 14,
 mV 4 15] (some [1, 3, 4]))
(.seq (.seq (.region [
 lS 16 6 1,
 kL1 17 34 16,
 mV 5 17] (some [1, 3, 4, 5]))
(.seq (.region [
 mV 18 5,
 rs 19 (.bin .neq (.tmp 18) (ci 0))] (some [1, 3, 4, 5, 19]))
(.cond (.tmp 19) (.seq (.region [
 mV 20 4,
 mV 21 5,
 rs 22 (.bin .eql (.tmp 20) (.tmp 21)),
 mV 23 22,
 qV 24 23 true 3,
 rg 25 23 true (.len (.tmp 24)),
 rg 26 23 true (.bin .eql (.tmp 25) (ci 0)),
 pA 27 23 26,
 mV 28 27,
 ⟨(some 29), (some (28, true)), .call (.func 18) []⟩,
 pA 30 28 29,
 mV 2 30] (some [2]))
 .ret)
 .skip)))
(.seq (.region [
 mV 31 4,
 rs 32 (.bin .eql (.tmp 31) (ci 0)),
 mV 33 32,
 qV 34 33 true 3,
 rg 35 33 true (.load (some 6) (.tmp 1)),
 ⟨(some 36), (some (33, true)), .call (.func 39) [(.tmp 35)]⟩,
 ⟨(some 37), (some (33, true)), .call (.func 28) [(.tmp 34), (.tmp 36)]⟩,
 pA 38 33 37,
 mV 39 38,
 ⟨(some 40), (some (39, true)), .call (.func 18) []⟩,
 pA 41 39 40,
 mV 2 41] (some [2]))
.ret)))))
theorem k6 : Try.f6.body.bind (compC Try.prog G6) = some c6 := by kernel_rfl
theorem e6 : compRes Try.prog Try.f6.results.toList = some r6 := by kernel_rfl
def G47 : Cfg := ⟨[36, 27, 6, 4], [(0, [1, 2, 4]), (1, [1, 2, 4, 6]), (2, [1, 2, 4, 6]), (3, [1, 2, 4, 6, 7]), (4, [1, 2, 4, 6, 7, 8]), (5, [1, 2, 4, 6, 7, 8, 15]), (7, [1, 2, 4, 6, 7, 8, 23]), (9, [1, 2, 4, 6, 7, 8]), (8, [1, 2, 4, 6, 7, 8]), (6, [1, 2, 4, 6, 7, 8]), (10, [4, 5])], 40, []⟩
def r47 : List CRes := [.cell 4 (some 6), .tmp 5]
def c47 : CCode :=
(.seq (.region [
 rs 2 (.box false (.tmp 0)),
 rs 4 (.alloc [(.d (.int .i64 0)), (.d .nils), (.d .nils), (.d .nils), (.d .nils), (.d .nils)]),
 rs 5 (.move (.const (.slice none 0 0)))] (some [1, 2, 4]))
(.seq (.region [
 lS 9 6 2,
 rs 6 (.alloc [(.d (.int .i64 0)), (.d .nils), (.d .nils), (.d .nils), (.d .nils), (.d .nils)]),
 rn (.store 6 (.tmp 6) (.tmp 9))] (some [1, 2, 4, 6]))
(.seq (.region [
 fA 10 2 6,
 rn (.store 1 (.tmp 10) (.const (.slice none 0 0)))] (some [1, 2, 4, 6]))
(.seq (.region [
 rs 7 (.move (.const (.slice none 0 0)))] (some [1, 2, 4, 6, 7]))
(.seq (.seq (.region [
 mI 8 0] (some [1, 2, 4, 6, 7, 8]))
(.block 0 (.loop (.seq (.seq (.region [
 mV 11 8,
 fA 12 2 2,
 lD 13 12,
 rs 14 (.len (.tmp 13)),
 rs 15 (.bin .lss (.tmp 11) (.tmp 14))] (some [1, 2, 4, 6, 7, 8, 15])) (.cond (.tmp 15) .skip (.exit 0))) (.seq (.block 1 (.seq (.region [
 mV 18 1,
 mV 19 8,
 rs 20 (.conv .u64 (.tmp 19)),
 rs 21 (.bin .shr (.tmp 18) (.tmp 20)),
 rs 22 (.bin .rem (.tmp 21) (ci 2)),
 rs 23 (.bin .eql (.tmp 22) (ci 1))] (some [1, 2, 4, 6, 7, 8, 23])) (.cond (.tmp 23) (.region [
 mV 24 7,
 mV 25 8,
 rs 26 (.bslice false 3 1 1 [(.int .i64 0)] [(0, (.tmp 25))]),
 ⟨(some 27), none, .app 3 1 8 (.tmp 24) (.tmp 26)⟩,
 mV 7 27] (some [1, 2, 4, 6, 7, 8])) (.region [
 fA 28 2 6,
 lD 29 28,
 fA 30 2 2,
 lD 31 30,
 mV 32 8,
 iX 33 7 31 32,
 lS 34 7 33,
 rs 35 (.bslice false 99 7 1 [(.int .i64 0), (.int .i64 0), (.int .i64 0), (.int .i64 0), (.int .i64 0), (.int .i64 0), (.int .i64 0)] [(0, (.tmp 34))]),
 ⟨(some 36), none, .app 99 7 56 (.tmp 29) (.tmp 35)⟩,
 fA 37 2 6,
 rn (.store 1 (.tmp 37) (.tmp 36))] (some [1, 2, 4, 6, 7, 8]))))) (.region [
 mV 16 8,
 rs 17 (.bin .add (.tmp 16) (ci 1)),
 mV 8 17] (some [1, 2, 4, 6, 7, 8])))))))
(.seq (.region [
 lS 38 6 6,
 mV 39 7,
 rn (.store 6 (.tmp 4) (.tmp 38)),
 mV 5 39] (some [4, 5]))
.ret))))))
theorem k47 : Try.f47.body.bind (compC Try.prog G47) = some c47 := by kernel_rfl
theorem e47 : compRes Try.prog Try.f47.results.toList = some r47 := by kernel_rfl
def G48 : Cfg := ⟨[], [(0, [0, 1]), (1, [4])], 22, []⟩
def r48 : List CRes := [.tmp 4]
def c48 : CCode :=
(.seq (.region [
 mB 4 false] (some [0, 1]))
(.seq (.region [
 mV 5 0,
 rs 6 (.len (.tmp 5)),
 mV 7 1,
 rs 8 (.len (.tmp 7)),
 rs 9 (.bin .lss (.tmp 6) (.tmp 8)),
 mV 10 9,
 qV 11 10 false 0,
 rg 12 10 false (.len (.tmp 11)),
 qV 13 10 false 1,
 rg 14 10 false (.len (.tmp 13)),
 rg 15 10 false (.bin .eql (.tmp 12) (.tmp 14)),
 qV 16 10 false 15,
 qV 17 16 true 0,
 qV 18 16 true 1,
 ⟨(some 19), (some (16, true)), .call (.func 68) [(.tmp 17), (.tmp 18)]⟩,
 rg 20 10 false (.pick (.tmp 16) (.tmp 19) (.const (.bool false))),
 pO 21 10 20,
 mV 4 21] (some [4]))
.ret))
theorem k48 : Try.f48.body.bind (compC Try.prog G48) = some c48 := by kernel_rfl
theorem e48 : compRes Try.prog Try.f48.results.toList = some r48 := by kernel_rfl
def G10 : Cfg := ⟨[9, 11], [(0, [1, 2]), (1, [1, 2, 19]), (2, [4]), (3, [1, 2, 5, 6]), (4, [1, 2, 5, 6, 7]), (5, [1, 2, 5, 6, 7, 8]), (6, [1, 2, 5, 6, 7, 8, 30]), (8, [1, 2, 5, 6, 7, 8, 58]), (9, [4]), (10, [1, 2, 5, 6, 7, 8]), (7, [1, 2, 5, 6, 7, 8]), (11, [1, 2, 5, 6, 9]), (12, [5, 6, 9, 11, 12]), (13, [5, 6, 11, 12, 13, 14]), (14, [5, 6, 12, 13, 14, 15, 16]), (15, [4])], 122, []⟩
def r10 : List CRes := [.tmp 4]
def c10 : CCode :=
(.seq (.region [
 rs 2 (.box false (.tmp 0)),
 mB 4 false] (some [1, 2]))
(.seq (.seq (.region [
 lS 17 6 2,
 ⟨(some 18), none, .call (.func 42) [(.tmp 17), (ci 700)]⟩,
 rs 19 (.un .not (.tmp 18))] (some [1, 2, 19]))
(.cond (.tmp 19) (.seq (.region [
 ⟨(some 20), none, .call (.func 18) []⟩,
 mV 4 20] (some [4]))
 .ret)
 .skip))
(.seq (.region [
 lS 22 6 2,
 kL1 23 20 22,
 kL1 24 38 23,
 mV 21 24,
 rs 25 (.extract (.tmp 21) 0),
 rs 26 (.extract (.tmp 21) 1),
 mV 5 25,
 mV 6 26] (some [1, 2, 5, 6]))
(.seq (.region [
 mI 7 0] (some [1, 2, 5, 6, 7]))
(.seq (.seq (.region [
 mI 8 0] (some [1, 2, 5, 6, 7, 8]))
(.block 0 (.loop (.seq (.seq (.region [
 mV 27 8,
 mV 28 5,
 rs 29 (.len (.tmp 28)),
 rs 30 (.bin .lss (.tmp 27) (.tmp 29))] (some [1, 2, 5, 6, 7, 8, 30])) (.cond (.tmp 30) .skip (.exit 0))) (.seq (.block 1 (.seq (.seq (.region [
 mV 33 5,
 mV 34 8,
 iX 35 1 33 34,
 lD 36 35,
 fA 37 2 2,
 lD 38 37,
 rs 39 (.len (.tmp 38)),
 rs 40 (.bin .sub (.tmp 39) (ci 1)),
 ⟨(some 41), none, .call (.func 23) [(.tmp 36), (ci 0), (.tmp 40)]⟩,
 rs 42 (.un .not (.tmp 41)),
 mV 43 42,
 qV 44 43 false 8,
 rg 45 43 false (.bin .gtr (.tmp 44) (ci 0)),
 qV 46 43 false 45,
 qV 47 46 true 5,
 qV 48 46 true 8,
 rg 49 46 true (.indexS 1 (.tmp 47) (.tmp 48)),
 qL 50 46 true 49,
 qV 51 46 true 5,
 qV 52 46 true 8,
 rg 53 46 true (.bin .sub (.tmp 52) (ci 1)),
 rg 54 46 true (.indexS 1 (.tmp 51) (.tmp 53)),
 qL 55 46 true 54,
 rg 56 46 true (.bin .leq (.tmp 50) (.tmp 55)),
 rg 57 43 false (.pick (.tmp 46) (.tmp 56) (.const (.bool false))),
 pO 58 43 57] (some [1, 2, 5, 6, 7, 8, 58])) (.cond (.tmp 58) (.seq (.region [
 mB 4 false] (some [4]))
 .ret)
 .skip)) (.region [
 mV 59 7,
 mV 60 5,
 mV 61 8,
 iX 62 1 60 61,
 lD 63 62,
 rs 64 (.conv .u64 (.tmp 63)),
 rs 65 (.bin .shl (ci 1) (.tmp 64)),
 rs 66 (.bin .or (.tmp 59) (.tmp 65)),
 mV 7 66] (some [1, 2, 5, 6, 7, 8])))) (.region [
 mV 31 8,
 rs 32 (.bin .add (.tmp 31) (ci 1)),
 mV 8 32] (some [1, 2, 5, 6, 7, 8])))))))
(.seq (.region [
 lS 68 6 2,
 mV 69 7,
 kL2 70 47 68 69,
 mV 67 70,
 rs 71 (.extract (.tmp 67) 0),
 rs 72 (.extract (.tmp 67) 1),
 rs 9 (.alloc [(.d (.int .i64 0)), (.d .nils), (.d .nils), (.d .nils), (.d .nils), (.d .nils)]),
 rn (.store 6 (.tmp 9) (.tmp 71)),
 mV 10 72] (some [1, 2, 5, 6, 9]))
(.seq (.region [
 lS 74 6 2,
 mV 75 1,
 rs 76 (.conv .i64 (.tmp 75)),
 rs 77 (.bin .rem (.tmp 76) (ci 16)),
 kL2 78 47 74 77,
 mV 73 78,
 rs 79 (.extract (.tmp 73) 0),
 rs 80 (.extract (.tmp 73) 1),
 rs 11 (.alloc [(.d (.int .i64 0)), (.d .nils), (.d .nils), (.d .nils), (.d .nils), (.d .nils)]),
 rn (.store 6 (.tmp 11) (.tmp 79)),
 mV 12 80] (some [5, 6, 9, 11, 12]))
(.seq (.region [
 lS 82 6 9,
 kL1 83 20 82,
 kL1 84 38 83,
 mV 81 84,
 rs 85 (.extract (.tmp 81) 0),
 rs 86 (.extract (.tmp 81) 1),
 mV 13 85,
 mV 14 86] (some [5, 6, 11, 12, 13, 14]))
(.seq (.region [
 lS 88 6 11,
 kL1 89 20 88,
 kL1 90 38 89,
 mV 87 90,
 rs 91 (.extract (.tmp 87) 0),
 rs 92 (.extract (.tmp 87) 1),
 mV 15 91,
 mV 16 92] (some [5, 6, 12, 13, 14, 15, 16]))
(.seq (.region [
 mV 93 6,
 rs 94 (.bin .eql (.tmp 93) (ci 0)),
 mV 95 94,
 qV 96 95 true 14,
 rg 97 95 true (.bin .eql (.tmp 96) (ci 0)),
 pA 98 95 97,
 mV 99 98,
 qV 100 99 true 13,
 rg 101 99 true (.len (.tmp 100)),
 rg 102 99 true (.bin .eql (.tmp 101) (ci 0)),
 pA 103 99 102,
 mV 104 103,
 qV 105 104 true 16,
 rg 106 104 true (.bin .eql (.tmp 105) (ci 0)),
 pA 107 104 106,
 mV 108 107,
 qV 109 108 true 15,
 rg 110 108 true (.len (.tmp 109)),
 rg 111 108 true (.bin .gtr (.tmp 110) (ci 0)),
 qV 112 108 true 111,
 qV 113 112 false 12,
 qV 114 112 false 5,
 ⟨(some 115), (some (112, false)), .call (.func 48) [(.tmp 113), (.tmp 114)]⟩,
 rg 116 112 false (.un .not (.tmp 115)),
 rg 117 108 true (.pick (.tmp 112) (.const (.bool true)) (.tmp 116)),
 pA 118 108 117,
 mV 119 118,
 ⟨(some 120), (some (119, true)), .call (.func 18) []⟩,
 pA 121 119 120,
 mV 4 121] (some [4]))
.ret))))))))))
theorem k10 : Try.f10.body.bind (compC Try.prog G10) = some c10 := by kernel_rfl
theorem e10 : compRes Try.prog Try.f10.results.toList = some r10 := by kernel_rfl
end Go.Proofs.Ytdnefcjbcieecaa
namespace Go.Proofs.Ytdnefcjbcieecaa
open Go Go.Proofs
noncomputable section
theorem q47 : FunIs Try.prog 47 G47 c47 r47 := ⟨Try.f47, Try.func47, k47, e47, by kernel_rfl, by kernel_rfl⟩
theorem q48 : FunIs Try.prog 48 G48 c48 r48 := ⟨Try.f48, Try.func48, k48, e48, by kernel_rfl, by kernel_rfl⟩
theorem q10 : FunIs Try.prog 10 G10 c10 r10 := ⟨Try.f10, Try.func10, k10, e10, by kernel_rfl, by kernel_rfl⟩
def tab48 : Spec := (spAdd 68 ent68 spNil)
theorem tab48_ok : SpOk Try.prog tab48 := (spAdd_ok ent68_ok (spNil_ok _))
def X48 : Sx := mkX tab48
theorem X48_ok : SpOk Try.prog X48.sp := tab48_ok
theorem w48 (a b : List Int) : sx X48 c48 [] (doneK r48) (envOf [vsl eI a, vsl eI b]) [] [] =
  let y0_ := (List.length a)
  let y1_ := (List.length b)
  Tr.br (decide (Int.ofNat y0_ < Int.ofNat y1_)) (Tr.done (V.d (D.bool true)) []) (Tr.br (Int.ofNat y0_ == Int.ofNat y1_) (Tr.need (okL eI 1 gI y0_ (enc eI a) ∧ okL eI 1 gI y1_ (enc eI b) ∧ List.length (dec 1 gI y0_ (enc eI a)) ≤ 1000000) (Tr.done (V.d (D.bool (beforeB (dec 1 gI y0_ (enc eI a)) (dec 1 gI y1_ (enc eI b))))) [])) (Tr.done (V.d (D.bool false)) [])) := by kernel_rfl
theorem w47 (c : Cmp) (k : Int) : sx (mkX spNil) c47 [] (doneK r47) (envOf [Cv c, vi k]) [] [] =
  Tr.lp (CCode.at c47 [1, 1, 1, 1, 0, 1, 0, 0]) [Fr.blk 0, Fr.seq (CCode.at c47 [1, 1, 1, 1, 1])] [(1, V.d (D.int .i64 k)), (2, V.rptr (Cds c) 0), (4, V.ptr 0 0 0), (6, V.ptr 1 0 0), (7, V.d D.nils), (8, V.d (D.int .i64 0))] [some (Blk.box [V.d (D.int .i64 0), V.d D.nils, V.d D.nils, V.d D.nils, V.d D.nils, V.d D.nils]), some (Blk.box [V.d (D.int .i64 (Cmp.houses c)), V.d (D.sl false (List.length (Cmp.held c)) (enc eI (Cmp.held c))), V.d D.nils, V.d (D.sl false (List.length (Cmp.divs c)) (enc eV (Cmp.divs c))), V.d (D.sl false (List.length (Cmp.splits c)) (enc eS (Cmp.splits c))), V.d (D.sl false (List.length (Cmp.closed c)) (enc eR (Cmp.closed c)))])] := by kernel_rfl
def E47 (c : Cmp) (bits : Int) (o : List Int) (k : Nat) : Env := [(1, vi bits), (2, .rptr (Cds c) 0), (4, .ptr 0 0 0), (6, .ptr 1 0 0), (7, .own 3 o.length o.length), (8, vi k)]
def Zb6 : Option Blk := some (.box [vi 0, .d .nils, .d .nils, .d .nils, .d .nils, .d .nils])
def H47 (c : Cmp) (r : List Trd) (o : List Int) : Heap := [Zb6, some (.box (Cb6 c (.own 2 r.length r.length))), some (.row 99 7 r.length (enc eT r)), some (.row 3 1 o.length (enc eI o))]
theorem b47 (c : Cmp) (bits : Int) (r : List Trd) (o : List Int) (k : Nat) : sx (mkX spNil) (CCode.at c47 [1,1,1,1,0,1,0,0]) [] leafK (E47 c bits o k) [] (H47 c r o) =
  let x1_ := (List.length (Cmp.trades c))
  let x2_ := (decide (Int.ofNat k < Int.ofNat x1_))
  let x3_ := [D.int .i64 (Int.ofNat k)]
  let x4_ := (List.length o + 1)
  let x5_ := (-9223372036854775808 ≤ Int.ofNat k + (1 : Int) ∧ Int.ofNat k + (1 : Int) ≤ 9223372036854775807)
  let y1_ := (List.length o)
  let x6_ := (Nat.add y1_ 1)
  let x7_ := (Blk.box [V.d (D.int .i64 0), V.d D.nils, V.d D.nils, V.d D.nils, V.d D.nils, V.d D.nils])
  let x8_ := (D.int .i64 (Cmp.houses c))
  let x9_ := (D.sl false (List.length (Cmp.held c)) (enc eI (Cmp.held c)))
  let x10_ := (D.sl false (List.length (Cmp.divs c)) (enc eV (Cmp.divs c)))
  let x11_ := (D.sl false (List.length (Cmp.splits c)) (enc eS (Cmp.splits c)))
  let x12_ := (D.sl false (List.length (Cmp.closed c)) (enc eR (Cmp.closed c)))
  let y5_ := (List.length r)
  let x13_ := (Blk.box [V.d x8_, V.d x9_, V.own 2 y5_ y5_, V.d x10_, V.d x11_, V.d x12_])
  let x14_ := (Blk.row 99 7 y5_ (enc eT r))
  let y0_ := (enc eT (Cmp.trades c))
  let x15_ := [D.int .i64 (cI y0_ 7 (Int.ofNat k) 0), D.int .i64 (cI y0_ 7 (Int.ofNat k) 1), D.int .i64 (cI y0_ 7 (Int.ofNat k) 2), D.int .i64 (cI y0_ 7 (Int.ofNat k) 3), D.int .i64 (cI y0_ 7 (Int.ofNat k) 4), D.int .i64 (cI y0_ 7 (Int.ofNat k) 5), D.int .i64 (cI y0_ 7 (Int.ofNat k) 6)]
  let x16_ := (List.length r + 1)
  let x17_ := (Nat.add y5_ 1)
  let x18_ := (Blk.row 3 1 y1_ (enc eI o))
  let y2_ := (1, V.d (D.int .i64 bits))
  let y3_ := (8, V.d (D.int .i64 (Int.ofNat k + (1 : Int))))
  let y4_ := (2, V.rptr (Cds c) 0)
  Tr.br x2_ (Tr.need (DP.P (dp ((0 : Int) ≤ IntKind.wrap IntKind.u64 (Int.ofNat k)))) (Tr.need ((2 : Int) ≠ (0 : Int)) (Tr.br (Int.tmod (Int.fdiv bits ((2 : Int) ^ min (Int.toNat (IntKind.wrap IntKind.u64 (Int.ofNat k))) (IntKind.bits IntKind.i64))) (2 : Int) == (1 : Int)) (Tr.need (List.length o = List.length o ∧ 3 = 3 ∧ 1 = 1 ∧ List.length (enc eI o) = List.length o * 1 ∧ List.length x3_ = 1 * 1 ∧ List.length o + 1 ≤ 140737488355328 ∧ x4_ * 8 ≤ 140737488355328) (Tr.need x5_ (Tr.leaf CExit.normal [y2_, y4_, (4, V.ptr 0 0 0), (6, V.ptr 1 0 0), (7, V.own 3 x6_ x4_), y3_] [some x7_, some x13_, some x14_, some (Blk.row 3 1 x6_ (enc eI o ++ x3_))]))) (Tr.need ((0 : Int) ≤ Int.ofNat k ∧ Int.ofNat k < Int.ofNat x1_ ∧ okEl [0, 0, 0, 0, 0, 0, 0] y0_ 7 (Int.ofNat k)) (Tr.need (List.length r = List.length r ∧ 99 = 99 ∧ 7 = 7 ∧ List.length (enc eT r) = List.length r * 7 ∧ List.length x15_ = 1 * 7 ∧ List.length r + 1 ≤ 140737488355328 ∧ x16_ * 56 ≤ 140737488355328) (Tr.need x5_ (Tr.leaf CExit.normal [y2_, y4_, (4, V.ptr 0 0 0), (6, V.ptr 1 0 0), (7, V.own 3 y1_ y1_), y3_] [some x7_, some (Blk.box [V.d x8_, V.d x9_, V.own 2 x17_ x16_, V.d x10_, V.d x11_, V.d x12_]), some (Blk.row 99 7 x17_ (enc eT r ++ x15_)), some x18_]))))))) (Tr.leaf (CExit.exit 0) [y2_, y4_, (4, V.ptr 0 0 0), (6, V.ptr 1 0 0), (7, V.own 3 y1_ y1_), (8, V.d (D.int .i64 (Int.ofNat k))), (15, V.d (D.bool x2_))] [some x7_, some x13_, some x14_, some x18_]) := by kernel_rfl
theorem x47 (c : Cmp) (bits : Int) (r : List Trd) (o : List Int) (k : Nat) (b : Bool) : sS (mkX spNil) (doneK r47) [Fr.blk 0, Fr.seq (CCode.at c47 [1,1,1,1,1])] (.exit 0) [(1, vi bits), (2, .rptr (Cds c) 0), (4, .ptr 0 0 0), (6, .ptr 1 0 0), (7, .own 3 o.length o.length), (8, vi k), (15, vb b)] [] (H47 c r o) =
  let y0_ := [V.d (D.int .i64 (Cmp.houses c)), V.d (D.sl false (List.length (Cmp.held c)) (enc eI (Cmp.held c))), V.own 2 (List.length r) (List.length r), V.d (D.sl false (List.length (Cmp.divs c)) (enc eV (Cmp.divs c))), V.d (D.sl false (List.length (Cmp.splits c)) (enc eS (Cmp.splits c))), V.d (D.sl false (List.length (Cmp.closed c)) (enc eR (Cmp.closed c)))]
  Tr.done (V.tup [V.agg y0_, V.own 3 (List.length o) (List.length o)]) [some (Blk.box y0_), some (Blk.box y0_), some (Blk.row 99 7 (List.length r) (enc eT r)), some (Blk.row 3 1 (List.length o) (enc eI o))] := by kernel_rfl
def shorB (a b : List Int) : Bool := decide (a.length < b.length) || (decide (a.length = b.length) && beforeB a b)
theorem y48 (a b : List Int) (ha : a.length ≤ 1000000) (hb : b.length ≤ 1000000) : Yields Try.prog 48 [vsl eI a, vsl eI b] (vb (shorB a b)) := by
 refine q48.yieldsK X48_ok rfl rfl rfl (w48 a b) ?_
 simp only [holds, Int.ofNat_eq_natCast, okL_I, dec_I]
 refine ⟨fun h1 => .of_eq (congrArg vb ?_), fun h1 => ⟨fun h2 => ⟨⟨by omega, by omega, ha⟩, .of_eq (congrArg vb ?_)⟩, fun h2 => .of_eq (congrArg vb ?_)⟩⟩
 ·have h1 : a.length < b.length := by have := of_decide_eq_true h1; omega
  simp [shorB, h1]
 ·have h1 : ¬ a.length < b.length := by have := of_decide_eq_false h1; omega
  have h2 : a.length = b.length := by have := eq_of_beq h2; omega
  simp [shorB, h2]
 ·have h1 : ¬ a.length < b.length := by have := of_decide_eq_false h1; omega
  have h2 : ¬ a.length = b.length := by
   intro h
   rw [h] at h2
   simp at h2
  simp [shorB, h1, h2]
def bitB (bits : Int) (k : Nat) : Bool := (Int.tmod (Int.fdiv bits ((2 : Int) ^ min (Int.toNat (IntKind.wrap .u64 (k : Int))) (IntKind.bits .i64))) 2) == 1
def woK (c : Cmp) (bits : Int) : Nat → List Trd
 | 0 => []
 | k + 1 => if bitB bits k = true then woK c bits k else woK c bits k ++ [lat c.trades (k : Nat)]
def selK (bits : Int) : Nat → List Int
 | 0 => []
 | k + 1 => if bitB bits k = true then selK bits k ++ [(k : Int)] else selK bits k
def Cmp.wo (c : Cmp) (bits : Int) : Cmp := { c with trades := woK c bits c.trades.length }
theorem woK_len (c : Cmp) (bits : Int) : ∀ k, (woK c bits k).length ≤ k
 | 0 => Nat.le_refl _
 | k + 1 => by
  have := woK_len c bits k
  rw [woK]
  split
  ·omega
  ·simp; omega
theorem selK_len (bits : Int) : ∀ k, (selK bits k).length ≤ k
 | 0 => Nat.le_refl _
 | k + 1 => by
  have := selK_len bits k
  rw [selK]
  split
  ·simp; omega
  ·omega
theorem wrap_u64 {n : Int} (h0 : 0 ≤ n) (h1 : n ≤ 9223372036854775807) : 0 ≤ IntKind.wrap .u64 n := by
 simp only [IntKind.wrap, IntKind.signed, IntKind.bits]
 simp
 omega
theorem fin_47 (c : Cmp) (r : List Trd) (o : List Int) (b0 b1 : Option Blk) : VLe (finX 0 (.tup [.agg (Cb6 c (.own 2 r.length r.length)), .own 3 o.length o.length]) [b0, b1, some (.row 99 7 r.length (enc eT r)), some (.row 3 1 o.length (enc eI o))]).1 (.tup [Cv { c with trades := r }, vsl eI o]) := by
 simp [finX, rowsIn, rowsIn1, rowIn, frzRows, frzB, blkDs, fzV, fz2, fz1, bel2, bel1, bel0, Cb6, vi]
 exact .refl _
theorem y47 (c : Cmp) (n : Int) (hl : c.trades.length ≤ 1000000) : Yields Try.prog 47 [Cv c, vi n] (.tup [Cv (c.wo n), vsl eI (selK n c.trades.length)]) := by
 refine q47.yieldsX (X := mkX spNil) (spNil_ok _) rfl rfl ?_ (w47 c n) ?_
 ·rfl
 simp only [holds]
 refine LoopP.state (StLe.ghostBox (id := 1) (off := 2) 99 7 rfl rfl) ?_
 refine LoopP.state (StLe.ghostTmp (t := 7) 3 1 rfl) ?_
 refine lp_count (X := mkX spNil) (spNil_ok _) c.trades.length (fun _ => True) (fun k => E47 c n (selK n k) k) (fun k => H47 c (woK c n k) (selK n k)) rfl rfl trivial (fun k _ => ⟨rfl, rfl, rfl⟩) ?_
 intro k hk _ Q' hn he hr
 rw [b47]
 have h1 := woK_len c n k
 have h2 := selK_len n k
 have hw := wrap_u64 (n := k) (by omega) (by omega)
 simp only [holds, Int.ofNat_eq_natCast, len_T, len_I, true_and, and_true, List.length_cons, List.length_nil, Nat.add_eq, cI_T0, cI_T1, cI_T2, cI_T3, cI_T4, cI_T5, cI_T6]
 refine ⟨fun e1 => ?_, fun e1 => ?_⟩
 ·have hlt : k < c.trades.length := by have := of_decide_eq_true e1; omega
  have hn := fun J => hn J hlt trivial
  refine ⟨hw, by decide, fun hb => ?_, fun hb => ?_⟩
  ·have hb' : bitB n k = true := hb
   simp only [E47, H47, woK, selK, if_pos hb', List.length_append, List.length_cons, List.length_nil, enc_append, enc_one] at hn
   exact ⟨⟨by omega, by omega⟩, ⟨by omega, by omega⟩, hn []⟩
  ·have hb' : ¬ bitB n k = true := by
    have : bitB n k = false := hb
    rw [this]; decide
   simp only [E47, H47, woK, selK, if_neg hb', List.length_append, List.length_cons, List.length_nil, enc_append, enc_one] at hn
   exact ⟨⟨by omega, by omega, ok_T (by omega)⟩, ⟨by omega, by omega⟩, ⟨by omega, by omega⟩, hn []⟩
 ·have hge : k = c.trades.length := by have := of_decide_eq_false e1; omega
  subst hge
  refine he _ _ _ (ret_tree (R := fun v1 h1 => VLe (finX 0 v1 h1).1 (.tup [Cv (c.wo n), vsl eI (selK n c.trades.length)])) (X := mkX spNil) (spNil_ok _) (doneK_ok rfl) (x47 _ _ _ _ _ _) ?_)
  simp only [holds]
  exact fin_47 c _ _ _ _
end
end Go.Proofs.Ytdnefcjbcieecaa
namespace Go.Proofs.Ytdnefcjbcieecaa
open Go Go.Proofs
noncomputable section
def ent47 := entCI (fun c _ => c.trades.length ≤ 1000000) (fun c n => .tup [Cv (c.wo n), vsl eI (selK n c.trades.length)])
theorem ent47_ok : EntOk Try.prog 47 ent47 := entCI_ok fun c n h => y47 c n h
def ent48 := entLL (fun a b => a.length ≤ 1000000 ∧ b.length ≤ 1000000) (fun a b => vb (shorB a b))
theorem ent48_ok : EntOk Try.prog 48 ent48 := entLL_ok fun a b h => y48 a b h.1 h.2
def tab38 : Spec := (spAdd 52 ent52 spNil)
theorem tab38_ok : SpOk Try.prog tab38 := (spAdd_ok ent52_ok (spNil_ok _))
def X38 : Sx := { mkX tab38 with md := fun t => bif Nat.beq t 23 then 1 else 0 }
theorem X38_ok : SpOk Try.prog X38.sp := tab38_ok
theorem w38 (c : Cmp) : sx X38 c38 [] (doneK r38) (envOf [Cv c]) [] [] =
  let x1_ := (List.length (Cmp.trades c))
  let x2_ := (Blk.box [V.d (D.int .i64 (Cmp.houses c)), V.d (D.sl false (List.length (Cmp.held c)) (enc eI (Cmp.held c))), V.d (D.sl false x1_ (enc eT (Cmp.trades c))), V.d (D.sl false (List.length (Cmp.divs c)) (enc eV (Cmp.divs c))), V.d (D.sl false (List.length (Cmp.splits c)) (enc eS (Cmp.splits c))), V.d (D.sl false (List.length (Cmp.closed c)) (enc eR (Cmp.closed c)))])
  Tr.need (Cv (dCe c) = Cv c ∧ True) (Tr.br (faultM (dCe c) != (0 : Int)) (Tr.done (V.tup [V.d D.nils, V.d (D.int .i64 (faultM (dCe c)))]) [some x2_]) (Tr.need (-9223372036854775808 ≤ Int.ofNat x1_ + (1 : Int) ∧ Int.ofNat x1_ + (1 : Int) ≤ 9223372036854775807) (Tr.lp (CCode.at c38 [1, 1, 1, 1, 1, 1, 0, 1, 0, 0]) [Fr.blk 0, Fr.seq (CCode.at c38 [1, 1, 1, 1, 1, 1, 1])] [(5, V.ptr 1 0 0), (6, V.ptr 2 0 0), (17, V.d (D.int .i64 (Int.ofNat x1_ + (1 : Int)))), (18, V.d (D.int .i64 0))] [some x2_, some (Blk.box [V.d D.nils]), some (Blk.box [V.fn (Fn.func 75) [] [V.ptr 0 0 0, V.ptr 1 0 0, V.ptr 2 0 0]])]))) := by kernel_rfl
def E38 (c : Cmp) (k : Nat) : Env := [(5, .ptr 1 0 0), (6, .ptr 2 0 0), (17, vi ((c.trades.length : Int) + 1)), (18, vi k)]
theorem b38 (c : Cmp) (fo : D) (k : Nat) : sx X38 (CCode.at c38 [1,1,1,1,1,1,0,1,0,0]) [] leafK (E38 c k) [] (H75 c fo []) =
  let y2_ := (List.length (Cmp.trades c))
  let y5_ := [V.ptr 0 0 0, V.ptr 1 0 0, V.ptr 2 0 0]
  let y0_ := [some (Blk.box [V.d (D.int .i64 (Cmp.houses c)), V.d (D.sl false (List.length (Cmp.held c)) (enc eI (Cmp.held c))), V.d (D.sl false y2_ (enc eT (Cmp.trades c))), V.d (D.sl false (List.length (Cmp.divs c)) (enc eV (Cmp.divs c))), V.d (D.sl false (List.length (Cmp.splits c)) (enc eS (Cmp.splits c))), V.d (D.sl false (List.length (Cmp.closed c)) (enc eR (Cmp.closed c)))]), some (Blk.box [V.d fo]), some (Blk.box [V.fn (Fn.func 75) [] y5_])]
  let y1_ := (17, V.d (D.int .i64 (Int.ofNat y2_ + (1 : Int))))
  let y3_ := (decide (Int.ofNat k < Int.ofNat y2_ + (1 : Int)))
  let y4_ := (D.int .i64 (Int.ofNat k))
  Tr.br y3_ (Tr.clB false (V.fn (Fn.func 75) [] y5_) [V.d D.nils, V.d (D.int .i64 0), V.d y4_] y0_ fun b h' => Tr.br b (Tr.leaf (CExit.exit 0) [(5, V.ptr 1 0 0), (6, V.ptr 2 0 0), y1_, (18, V.d y4_), (23, V.d (D.bool b))] h') (Tr.need (-9223372036854775808 ≤ Int.ofNat k + (1 : Int) ∧ Int.ofNat k + (1 : Int) ≤ 9223372036854775807) (Tr.leaf CExit.normal [(5, V.ptr 1 0 0), (6, V.ptr 2 0 0), y1_, (18, V.d (D.int .i64 (Int.ofNat k + (1 : Int))))] h'))) (Tr.leaf (CExit.exit 0) [(5, V.ptr 1 0 0), (6, V.ptr 2 0 0), y1_, (18, V.d y4_), (19, V.d (D.bool y3_))] y0_) := by kernel_rfl
theorem x38 (c : Cmp) (fo : D) (u0 : V) (k : Int) (b : Bool) : sS X38 (doneK r38) [Fr.blk 0, Fr.seq (CCode.at c38 [1,1,1,1,1,1,1])] (.exit 0) [(5, .ptr 1 0 0), (6, .ptr 2 0 0), (17, u0), (18, vi k), (23, vb b)] [] (H75 c fo []) =
  Tr.done (V.tup [V.d fo, V.d (D.int .i64 0)]) [some (Blk.box [V.d (D.int .i64 (Cmp.houses c)), V.d (D.sl false (List.length (Cmp.held c)) (enc eI (Cmp.held c))), V.d (D.sl false (List.length (Cmp.trades c)) (enc eT (Cmp.trades c))), V.d (D.sl false (List.length (Cmp.divs c)) (enc eV (Cmp.divs c))), V.d (D.sl false (List.length (Cmp.splits c)) (enc eS (Cmp.splits c))), V.d (D.sl false (List.length (Cmp.closed c)) (enc eR (Cmp.closed c)))]), some (Blk.box [V.d fo]), some (Blk.box [V.fn (Fn.func 75) [] [V.ptr 0 0 0, V.ptr 1 0 0, V.ptr 2 0 0]])] := by kernel_rfl
theorem x38b (c : Cmp) (fo : D) (u0 : V) (k : Int) (b : Bool) : sS X38 (doneK r38) [Fr.blk 0, Fr.seq (CCode.at c38 [1,1,1,1,1,1,1])] (.exit 0) [(5, .ptr 1 0 0), (6, .ptr 2 0 0), (17, u0), (18, vi k), (19, vb b)] [] (H75 c fo []) =
  Tr.done (V.tup [V.d fo, V.d (D.int .i64 0)]) [some (Blk.box [V.d (D.int .i64 (Cmp.houses c)), V.d (D.sl false (List.length (Cmp.held c)) (enc eI (Cmp.held c))), V.d (D.sl false (List.length (Cmp.trades c)) (enc eT (Cmp.trades c))), V.d (D.sl false (List.length (Cmp.divs c)) (enc eV (Cmp.divs c))), V.d (D.sl false (List.length (Cmp.splits c)) (enc eS (Cmp.splits c))), V.d (D.sl false (List.length (Cmp.closed c)) (enc eR (Cmp.closed c)))]), some (Blk.box [V.d fo]), some (Blk.box [V.fn (Fn.func 75) [] [V.ptr 0 0 0, V.ptr 1 0 0, V.ptr 2 0 0]])] := by kernel_rfl
theorem latT_mem {α : Type} [Inhabited α] {l : List α} {k : Nat} (h : k < l.length) : lat l (k : Nat) ∈ l := by
 have e : lat l (k : Nat) = l[k] := by simp [lat, h]
 rw [e]; exact List.getElem_mem h
theorem fault_sub {c : Cmp} (hf : faultM c = 0) {r : List Trd} (hl : r.length ≤ c.trades.length) (hm : ∀ x ∈ r, x ∈ c.trades) : faultM { c with trades := r } = 0 := by
 have h := fault_ok hf
 refine fault_of (c := { c with trades := r }) ⟨h.1.1, h.1.2.1, h.1.2.2.1, ?_, h.1.2.2.2.2⟩ h.2.1 ?_ h.2.2.2.1 h.2.2.2.2.1 h.2.2.2.2.2
 ·show r.length ≤ 4; omega
 ·show r.all (okTr c.houses) = true
  rw [List.all_eq_true]
  exact fun x hx => (List.all_eq_true.1 h.2.2.1) x (hm x hx)
theorem woK_mem {c : Cmp} {n : Int} : ∀ k, k ≤ c.trades.length → ∀ x ∈ woK c n k, x ∈ c.trades
 | 0, _, x, h => by simp [woK] at h
 | k + 1, hk, x, h => by
  rw [woK] at h
  split at h
  ·exact woK_mem k (by omega) x h
  ·rw [List.mem_append] at h
   rcases h with h | h
   ·exact woK_mem k (by omega) x h
   ·simp at h; rw [h]; exact latT_mem (by omega)
theorem keptK_mem {c : Cmp} {l : List Int} : ∀ k, k ≤ c.trades.length → ∀ x ∈ keptK c l k, x ∈ c.trades
 | 0, _, x, h => by simp [keptK] at h
 | k + 1, hk, x, h => by
  rw [keptK] at h
  split at h
  ·exact keptK_mem k (by omega) x h
  ·rw [List.mem_append] at h
   rcases h with h | h
   ·exact keptK_mem k (by omega) x h
   ·simp at h; rw [h]; exact latT_mem (by omega)
theorem fault_wo {c : Cmp} (hf : faultM c = 0) (n : Int) : faultM (c.wo n) = 0 := fault_sub hf (woK_len c n _) (woK_mem _ (Nat.le_refl _))
theorem fault_keep {c : Cmp} (hf : faultM c = 0) (l : List Int) : faultM (c.keep l) = 0 := fault_sub hf (keptK_len c l _) (keptK_mem _ (Nat.le_refl _))
def hasW (c : Cmp) (n : Int) : Bool := !(truthsR (c.wo n)).isEmpty
def rlvK (c : Cmp) (M : Int) : Nat → List Int
 | 0 => selK M c.trades.length
 | k + 1 => if (shorB (selK (k : Nat) c.trades.length) (rlvK c M k) && hasW c (k : Nat)) = true then selK (k : Nat) c.trades.length else rlvK c M k
def rlvL (c : Cmp) : List Int := rlvK c ((2 ^ c.trades.length - 1 : Nat) : Int) (2 ^ c.trades.length - 1)
theorem rlvK_len (c : Cmp) (M : Int) : ∀ k, (rlvK c M k).length ≤ c.trades.length
 | 0 => selK_len _ _
 | k + 1 => by
  rw [rlvK]
  split
  ·exact selK_len _ _
  ·exact rlvK_len c M k
def lvM (c : Cmp) : Nat → Nat → D → D
 | 0, _, fo => fo
 | r + 1, k, fo => if (lvF c k [] 0 fo).1 = true then (lvF c k [] 0 fo).2 else lvM c r (k + 1) (lvF c k [] 0 fo).2
theorem a38 (c : Cmp) (hf : faultM c = 0) : ACalls Try.prog 38 [Cv c] [] fun v _ => VLe v (.tup [.d (lvM c (c.trades.length + 1) 0 .nils), vi 0]) := by
 have hb := (fault_ok hf).1
 refine q38.calls X38_ok rfl (w38 c) ?_
 simp only [holds, Int.ofNat_eq_natCast, dCe, dC_enc, true_and, hf, bne_self_eq_false, Bool.false_eq_true, false_imp_iff, true_imp_iff]
 refine ⟨⟨by omega, by omega⟩, ?_⟩
 generalize hr : lvM c (c.trades.length + 1) 0 .nils = r
 refine lp_state (S := Nat × D) X38_ok (fun σ => c.trades.length + 1 - σ.1) (fun σ => σ.1 ≤ c.trades.length + 1 ∧ lvM c (c.trades.length + 1 - σ.1) σ.1 σ.2 = r) (fun σ => E38 c σ.1) (fun σ => H75 c σ.2 []) (0, .nils) rfl rfl ⟨by simp, hr⟩ (fun σ hσ => ⟨rfl, rfl, rfl⟩) ?_
 rintro ⟨k, fo⟩ ⟨hk, hrk⟩ Q' hn he hrr
 simp only at hk hrk
 rw [b38]
 simp only [holds, Int.ofNat_eq_natCast]
 refine ⟨fun e1 => ?_, fun e1 => ?_⟩
 ·have hlt : k < c.trades.length + 1 := by have := of_decide_eq_true e1; omega
  have hc := a75 hf (fault_keep hf) k [] 0 fo (by omega) (by simp; omega) _ (.inr ⟨rfl, rfl⟩)
  refine callV_holds ?_ hc
  rintro v h' ⟨rfl, rfl⟩
  have hs : c.trades.length + 1 - k = (c.trades.length + 1 - (k + 1)) + 1 := by omega
  rw [hs, lvM] at hrk
  refine ⟨_, rfl, fun h => (by cases h), fun hb1 => ?_, fun hb1 => ⟨⟨by omega, by omega⟩, ?_⟩⟩
  ·rw [if_pos hb1] at hrk
   refine he _ _ _ (ret_tree (R := fun v1 h1 => VLe v1 (.tup [.d r, vi 0])) X38_ok (doneK_ok rfl) (x38 _ _ _ _ _) ?_)
   rw [← hrk]
   exact .refl _
  ·rw [if_neg (by rw [hb1]; decide)] at hrk
   exact hn (k + 1, _) [] ⟨by show k + 1 ≤ c.trades.length + 1; omega, hrk⟩ (by show c.trades.length + 1 - (k + 1) < c.trades.length + 1 - k; omega)
 ·have hge : c.trades.length + 1 - k = 0 := by have := of_decide_eq_false e1; omega
  rw [hge, lvM] at hrk
  refine he _ _ _ (ret_tree (R := fun v1 h1 => VLe v1 (.tup [.d r, vi 0])) X38_ok (doneK_ok rfl) (x38b _ _ _ _ _) ?_)
  rw [← hrk]
  exact .refl _
end
end Go.Proofs.Ytdnefcjbcieecaa
namespace Go.Proofs.Ytdnefcjbcieecaa
open Go Go.Proofs
noncomputable section
section
variable {α : Type} (P : List Int → Bool) (e : List Int → α)
def runE : List (List Int) → α → Bool × α
 | [], fo => (false, fo)
 | x :: L, fo => if P x = true then (true, e x) else runE L (e x)
theorem runE_app (A B : List (List Int)) (fo : α) : runE P e (A ++ B) fo = if (runE P e A fo).1 = true then (true, (runE P e A fo).2) else runE P e B (runE P e A fo).2 := by
 induction A generalizing fo with
 | nil => simp [runE]
 | cons x A ih =>
  rw [List.cons_append, runE, runE]
  by_cases h : P x = true
  ·rw [if_pos h, if_pos h, if_pos rfl]
  ·rw [if_neg h, if_neg h, ih]
def enumL (E : List Int → Nat → List (List Int)) (l : List Int) : Nat → Nat → List (List Int)
 | 0, _ => []
 | r + 1, i => E (l ++ [(i : Int)]) (i + 1) ++ enumL E l r (i + 1)
def enumG (N : Nat) : Nat → List Int → Nat → List (List Int)
 | 0, l, _ => [l]
 | m + 1, l, i => enumL (enumG N m) l (N - i) i
def allL (N : Nat) : Nat → Nat → List (List Int)
 | 0, _ => []
 | r + 1, k => enumG N k [] 0 ++ allL N r (k + 1)
theorem lvL_run {F : List Int → Nat → α → Bool × α} {E : List Int → Nat → List (List Int)} (h : ∀ l i fo, F l i fo = runE P e (E l i) fo) (l : List Int) : ∀ (r i : Nat) (fo : α), lvL F l r i fo = runE P e (enumL E l r i) fo
 | 0, _, _ => rfl
 | r + 1, i, fo => by
  rw [lvL, enumL, runE_app, h, lvL_run h l r]
end
theorem lvF_run (c : Cmp) : ∀ (m : Nat) (l : List Int) (i : Nat) (fo : D), lvF c m l i fo = runE (lvP c) (dsl eI) (enumG c.trades.length m l i) fo
 | 0, l, i, fo => by
  rw [lvF, enumG, runE, runE]
  cases lvP c l <;> rfl
 | m + 1, l, i, fo => by
  rw [lvF, enumG]
  exact lvL_run _ _ (lvF_run c m) l _ _ _
theorem lvM_run (c : Cmp) : ∀ (r k : Nat) (fo : D), lvM c r k fo = (runE (lvP c) (dsl eI) (allL c.trades.length r k) fo).2
 | 0, _, _ => rfl
 | r + 1, k, fo => by
  rw [lvM, allL, runE_app, lvF_run, lvM_run c r]
  split <;> rfl
def firstP (P : List Int → Bool) : List (List Int) → List Int
 | [] => []
 | [x] => x
 | x :: y :: L => if P x = true then x else firstP P (y :: L)
theorem runE_first {α : Type} (P : List Int → Bool) (e : List Int → α) : ∀ (L : List (List Int)) (x : List Int) (fo : α), (runE P e (x :: L) fo).2 = e (firstP P (x :: L))
 | [], x, fo => by
  rw [runE, runE, firstP]
  split <;> rfl
 | y :: L, x, fo => by
  rw [runE, firstP]
  by_cases h : P x = true
  ·rw [if_pos h, if_pos h]
  ·rw [if_neg h, if_neg h]
   exact runE_first P e L y _
theorem first_is {P : List Int → Bool} : ∀ (L : List (List Int)) (x : List Int), (x :: L).Pairwise (fun a b => shorB a b = true ∧ shorB b a = false) → (∀ a ∈ x :: L, shorB a a = false) → ∀ r ∈ x :: L, (∀ l ∈ x :: L, P l = true → shorB l r = false) →
  (P r = true ∨ r = (x :: L).getLast (by simp)) → firstP P (x :: L) = r
 | [], x, _, _, r, hr, _, _ => by
  simp at hr
  rw [hr]; rfl
 | y :: L, x, hp, hi, r, hr, hm, hl => by
  rw [firstP]
  rw [List.pairwise_cons] at hp
  by_cases h : P x = true
  ·rw [if_pos h]
   rcases List.mem_cons.1 hr with rfl | hr'
   ·rfl
   ·have := hm x (by simp) h
    rw [(hp.1 r hr').1] at this
    cases this
  ·rw [if_neg h]
   rcases List.mem_cons.1 hr with rfl | hr'
   ·exfalso
    rcases hl with hl | hl
    ·exact h hl
    ·have hmem : r ∈ y :: L := by
      rw [List.getLast_cons (by simp)] at hl
      rw [hl]; exact List.getLast_mem _
     have h1 := (hp.1 r hmem).1
     rw [hi r (by simp)] at h1
     cases h1
   ·refine first_is L y hp.2 (fun a ha => hi a (by simp [ha])) r hr' (fun l hl' => hm l (List.mem_cons_of_mem _ hl')) ?_
    rcases hl with hl | hl
    ·exact .inl hl
    ·exact .inr (by rw [List.getLast_cons (by simp)] at hl; exact hl)
structure LsOk (N : Nat) : Prop where
 pw : (allL N (N + 1) 0).Pairwise (fun a b => shorB a b = true ∧ shorB b a = false)
 irr : ∀ a ∈ allL N (N + 1) 0, shorB a a = false
 sel : ∀ k, k < 2 ^ N → selK (k : Nat) N ∈ allL N (N + 1) 0
 onto : ∀ l ∈ allL N (N + 1) 0, ∃ k, k < 2 ^ N ∧ selK (k : Nat) N = l
 last : ∀ h, selK ((2 ^ N - 1 : Nat) : Int) N = (allL N (N + 1) 0).getLast h
 top : ∀ r ∈ allL N (N + 1) 0, shorB (selK ((2 ^ N - 1 : Nat) : Int) N) r = false
 tr : ∀ a ∈ allL N (N + 1) 0, ∀ b ∈ allL N (N + 1) 0, ∀ r ∈ allL N (N + 1) 0, shorB a r = false → shorB b r = true → shorB a b = false
 bits : ∀ k, k < 2 ^ N → ∀ j, j < N → hasI (selK (k : Nat) N) (j : Nat) = bitB (k : Nat) j
set_option maxRecDepth 100000 in
theorem ls_ok : ∀ N, N ≤ 4 → LsOk N
 | 0, _ => ⟨by decide +kernel, by decide +kernel, by decide +kernel, by decide +kernel, by decide +kernel, by decide +kernel, by decide +kernel, by decide +kernel⟩
 | 1, _ => ⟨by decide +kernel, by decide +kernel, by decide +kernel, by decide +kernel, by decide +kernel, by decide +kernel, by decide +kernel, by decide +kernel⟩
 | 2, _ => ⟨by decide +kernel, by decide +kernel, by decide +kernel, by decide +kernel, by decide +kernel, by decide +kernel, by decide +kernel, by decide +kernel⟩
 | 3, _ => ⟨by decide +kernel, by decide +kernel, by decide +kernel, by decide +kernel, by decide +kernel, by decide +kernel, by decide +kernel, by decide +kernel⟩
 | 4, _ => ⟨by decide +kernel, by decide +kernel, by decide +kernel, by decide +kernel, by decide +kernel, by decide +kernel, by decide +kernel, by decide +kernel⟩
 | n + 5, h => absurd h (by omega)
end
end Go.Proofs.Ytdnefcjbcieecaa
namespace Go.Proofs.Ytdnefcjbcieecaa
open Go Go.Proofs
noncomputable section
theorem keep_wo {c : Cmp} (hN : c.trades.length ≤ 4) {k : Nat} (hk : k < 2 ^ c.trades.length) : c.keep (selK (k : Nat) c.trades.length) = c.wo (k : Nat) := by
 have hb := (ls_ok _ hN).bits k hk
 have : ∀ j, j ≤ c.trades.length → keptK c (selK (k : Nat) c.trades.length) j = woK c (k : Nat) j := by
  intro j
  induction j with
  | zero => intro _; rfl
  | succ j ih =>
   intro hj
   rw [keptK, woK, ih (by omega), hb j (by omega)]
 unfold Cmp.keep Cmp.wo
 rw [this _ (Nat.le_refl _)]
theorem hasW_lv {c : Cmp} (hf : faultM c = 0) {k : Nat} (hk : k < 2 ^ c.trades.length) : hasW c (k : Nat) = lvP c (selK (k : Nat) c.trades.length) := by
 have hN : c.trades.length ≤ 4 := (fault_ok hf).1.2.2.2.1
 unfold hasW lvP
 rw [keep_wo hN hk, truths_empty (fault_wo hf _)]
def leaveL (c : Cmp) : List Int := firstP (lvP c) (allL c.trades.length (c.trades.length + 1) 0)
theorem allL_cons (N : Nat) : allL N (N + 1) 0 = [] :: allL N N 1 := rfl
theorem rlv_inv {c : Cmp} (hf : faultM c = 0) : ∀ k, k ≤ 2 ^ c.trades.length - 1 →
  rlvK c ((2 ^ c.trades.length - 1 : Nat) : Int) k ∈ allL c.trades.length (c.trades.length + 1) 0 ∧
  (lvP c (rlvK c ((2 ^ c.trades.length - 1 : Nat) : Int) k) = true ∨ rlvK c ((2 ^ c.trades.length - 1 : Nat) : Int) k = selK ((2 ^ c.trades.length - 1 : Nat) : Int) c.trades.length) ∧
  ∀ j, j < k → lvP c (selK (j : Nat) c.trades.length) = true → shorB (selK (j : Nat) c.trades.length) (rlvK c ((2 ^ c.trades.length - 1 : Nat) : Int) k) = false
 | 0, _ => by
  have hN : c.trades.length ≤ 4 := (fault_ok hf).1.2.2.2.1
  have h1 : 1 ≤ 2 ^ c.trades.length := Nat.one_le_two_pow
  exact ⟨(ls_ok _ hN).sel _ (by omega), .inr rfl, fun j hj => by omega⟩
 | k + 1, hk => by
  have hN : c.trades.length ≤ 4 := (fault_ok hf).1.2.2.2.1
  have L := ls_ok _ hN
  have ih := rlv_inv hf k (by omega)
  generalize ((2 ^ c.trades.length - 1 : Nat) : Int) = M at *
  have hkl : k < 2 ^ c.trades.length := by omega
  have hsk := L.sel k hkl
  rw [rlvK, hasW_lv hf hkl]
  by_cases h : (shorB (selK (k : Nat) c.trades.length) (rlvK c M k) && lvP c (selK (k : Nat) c.trades.length)) = true
  ·rw [if_pos h]
   simp only [Bool.and_eq_true] at h
   refine ⟨hsk, .inl h.2, fun j hj hPj => ?_⟩
   rcases Nat.lt_or_ge j k with g | g
   ·exact L.tr _ (L.sel j (by omega)) _ hsk _ ih.1 (ih.2.2 j g hPj) h.1
   ·have : j = k := by omega
    subst this
    exact L.irr _ hsk
  ·rw [if_neg h]
   refine ⟨ih.1, ih.2.1, fun j hj hPj => ?_⟩
   rcases Nat.lt_or_ge j k with g | g
   ·exact ih.2.2 j g hPj
   ·have : j = k := by omega
    subst this
    cases hs : shorB (selK (j : Nat) c.trades.length) (rlvK c M j) with
    | false => rfl
    | true => exact absurd (by rw [hs, hPj]; rfl) h
theorem leave_law {c : Cmp} (hf : faultM c = 0) : leaveL c = rlvL c := by
 have hN : c.trades.length ≤ 4 := (fault_ok hf).1.2.2.2.1
 have L := ls_ok _ hN
 have hi := rlv_inv hf _ (Nat.le_refl _)
 have h1 : 1 ≤ 2 ^ c.trades.length := Nat.one_le_two_pow
 unfold leaveL
 have hlast : selK ((2 ^ c.trades.length - 1 : Nat) : Int) c.trades.length = ([] :: allL c.trades.length c.trades.length 1).getLast (List.cons_ne_nil _ _) := L.last (List.cons_ne_nil _ _)
 have pw := L.pw
 have irr := L.irr
 have onto := L.onto
 have top := L.top
 rw [allL_cons] at hi pw irr onto top ⊢
 refine first_is _ _ pw irr _ hi.1 (fun l hl hP => ?_) ?_
 ·obtain ⟨k, hk, rfl⟩ := onto l hl
  rcases Nat.lt_or_ge k (2 ^ c.trades.length - 1) with g | g
  ·exact hi.2.2 k g hP
  ·have : k = 2 ^ c.trades.length - 1 := by omega
   rw [this]
   exact top _ hi.1
 ·rcases hi.2.1 with h | h
  ·exact .inl h
  ·exact .inr (h.trans hlast)
def leaveM (c : Cmp) : List Int := if faultM c = 0 then leaveL c else []
theorem leaveM_len (c : Cmp) : (leaveM c).length ≤ 4 := by
 unfold leaveM
 split
 ·rename_i hf
  have hN : c.trades.length ≤ 4 := (fault_ok hf).1.2.2.2.1
  rw [leave_law hf]
  exact Nat.le_trans (rlvK_len _ _ _) hN
 ·simp
theorem y38 (c : Cmp) : Yields Try.prog 38 [Cv c] (.tup [vsl eI (leaveM c), vi (faultM c)]) := by
 by_cases hf : faultM c = 0
 ·refine .of rfl rfl ((a38 c hf).mono ?_)
  rintro v h hv
  rw [lvM_run, allL_cons, runE_first, ← allL_cons] at hv
  unfold leaveM
  rw [if_pos hf, hf]
  exact hv
 ·refine q38.yieldsK X38_ok rfl rfl rfl (w38 c) ?_
  have hb : (faultM c != 0) = true := by simpa using hf
  simp only [holds, Int.ofNat_eq_natCast, dCe, dC_enc, true_and, hb, true_imp_iff, Bool.true_eq_false, false_imp_iff, and_true]
  unfold leaveM
  rw [if_neg hf]
  exact .tup (.cons .nilsF (.cons (.refl _) .nil))
def ent38 := entC (fun _ => True) (fun c => .tup [vsl eI (leaveM c), vi (faultM c)])
theorem ent38_ok : EntOk Try.prog 38 ent38 := entC_ok fun c _ => y38 c
end
end Go.Proofs.Ytdnefcjbcieecaa
namespace Go.Proofs.Ytdnefcjbcieecaa
open Go Go.Proofs
def G42 : Cfg := ⟨[], [(0, [1, 2]), (1, [4])], 19, []⟩
def r42 : List CRes := [.tmp 4]
def c42 : CCode :=
(.seq (.region [
 rs 2 (.box false (.tmp 0)),
 mB 4 false] (some [1, 2]))
(.seq (.region [
 lS 5 6 2,
 rs 6 (.build [(.d .nils), (.d .nils)] []),
 kL2 7 17 5 6,
 mV 8 7,
 rg 9 8 true (.load (some 6) (.tmp 2)),
 ⟨(some 10), (some (8, true)), .call (.func 34) [(.tmp 9)]⟩,
 rg 11 8 true (.bin .eql (.tmp 10) (ci 0)),
 pA 12 8 11,
 mV 13 12,
 rg 14 13 true (.load (some 6) (.tmp 2)),
 ⟨(some 15), (some (13, true)), .call (.func 70) [(.tmp 14)]⟩,
 qV 16 13 true 1,
 rg 17 13 true (.bin .leq (.tmp 15) (.tmp 16)),
 pA 18 13 17,
 mV 4 18] (some [4]))
.ret))
theorem k42 : Try.f42.body.bind (compC Try.prog G42) = some c42 := by kernel_rfl
theorem e42 : compRes Try.prog Try.f42.results.toList = some r42 := by kernel_rfl
def G7 : Cfg := ⟨[13, 14], [(0, [0, 1, 2, 3, 4, 5]), (1, [0, 1, 2, 3, 4, 5, 34]), (2, [12]), (3, [0, 3, 4, 5, 13]), (4, [0, 3, 4, 5, 13, 51]), (5, [12]), (6, [0, 13, 15, 16, 17]), (7, [0, 13, 15, 16, 17, 19, 20, 21]), (8, [13, 15, 16, 17, 19, 20, 95]), (9, [12]), (10, [13, 15, 16, 17, 19, 20, 22, 23, 24, 25]), (11, [13, 15, 16, 17, 19, 20, 22, 23, 24, 25, 26]), (12, [13, 15, 16, 17, 19, 20, 22, 23, 24, 25, 26, 27]), (13, [13, 15, 16, 17, 19, 20, 22, 23, 24, 25, 26, 27, 101]), (15, [13, 15, 16, 17, 19, 20, 22, 23, 24, 25, 26, 27, 28, 29]), (16, [13, 15, 16, 17, 19, 20, 22, 23, 24, 25, 26, 27, 28, 29, 30, 31]), (17, [13, 15, 16, 17, 19, 20, 22, 23, 24, 25, 26, 27, 28, 30, 195]), (18, [12]), (19, [13, 15, 16, 17, 19, 20, 22, 23, 24, 25, 26, 27, 30]), (20, [13, 15, 16, 17, 19, 20, 22, 23, 24, 25, 26, 27]), (14, [13, 15, 16, 17, 19, 20, 22, 23, 24, 25, 26, 27]), (21, [12])], 261, []⟩
def r7 : List CRes := [.tmp 12]
def c7 : CCode :=
(.seq (.region [
 mB 12 false] (some [0, 1, 2, 3, 4, 5]))
(.seq (.seq (.region [
 mV 32 0,
 kL1 33 40 32,
 rs 34 (.un .not (.tmp 33))] (some [0, 1, 2, 3, 4, 5, 34]))
(.cond (.tmp 34) (.seq (.region [
 ⟨(some 35), none, .call (.func 18) []⟩,
 mV 12 35] (some [12]))
 .ret)
 .skip))
(.seq (.region [
 mV 37 0,
 mV 38 1,
 mV 39 2,
 kL3 40 41 37 38 39,
 mV 36 40,
 rs 41 (.extract (.tmp 36) 0),
 rs 42 (.extract (.tmp 36) 1),
 rs 13 (.alloc [(.d (.int .i64 0)), (.d .nils), (.d .nils), (.d .nils), (.d .nils), (.d .nils)]),
 rs 14 (.alloc [(.d .nils), (.d .nils)]),
 rn (.store 6 (.tmp 13) (.tmp 41)),
 rn (.store 2 (.tmp 14) (.tmp 42))] (some [0, 3, 4, 5, 13]))
(.seq (.seq (.region [
 lS 43 6 13,
 ⟨(some 44), none, .call (.func 42) [(.tmp 43), (ci 200)]⟩,
 rs 45 (.un .not (.tmp 44)),
 mV 46 45,
 qA 47 46 false 2 13,
 qL 48 46 false 47,
 rg 49 46 false (.len (.tmp 48)),
 rg 50 46 false (.bin .eql (.tmp 49) (ci 0)),
 pO 51 46 50] (some [0, 3, 4, 5, 13, 51]))
(.cond (.tmp 51) (.seq (.region [
 ⟨(some 52), none, .call (.func 18) []⟩,
 mV 12 52] (some [12]))
 .ret)
 .skip))
(.seq (.region [
 mV 53 3,
 rs 54 (.conv .i64 (.tmp 53)),
 fA 55 3 13,
 lD 56 55,
 rs 57 (.len (.tmp 56)),
 rs 58 (.bin .rem (.tmp 54) (.tmp 57)),
 mV 59 4,
 rs 60 (.conv .i64 (.tmp 59)),
 mV 61 0,
 rs 62 (.len (.tmp 61)),
 rs 63 (.bin .rem (.tmp 60) (.tmp 62)),
 mV 64 5,
 rs 65 (.conv .i64 (.tmp 64)),
 fA 66 2 13,
 lD 67 66,
 rs 68 (.len (.tmp 67)),
 rs 69 (.bin .rem (.tmp 65) (.tmp 68)),
 mV 15 58,
 mV 16 63,
 mV 17 69] (some [0, 13, 15, 16, 17]))
(.seq (.region [
 lS 71 6 13,
 kL1 72 20 71,
 mV 73 15,
 kL2 74 33 72 73,
 mV 70 74,
 rs 75 (.extract (.tmp 70) 0),
 rs 76 (.extract (.tmp 70) 1),
 rs 77 (.extract (.tmp 70) 2),
 rs 78 (.extract (.tmp 70) 3),
 mV 18 75,
 mV 19 76,
 mV 20 77,
 mV 21 78] (some [0, 13, 15, 16, 17, 19, 20, 21]))
(.seq (.seq (.region [
 mV 79 21,
 rs 80 (.bin .neq (.tmp 79) (ci 0)),
 mV 81 80,
 qV 82 81 false 19,
 rg 83 81 false (.len (.tmp 82)),
 qA 84 81 false 2 13,
 qL 85 81 false 84,
 rg 86 81 false (.len (.tmp 85)),
 rg 87 81 false (.bin .neq (.tmp 83) (.tmp 86)),
 pO 88 81 87,
 mV 89 88,
 qV 90 89 false 20,
 rg 91 89 false (.len (.tmp 90)),
 qV 92 89 false 0,
 rg 93 89 false (.len (.tmp 92)),
 rg 94 89 false (.bin .neq (.tmp 91) (.tmp 93)),
 pO 95 89 94] (some [13, 15, 16, 17, 19, 20, 95]))
(.cond (.tmp 95) (.seq (.region [
 mB 12 false] (some [12]))
 .ret)
 .skip))
(.seq (.region [
 mB 22 false,
 mB 23 false,
 mB 24 false,
 mB 25 false] (some [13, 15, 16, 17, 19, 20, 22, 23, 24, 25]))
(.seq (.region [
 lS 96 6 13,
 kL1 97 35 96,
 mV 26 97] (some [13, 15, 16, 17, 19, 20, 22, 23, 24, 25, 26]))
(.seq (.seq (.region [
 mI 27 0] (some [13, 15, 16, 17, 19, 20, 22, 23, 24, 25, 26, 27]))
(.block 0 (.loop (.seq (.seq (.region [
 mV 98 27,
 mV 99 26,
 rs 100 (.len (.tmp 99)),
 rs 101 (.bin .lss (.tmp 98) (.tmp 100))] (some [13, 15, 16, 17, 19, 20, 22, 23, 24, 25, 26, 27, 101])) (.cond (.tmp 101) .skip (.exit 0))) (.seq (.block 1 (.seq (.region [
 lS 105 6 13,
 mV 107 26,
 mV 108 27,
 iX 109 2 107 108,
 lS 110 2 109,
 mV 112 15,
 ⟨(some 106), none, .callx (.func 20) [(.tmp 105)]⟩,
 ⟨(some 111), none, .callx (.func 21) [(.tmp 110)]⟩,
 kL3 113 26 106 111 112,
 mV 104 113,
 rs 114 (.extract (.tmp 104) 0),
 rs 115 (.extract (.tmp 104) 1),
 mV 28 114,
 mV 29 115] (some [13, 15, 16, 17, 19, 20, 22, 23, 24, 25, 26, 27, 28, 29])) (.seq (.region [
 lS 117 6 13,
 mV 119 26,
 mV 120 27,
 iX 121 2 119 120,
 lS 122 2 121,
 mV 124 15,
 ⟨(some 118), none, .callx (.func 20) [(.tmp 117)]⟩,
 ⟨(some 123), none, .callx (.func 21) [(.tmp 122)]⟩,
 kL3 125 27 118 123 124,
 mV 116 125,
 rs 126 (.extract (.tmp 116) 0),
 rs 127 (.extract (.tmp 116) 1),
 mV 30 126,
 mV 31 127] (some [13, 15, 16, 17, 19, 20, 22, 23, 24, 25, 26, 27, 28, 29, 30, 31])) (.seq (.seq (.region [
 mV 128 29,
 rs 129 (.bin .neq (.tmp 128) (ci 0)),
 mV 130 129,
 qV 131 130 false 31,
 rg 132 130 false (.bin .neq (.tmp 131) (ci 0)),
 pO 133 130 132,
 mV 134 133,
 qV 135 134 false 28,
 rg 136 134 false (.len (.tmp 135)),
 qV 137 134 false 19,
 rg 138 134 false (.len (.tmp 137)),
 rg 139 134 false (.bin .neq (.tmp 136) (.tmp 138)),
 pO 140 134 139,
 mV 141 140,
 qV 142 141 false 30,
 rg 143 141 false (.len (.tmp 142)),
 qV 144 141 false 20,
 rg 145 141 false (.len (.tmp 144)),
 rg 146 141 false (.bin .neq (.tmp 143) (.tmp 145)),
 pO 147 141 146,
 mV 148 147,
 qV 149 148 false 28,
 qV 150 148 false 17,
 rg 151 148 false (.indexS 1 (.tmp 149) (.tmp 150)),
 qL 152 148 false 151,
 qV 153 148 false 19,
 qV 154 148 false 17,
 rg 155 148 false (.indexS 2 (.tmp 153) (.tmp 154)),
 qA 156 148 false 0 155,
 qL 157 148 false 156,
 rg 158 148 false (.bin .lss (.tmp 152) (.tmp 157)),
 pO 159 148 158,
 mV 160 159,
 qV 161 160 false 28,
 qV 162 160 false 17,
 rg 163 160 false (.indexS 1 (.tmp 161) (.tmp 162)),
 qL 164 160 false 163,
 qV 165 160 false 19,
 qV 166 160 false 17,
 rg 167 160 false (.indexS 2 (.tmp 165) (.tmp 166)),
 qA 168 160 false 1 167,
 qL 169 160 false 168,
 rg 170 160 false (.bin .gtr (.tmp 164) (.tmp 169)),
 pO 171 160 170,
 mV 172 171,
 qV 173 172 false 30,
 qV 174 172 false 16,
 rg 175 172 false (.indexS 1 (.tmp 173) (.tmp 174)),
 qL 176 172 false 175,
 qV 177 172 false 20,
 qV 178 172 false 16,
 rg 179 172 false (.indexS 2 (.tmp 177) (.tmp 178)),
 qA 180 172 false 0 179,
 qL 181 172 false 180,
 rg 182 172 false (.bin .lss (.tmp 176) (.tmp 181)),
 pO 183 172 182,
 mV 184 183,
 qV 185 184 false 30,
 qV 186 184 false 16,
 rg 187 184 false (.indexS 1 (.tmp 185) (.tmp 186)),
 qL 188 184 false 187,
 qV 189 184 false 20,
 qV 190 184 false 16,
 rg 191 184 false (.indexS 2 (.tmp 189) (.tmp 190)),
 qA 192 184 false 1 191,
 qL 193 184 false 192,
 rg 194 184 false (.bin .gtr (.tmp 188) (.tmp 193)),
 pO 195 184 194] (some [13, 15, 16, 17, 19, 20, 22, 23, 24, 25, 26, 27, 28, 30, 195])) (.cond (.tmp 195) (.seq (.region [
 mB 12 false] (some [12]))
 .ret)
 .skip)) (.seq (.region [
 mV 196 22,
 mV 197 196,
 qV 198 197 false 28,
 qV 199 197 false 17,
 rg 200 197 false (.indexS 1 (.tmp 198) (.tmp 199)),
 qL 201 197 false 200,
 qV 202 197 false 19,
 qV 203 197 false 17,
 rg 204 197 false (.indexS 2 (.tmp 202) (.tmp 203)),
 qA 205 197 false 0 204,
 qL 206 197 false 205,
 rg 207 197 false (.bin .eql (.tmp 201) (.tmp 206)),
 pO 208 197 207,
 mV 209 23,
 mV 210 209,
 qV 211 210 false 28,
 qV 212 210 false 17,
 rg 213 210 false (.indexS 1 (.tmp 211) (.tmp 212)),
 qL 214 210 false 213,
 qV 215 210 false 19,
 qV 216 210 false 17,
 rg 217 210 false (.indexS 2 (.tmp 215) (.tmp 216)),
 qA 218 210 false 1 217,
 qL 219 210 false 218,
 rg 220 210 false (.bin .eql (.tmp 214) (.tmp 219)),
 pO 221 210 220,
 mV 22 208,
 mV 23 221] (some [13, 15, 16, 17, 19, 20, 22, 23, 24, 25, 26, 27, 30])) (.region [
 mV 222 24,
 mV 223 222,
 qV 224 223 false 30,
 qV 225 223 false 16,
 rg 226 223 false (.indexS 1 (.tmp 224) (.tmp 225)),
 qL 227 223 false 226,
 qV 228 223 false 20,
 qV 229 223 false 16,
 rg 230 223 false (.indexS 2 (.tmp 228) (.tmp 229)),
 qA 231 223 false 0 230,
 qL 232 223 false 231,
 rg 233 223 false (.bin .eql (.tmp 227) (.tmp 232)),
 pO 234 223 233,
 mV 235 25,
 mV 236 235,
 qV 237 236 false 30,
 qV 238 236 false 16,
 rg 239 236 false (.indexS 1 (.tmp 237) (.tmp 238)),
 qL 240 236 false 239,
 qV 241 236 false 20,
 qV 242 236 false 16,
 rg 243 236 false (.indexS 2 (.tmp 241) (.tmp 242)),
 qA 244 236 false 1 243,
 qL 245 236 false 244,
 rg 246 236 false (.bin .eql (.tmp 240) (.tmp 245)),
 pO 247 236 246,
 mV 24 234,
 mV 25 247] (some [13, 15, 16, 17, 19, 20, 22, 23, 24, 25, 26, 27]))))))) (.region [
 mV 102 27,
 rs 103 (.bin .add (.tmp 102) (ci 1)),
 mV 27 103] (some [13, 15, 16, 17, 19, 20, 22, 23, 24, 25, 26, 27])))))))
(.seq (.region [
 mV 248 22,
 mV 249 248,
 qV 250 249 true 23,
 pA 251 249 250,
 mV 252 251,
 qV 253 252 true 24,
 pA 254 252 253,
 mV 255 254,
 qV 256 255 true 25,
 pA 257 255 256,
 mV 258 257,
 ⟨(some 259), (some (258, true)), .call (.func 18) []⟩,
 pA 260 258 259,
 mV 12 260] (some [12]))
.ret)))))))))))
theorem k7 : Try.f7.body.bind (compC Try.prog G7) = some c7 := by kernel_rfl
theorem e7 : compRes Try.prog Try.f7.results.toList = some r7 := by kernel_rfl
end Go.Proofs.Ytdnefcjbcieecaa
namespace Go.Proofs.Ytdnefcjbcieecaa
open Go Go.Proofs
noncomputable section
theorem q42 : FunIs Try.prog 42 G42 c42 r42 := ⟨Try.f42, Try.func42, k42, e42, by kernel_rfl, by kernel_rfl⟩
theorem q7 : FunIs Try.prog 7 G7 c7 r7 := ⟨Try.f7, Try.func7, k7, e7, by kernel_rfl, by kernel_rfl⟩
def tab42 : Spec := (spAdd 70 ent70 (spAdd 69 ent69 (spAdd 34 ent34 (spAdd 17 ent17 spNil))))
theorem tab42_ok : SpOk Try.prog tab42 := (spAdd_ok ent70_ok (spAdd_ok ent69_ok (spAdd_ok ent34_ok (spAdd_ok ent17_ok (spNil_ok _)))))
def X42 : Sx := mkX tab42
theorem X42_ok : SpOk Try.prog X42.sp := tab42_ok
theorem w42 (c : Cmp) (n : Int) : sx X42 c42 [] (doneP r42) (envOf [Cv c, vi n]) [] [] =
  Tr.need (Cv (dCe c) = Cv c ∧ Uv (dU 0 [] 0 []) = V.agg [V.d (D.sl false 0 []), V.d (D.sl false 0 [])] ∧ True) (Tr.br (thin (dCe c) (dU 0 [] 0 [])) (Tr.need (Cv (dCe c) = Cv c ∧ True) (Tr.br (faultM (dCe c) == (0 : Int)) (Tr.need (Cv (dCe c) = Cv c ∧ faultM (dCe c) = (0 : Int)) (Tr.done (V.d (D.bool (decide (many (dCe c) ≤ n)))) [])) (Tr.done (V.d (D.bool false)) []))) (Tr.done (V.d (D.bool false)) [])) := by kernel_rfl
def readyB (c : Cmp) (n : Int) : Bool := thin c ⟨[], []⟩ && (decide (faultM c = 0) && decide (many c ≤ n))
theorem y42 (c : Cmp) (n : Int) : Yields Try.prog 42 [Cv c, vi n] (vb (readyB c n)) := by
 refine q42.yieldsP X42_ok rfl rfl rfl (w42 c n) ?_
 have hU : dU 0 [] 0 [] = ⟨[], []⟩ := rfl
 simp only [holds, dCe, dC_enc, hU, true_and, and_true]
 refine ⟨rfl, fun h1 => ⟨fun h2 => ⟨by simpa using h2, .of_eq (congrArg vb ?_)⟩, fun h2 => .of_eq (congrArg vb ?_)⟩, fun h1 => .of_eq (congrArg vb ?_)⟩
 ·have h2 : faultM c = 0 := by simpa using h2
  simp [readyB, h1, h2]
 ·have h2 : faultM c ≠ 0 := by simpa using h2
  simp [readyB, h1, h2]
 ·simp [readyB, h1]
def ent42 := entCI (fun _ _ => True) (fun c n => vb (readyB c n))
theorem ent42_ok : EntOk Try.prog 42 ent42 := entCI_ok fun c n _ => y42 c n
end
end Go.Proofs.Ytdnefcjbcieecaa
namespace Go.Proofs.Ytdnefcjbcieecaa
open Go Go.Proofs
noncomputable section
def tab10l : Spec := (spAdd 48 ent48 (spAdd 47 ent47 (spAdd 42 ent42 (spAdd 38 ent38 (spAdd 23 ent23 (spAdd 20 ent20 (spAdd 18 ent18 spNil)))))))
theorem tab10l_ok : SpOk Try.prog tab10l := (spAdd_ok ent48_ok (spAdd_ok ent47_ok (spAdd_ok ent42_ok (spAdd_ok ent38_ok (spAdd_ok ent23_ok (spAdd_ok ent20_ok (spAdd_ok ent18_ok (spNil_ok _))))))))
def X10l : Sx := mkX tab10l
theorem X10l_ok : SpOk Try.prog X10l.sp := tab10l_ok
theorem w10 (c : Cmp) (n : Int) : sx X10l c10 [] (doneP r10) (envOf [Cv c, .d (.int .u8 n)]) [] [] =
  Tr.need (Cv (dCe c) = Cv c ∧ True) (Tr.br (!readyB (dCe c) (700 : Int)) (Tr.need True (Tr.done (V.d (D.bool true)) [])) (Tr.need (Cv (dCe c) = Cv c ∧ small (dCe c)) (Tr.need (Cv (dCe (dCe c)) = Cv (dCe c) ∧ True) (Tr.lp (CCode.at c10 [1, 1, 1, 1, 0, 1, 0, 0]) [Fr.blk 0, Fr.seq (CCode.at c10 [1, 1, 1, 1, 1])] [(1, V.d (D.int IntKind.u8 n)), (2, V.rptr (Cds c) 0), (5, V.d (D.sl false (List.length (leaveM (dCe (dCe c)))) (enc eI (leaveM (dCe (dCe c)))))), (6, V.d (D.int .i64 (faultM (dCe (dCe c))))), (7, V.d (D.int .i64 0)), (8, V.d (D.int .i64 0))] [])))) := by kernel_rfl
def E10 (c : Cmp) (l : List Int) (e set : Int) (n : Int) (k : Nat) : Env := [(1, .d (.int .u8 n)), (2, .rptr (Cds c) 0), (5, vsl eI l), (6, vi e), (7, vi set), (8, vi k)]
theorem b10 (c : Cmp) (l : List Int) (e set n : Int) (k : Nat) : sx X10l (CCode.at c10 [1,1,1,1,0,1,0,0]) [] leafK (E10 c l e set n k) [] [] =
  let y1_ := (List.length l)
  let x1_ := (decide (Int.ofNat k < Int.ofNat y1_))
  let x2_ := ((0 : Int) ≤ Int.ofNat k ∧ Int.ofNat k < Int.ofNat y1_ ∧ okEl [0] (enc eI l) 1 (Int.ofNat k))
  let x3_ := (List.length (Cmp.trades c))
  let x4_ := (cI (enc eI l) 1 (Int.ofNat k) 0)
  let x5_ := (Int.ofNat k - (1 : Int))
  let x6_ := (Int.toNat (IntKind.wrap IntKind.u64 x4_))
  let y3_ := (5, V.d (D.sl false y1_ (enc eI l)))
  let y0_ := (Tr.need x2_ (Tr.need (DP.P (dp ((0 : Int) ≤ IntKind.wrap IntKind.u64 x4_ ∧ -9223372036854775808 ≤ (1 : Int) * (2 : Int) ^ min x6_ 64 ∧ (1 : Int) * (2 : Int) ^ min x6_ 64 ≤ 9223372036854775807))) (Tr.need (DP.P (dp (IntKind.i64 = IntKind.i64))) (Tr.need (-9223372036854775808 ≤ Int.ofNat k + (1 : Int) ∧ Int.ofNat k + (1 : Int) ≤ 9223372036854775807) (Tr.leaf CExit.normal [(1, V.d (D.int IntKind.u8 n)), (2, V.rptr (Cds c) 0), y3_, (6, V.d (D.int .i64 e)), (7, V.d (D.int .i64 (bitsV BinOp.or IntKind.i64 set ((1 : Int) * (2 : Int) ^ min x6_ 64)))), (8, V.d (D.int .i64 (Int.ofNat k + (1 : Int))))] [])))))
  let y2_ := (Tr.leaf CExit.ret [(4, V.d (D.bool false))] [])
  Tr.br x1_ (Tr.need x2_ (Tr.need (-9223372036854775808 ≤ Int.ofNat x3_ - (1 : Int) ∧ Int.ofNat x3_ - (1 : Int) ≤ 9223372036854775807) (Tr.need True (Tr.br (!inR x4_ (0 : Int) (Int.ofNat x3_ - (1 : Int))) y2_ (Tr.br (decide ((0 : Int) < Int.ofNat k)) (Tr.need x2_ (Tr.need (-9223372036854775808 ≤ Int.ofNat k - (1 : Int) ∧ Int.ofNat k - (1 : Int) ≤ 9223372036854775807) (Tr.need ((0 : Int) ≤ Int.ofNat k - (1 : Int) ∧ Int.ofNat k - (1 : Int) < Int.ofNat y1_ ∧ okEl [0] (enc eI l) 1 x5_) (Tr.br (decide (cI (enc eI l) 1 (Int.ofNat k) 0 ≤ cI (enc eI l) 1 x5_ 0)) y2_ y0_)))) y0_))))) (Tr.leaf (CExit.exit 0) [(1, V.d (D.int IntKind.u8 n)), (2, V.rptr (Cds c) 0), y3_, (6, V.d (D.int .i64 e)), (7, V.d (D.int .i64 set)), (8, V.d (D.int .i64 (Int.ofNat k))), (30, V.d (D.bool x1_))] []) := by kernel_rfl
theorem x10 (c : Cmp) (l : List Int) (e set n k : Int) (b : Bool) : sS X10l (doneP r10) [Fr.blk 0, Fr.seq (CCode.at c10 [1,1,1,1,1])] (.exit 0) [(1, .d (.int .u8 n)), (2, .rptr (Cds c) 0), (5, vsl eI l), (6, vi e), (7, vi set), (8, vi k), (30, vb b)] [] [] =
  let x1_ := (Cv (dCe c) = Cv c ∧ List.length (Cmp.trades (dCe c)) ≤ 1000000)
  let x2_ := (dCe (Cmp.wo (dCe c) set))
  let x3_ := (Int.tmod (IntKind.wrap IntKind.i64 n) (16 : Int))
  let x4_ := (dCe (Cmp.wo (dCe c) x3_))
  let x5_ := (selK x3_ (List.length (Cmp.trades (dCe c))))
  let x6_ := (dec 1 gI (List.length x5_) (enc eI x5_))
  let x7_ := (dec 1 gI (List.length l) (enc eI l))
  let y0_ := (Tr.done (V.d (D.bool false)) [])
  let y1_ := (Tr.need True (Tr.done (V.d (D.bool true)) []))
  Tr.need x1_ (Tr.need ((16 : Int) ≠ (0 : Int)) (Tr.need x1_ (Tr.need (Cv x2_ = Cv (Cmp.wo (dCe c) set) ∧ small x2_) (Tr.need (Cv (dCe x2_) = Cv x2_ ∧ True) (Tr.need (Cv x4_ = Cv (Cmp.wo (dCe c) x3_) ∧ small x4_) (Tr.need (Cv (dCe x4_) = Cv x4_ ∧ True) (Tr.br (e == (0 : Int)) (Tr.br (faultM (dCe x2_) == (0 : Int)) (Tr.br (Int.ofNat (List.length (leaveM (dCe x2_))) == (0 : Int)) (Tr.br (faultM (dCe x4_) == (0 : Int)) (Tr.br (decide ((0 : Int) < Int.ofNat (List.length (leaveM (dCe x4_))))) y1_ (Tr.need (okL eI 1 gI (List.length x5_) (enc eI x5_) ∧ okL eI 1 gI (List.length l) (enc eI l) ∧ List.length x6_ ≤ 1000000 ∧ List.length x7_ ≤ 1000000) (Tr.br (!shorB x6_ x7_) y1_ y0_))) y0_) y0_) y0_) y0_))))))) := by kernel_rfl
def setK (l : List Int) : Nat → Int
 | 0 => 0
 | k + 1 => bitsV .or .i64 (setK l k) ((1 : Int) * (2 : Int) ^ min (Int.toNat (IntKind.wrap .u64 (lat l (k : Nat)))) 64)
structure SetOk (N : Nat) : Prop where
 step : ∀ l ∈ allL N (N + 1) 0, ∀ k, k < l.length → (0 ≤ lat l (k : Nat) ∧ lat l (k : Nat) ≤ (N : Int) - 1) ∧ (0 < k → lat l ((k : Int) - 1) < lat l (k : Nat)) ∧
  (0 ≤ IntKind.wrap .u64 (lat l (k : Nat)) ∧ -9223372036854775808 ≤ (1 : Int) * (2 : Int) ^ min (Int.toNat (IntKind.wrap .u64 (lat l (k : Nat)))) 64 ∧ (1 : Int) * (2 : Int) ^ min (Int.toNat (IntKind.wrap .u64 (lat l (k : Nat)))) 64 ≤ 9223372036854775807)
 fin : ∀ l ∈ allL N (N + 1) 0, 0 ≤ setK l l.length ∧ setK l l.length < ((2 ^ N : Nat) : Int) ∧ selK (setK l l.length) N = l
 sel : ∀ k, k < 16 → selK (k : Nat) N ∈ allL N (N + 1) 0
 bits : ∀ k, k < 16 → ∀ j, j < N → hasI (selK (k : Nat) N) (j : Nat) = bitB (k : Nat) j
 full : ∀ j, j < N → hasI (selK ((2 ^ N - 1 : Nat) : Int) N) (j : Nat) = true
 ne : ∀ l ∈ allL N N 1, l.isEmpty = false
 le : 2 ^ N ≤ 16
set_option maxRecDepth 100000 in
theorem set_ok : ∀ N, N ≤ 4 → SetOk N
 | 0, _ => ⟨by decide +kernel, by decide +kernel, by decide +kernel, by decide +kernel, by decide +kernel, by decide +kernel, by decide⟩
 | 1, _ => ⟨by decide +kernel, by decide +kernel, by decide +kernel, by decide +kernel, by decide +kernel, by decide +kernel, by decide⟩
 | 2, _ => ⟨by decide +kernel, by decide +kernel, by decide +kernel, by decide +kernel, by decide +kernel, by decide +kernel, by decide⟩
 | 3, _ => ⟨by decide +kernel, by decide +kernel, by decide +kernel, by decide +kernel, by decide +kernel, by decide +kernel, by decide⟩
 | 4, _ => ⟨by decide +kernel, by decide +kernel, by decide +kernel, by decide +kernel, by decide +kernel, by decide +kernel, by decide⟩
 | n + 5, h => absurd h (by omega)
theorem truth_none {c : Cmp} (hf : faultM c = 0) (h : c.trades = []) : (truthsP c).isEmpty = false := by
 have hm : (⟨[], []⟩ : Tru) ∈ truthsP c := by
  rw [truthsP_mem]
  simp only [truthB, Bool.and_eq_true]
  constructor
  ·unfold datedB
   rw [h]
   exact decide_eq_true ⟨rfl, rfl, fun k hk => by simp at hk⟩
  ·simp only [fitsB, decide_eq_true_eq]
   intro j _ i _
   unfold heldF
   rw [h]
   exact (heldA_in hf _ _ (Nat.le_refl _) i).1
 cases hp : truthsP c with
 | nil => rw [hp] at hm; simp at hm
 | cons => rfl
theorem keep_wo2 {c : Cmp} {n : Int} (hb : ∀ j, j < c.trades.length → hasI (selK n c.trades.length) (j : Nat) = bitB n j) : c.keep (selK n c.trades.length) = c.wo n := by
 have : ∀ j, j ≤ c.trades.length → keptK c (selK n c.trades.length) j = woK c n j := by
  intro j
  induction j with
  | zero => intro _; rfl
  | succ j ih =>
   intro hj
   rw [keptK, woK, ih (by omega), hb j (by omega)]
 unfold Cmp.keep Cmp.wo
 rw [this _ (Nat.le_refl _)]
theorem leave_in {c : Cmp} (hf : faultM c = 0) : leaveL c ∈ allL c.trades.length (c.trades.length + 1) 0 := by
 rw [leave_law hf]
 exact (rlv_inv hf _ (Nat.le_refl _)).1
theorem leave_has {c : Cmp} (hf : faultM c = 0) : lvP c (leaveL c) = true := by
 have hN : c.trades.length ≤ 4 := (fault_ok hf).1.2.2.2.1
 rw [leave_law hf]
 rcases (rlv_inv hf _ (Nat.le_refl _)).2.1 with h | h
 ·exact h
 ·unfold rlvL
  rw [h]
  have hfull := (set_ok _ hN).full
  have : ∀ j, j ≤ c.trades.length → keptK c (selK ((2 ^ c.trades.length - 1 : Nat) : Int) c.trades.length) j = [] := by
   intro j
   induction j with
   | zero => intro _; rfl
   | succ j ih =>
    intro hj
    rw [keptK, if_pos (hfull j (by omega)), ih (by omega)]
  unfold lvP
  rw [truth_none (fault_keep hf _) (this _ (Nat.le_refl _))]
  rfl
theorem leave_min {c : Cmp} (hf : faultM c = 0) {x : List Int} (hx : x ∈ allL c.trades.length (c.trades.length + 1) 0) (hP : lvP c x = true) : shorB x (leaveL c) = false := by
 have hN : c.trades.length ≤ 4 := (fault_ok hf).1.2.2.2.1
 have L := ls_ok _ hN
 have hi := rlv_inv hf _ (Nat.le_refl _)
 rw [leave_law hf]
 obtain ⟨k, hk, rfl⟩ := L.onto x hx
 rcases Nat.lt_or_ge k (2 ^ c.trades.length - 1) with g | g
 ·exact hi.2.2 k g hP
 ·have : k = 2 ^ c.trades.length - 1 := by omega
  rw [this]
  exact L.top _ hi.1
theorem lvP_nil (c : Cmp) : lvP c [] = !(truthsP c).isEmpty := by
 have : ∀ j, j ≤ c.trades.length → keptK c [] j = c.trades.take j := by
  intro j
  induction j with
  | zero => intro _; rfl
  | succ j ih =>
   intro hj
   have hj2 : j < c.trades.length := hj
   have e : lat c.trades (j : Nat) = c.trades[j] := by simp [lat, hj2]
   rw [keptK, ih (by omega), if_neg (by simp [hasI, idx]), List.take_succ_eq_append_getElem hj, e]
 have e : c.keep [] = c := by
  unfold Cmp.keep
  rw [this _ (Nat.le_refl _), List.take_length]
 unfold lvP
 rw [e]
theorem leave_nil {c : Cmp} (hf : faultM c = 0) : ((leaveL c).isEmpty = true ↔ (truthsP c).isEmpty = false) := by
 have hN : c.trades.length ≤ 4 := (fault_ok hf).1.2.2.2.1
 have hP := lvP_nil c
 constructor
 ·intro h
  have h2 := leave_has hf
  rw [List.isEmpty_iff.1 h, hP] at h2
  simpa using h2
 ·intro h
  have h0 : lvP c [] = true := by rw [hP, h]; rfl
  unfold leaveL
  rw [allL_cons]
  cases allL c.trades.length c.trades.length 1 with
  | nil => rfl
  | cons y L => rw [firstP, if_pos h0]; rfl
theorem l10 {c : Cmp} {l : List Int} (hl : l ∈ allL c.trades.length (c.trades.length + 1) 0) (hf : faultM c = 0) (hs : l.length ≤ 4) (n : Int) {R : V → Prop}
  (hk : ∀ b, holds Try.prog G10 0 (retQ r10 fun v _ => R v) (fun v _ => R v) (sS X10l (doneP r10) [Fr.blk 0, Fr.seq (CCode.at c10 [1,1,1,1,1])] (.exit 0) [(1, .d (.int .u8 n)), (2, .rptr (Cds c) 0), (5, vsl eI l), (6, vi 0), (7, vi (setK l l.length)), (8, vi l.length), (30, vb b)] [] [])) :
  lpS Try.prog G10 0 (CCode.at c10 [1,1,1,1,0,1,0,0]) [Fr.blk 0, Fr.seq (CCode.at c10 [1,1,1,1,1])] (retQ r10 fun v _ => R v) (E10 c l 0 0 n 0) [] := by
 have hN : c.trades.length ≤ 4 := (fault_ok hf).1.2.2.2.1
 have hst := (set_ok _ hN).step l hl
 refine lp_count X10l_ok l.length (fun _ => True) (fun k => E10 c l 0 (setK l k) n k) (fun _ => []) rfl rfl trivial (fun k _ => ⟨rfl, rfl, rfl⟩) ?_
 intro k hkl _ Q' hn he hr
 rw [b10]
 simp only [holds, Int.ofNat_eq_natCast, cI_I, true_and]
 refine ⟨fun e1 => ?_, fun e1 => ?_⟩
 ·have hlt : k < l.length := by have := of_decide_eq_true e1; omega
  have hn := fun J => hn J hlt trivial
  obtain ⟨⟨a1, a2⟩, a3, a4⟩ := hst k hlt
  have hok : 0 ≤ (k : Int) ∧ (k : Int) < l.length ∧ okEl [0] (enc eI l) 1 (k : Nat) := ⟨by omega, by omega, ok_I (by omega)⟩
  have hin : (!inR (lat l (k : Nat)) 0 ((c.trades.length : Int) - 1)) = false := by simp [inR]; omega
  simp only [hin, Bool.false_eq_true, false_imp_iff, true_imp_iff, true_and]
  refine ⟨hok, ⟨by omega, by omega⟩, fun h2 => ?_, fun h2 => ⟨hok, a4, ⟨by omega, by omega⟩, hn []⟩⟩
  have h2 : 0 < k := by have := of_decide_eq_true h2; omega
  refine ⟨hok, ⟨by omega, by omega⟩, ⟨by omega, by omega, ok_I (by omega)⟩, fun h3 => ?_, fun h3 => ⟨hok, a4, ⟨by omega, by omega⟩, hn []⟩⟩
  have := of_decide_eq_true h3
  have := a3 h2
  omega
 ·have hge : k = l.length := by have := of_decide_eq_false e1; omega
  subst hge
  exact he _ _ _ (ret_tree (R := fun v1 h1 => R v1) X10l_ok (doneP_ok rfl) rfl (hk _))
theorem y10 (c : Cmp) (n : Int) (h0 : 0 ≤ n) (h1 : n ≤ 255) : Yields Try.prog 10 [Cv c, .d (.int .u8 n)] (vb true) := by
 refine q10.yieldsP X10l_ok rfl rfl rfl (w10 c n) ?_
 simp only [holds, Int.ofNat_eq_natCast, dCe, dC_enc, true_and, and_true]
 refine ⟨fun _ => .refl _, fun g => ?_⟩
 have g : readyB c 700 = true := by simpa using g
 have gt : thin c ⟨[], []⟩ = true := by unfold readyB at g; simp only [Bool.and_eq_true] at g; exact g.1
 have hf : faultM c = 0 := by unfold readyB at g; simp only [Bool.and_eq_true, decide_eq_true_eq] at g; exact g.2.1
 have hsm := thin_small gt
 have hN : c.trades.length ≤ 4 := (fault_ok hf).1.2.2.2.1
 have S := set_ok _ hN
 have hle := leaveM_len c
 have el : leaveM c = leaveL c := by unfold leaveM; rw [if_pos hf]
 have hin := leave_in hf
 rw [el] at hle ⊢
 rw [hf]
 refine ⟨hsm, ?_⟩
 refine l10 (R := fun v => VLe v (vb true)) hin hf hle n fun b => ?_
 rw [x10]
 have hwr : IntKind.wrap .i64 n = n := wrap_i64 (by omega) (by omega)
 have hq := wd h0 (show n ≤ 65535 by omega) (n := 16) (by omega)
 rw [hwr]
 obtain ⟨q, eq⟩ := Int.eq_ofNat_of_zero_le hq.1
 rw [eq] at hq ⊢
 have hq16 : q < 16 := by omega
 have hfin := S.fin _ hin
 obtain ⟨m, em⟩ := Int.eq_ofNat_of_zero_le hfin.1
 rw [em] at hfin ⊢
 have hm16 : m < 16 := by have := S.le; omega
 have hsel := S.sel q hq16
 have hll : ∀ x ∈ allL c.trades.length (c.trades.length + 1) 0, x.length ≤ 4 := fun x hx => by
  obtain ⟨k, _, rfl⟩ := (ls_ok _ hN).onto x hx
  exact Nat.le_trans (selK_len _ _) hN
 have l1 := hll _ hsel
 have f1 := fault_wo hf (m : Nat)
 have f2 := fault_wo hf (q : Nat)
 have sm : ∀ k : Nat, small (c.wo k) := fun k => by
  have hb := (fault_ok (fault_wo hf (k : Nat))).1
  unfold small
  omega
 have k1 : leaveM (c.wo (m : Nat)) = [] := by
  unfold leaveM
  rw [if_pos f1]
  have h2 := leave_has hf
  rw [← hfin.2.2] at h2
  unfold lvP at h2
  rw [keep_wo2 (S.bits m hm16)] at h2
  have := (leave_nil f1).2 (by simpa using h2)
  simpa using this
 have k2 : ¬ 0 < (leaveM (c.wo (q : Nat))).length → shorB (selK (q : Nat) c.trades.length) (leaveL c) = false := fun h => by
  refine leave_min hf hsel ?_
  unfold lvP
  rw [keep_wo2 (S.bits q hq16)]
  have h3 : (leaveL (c.wo (q : Nat))).isEmpty = true := by
   have e3 : leaveM (c.wo (q : Nat)) = leaveL (c.wo (q : Nat)) := by unfold leaveM; rw [if_pos f2]
   rw [← e3]
   cases hx : leaveM (c.wo (q : Nat)) with
   | nil => rfl
   | cons a l => rw [hx] at h; simp at h
  rw [(leave_nil f2).1 h3]
  rfl
 simp only [holds, Int.ofNat_eq_natCast, dCe, dC_enc, dec_I, okL_I, true_and, and_true, f1, f2, sm, k1, List.length_nil, beq_self_eq_true, true_imp_iff, Bool.true_eq_false, false_imp_iff]
 refine ⟨by omega, by decide, by omega, fun _ => ⟨fun _ => .refl _, fun h => ?_⟩, fun h => by simp at h⟩
 have h : ¬ 0 < (leaveM (c.wo (q : Nat))).length := by have := of_decide_eq_false h; omega
 rw [k2 h]
 exact ⟨⟨by omega, by omega, by omega, by omega⟩, fun _ => .refl _, fun h => by simp at h⟩
end
end Go.Proofs.Ytdnefcjbcieecaa
namespace Go.Proofs.Ytdnefcjbcieecaa
open Go Go.ChangeShapes Go.WideShapes Go.ChangeAt Go.RowKit
def flatFs (g : TypeId → Option (List IntKind)) (cell : TypeId → Nat) : List Field → Nat → Option (List IntKind)
 | [], _ => some []
 | f :: fs, off => if f.offset = off then match g f.type, flatFs g cell fs (off + cell f.type) with
   | some a, some b => if a.length = cell f.type then some (a ++ b) else none
   | _, _ => none
  else none
def flatOf (P : Program) : Nat → TypeId → Option (List IntKind)
 | 0, _ => none
 | m + 1, T => match P.underlying T with
  | some (.int k) => some [k]
  | some (.struct fs) => match flatFs (flatOf P m) P.cellsOf fs.toList 0 with
   | some ks => if ks.length = P.cellsOf T then some ks else none
   | none => none
  | _ => none
section
variable {H : Type} {enc : TypeId × Value → H} {P : Program} {w : World} {base : Nat} {spare : Nat → Bool} {held : Bool}
def IntsIn (ks : List IntKind) (cs : List Value) (ns : List Int) : Prop :=
 ns.length = ks.length ∧ cs = List.zipWith Value.int ks ns ∧ ∀ (j : Nat) k n, ks[j]? = some k → ns[j]? = some n → (Lit.int k n).wf = true
theorem IntsIn.append {k1 k2 : List IntKind} {c1 c2 : List Value} {n1 n2 : List Int} (h1 : IntsIn k1 c1 n1) (h2 : IntsIn k2 c2 n2) : IntsIn (k1 ++ k2) (c1 ++ c2) (n1 ++ n2) := by
 obtain ⟨a1, b1, d1⟩ := h1
 obtain ⟨a2, b2, d2⟩ := h2
 refine ⟨by simp [a1, a2], by rw [b1, b2, List.zipWith_append a1.symm], fun j k n hk hn => ?_⟩
 by_cases hj : j < k1.length
 ·rw [List.getElem?_append_left hj] at hk
  rw [List.getElem?_append_left (by omega)] at hn
  exact d1 j k n hk hn
 ·rw [List.getElem?_append_right (by omega)] at hk
  rw [List.getElem?_append_right (by omega)] at hn
  rw [a1] at hn
  exact d2 _ k n hk hn
theorem flat_sound : ∀ (m : Nat) (T : TypeId) (ks : List IntKind), flatOf P m T = some ks → ∀ (fuel : Nat) (cs : List Value) (x : DataW H × List MemPlace), DataW.trod enc P w base spare held fuel T cs = some x → ∃ ns, IntsIn ks cs ns
 | 0, _, _, h => by cases h
 | m + 1, T, ks, h => by
  intro fuel cs x hx
  unfold flatOf at h
  split at h
  ·rename_i k hu
   cases h
   obtain ⟨n, rfl, _, hw⟩ := DataW.trod_int hu hx
   exact ⟨[n], rfl, rfl, fun j k' n' hk hn => by
    cases j with
    | zero => cases hk; cases hn; exact hw
    | succ j => simp at hk⟩
  ·rename_i fs hu
   split at h
   ·rename_i ks' hks
    split at h
    ·rename_i hlen
     cases h
     obtain ⟨xs, n, _, _, hcl, hxl, hf⟩ := DataW.trod_struct hu hx
     have key : ∀ (fl : List Field) (off i0 : Nat) (ks : List IntKind), (∀ (j : Nat) f, fl[j]? = some f → fs[i0 + j]? = some f) → fl.length + i0 = fs.size → flatFs (flatOf P m) P.cellsOf fl off = some ks → off + ks.length = cs.length → ∃ ns, IntsIn ks (cs.drop off) ns := by
      intro fl
      induction fl with
      | nil =>
       intro off i0 ks hg hl hk ho
       cases hk
       exact ⟨[], rfl, List.drop_eq_nil_of_le (by simp at ho; omega), fun j k n h => by simp at h⟩
      | cons f fl ih =>
       intro off i0 ks hg hl hk ho
       unfold flatFs at hk
       split at hk
       ·rename_i hoff
        split at hk
        ·rename_i a b ha hb
         split at hk
         ·rename_i hal
          cases hk
          have hfi := hg 0 f rfl
          have h1 := hf i0 f (by simpa using hfi)
          have hlt : i0 < xs.length := by rw [hxl]; simp at hl; omega
          rw [List.getElem?_eq_getElem hlt, hoff] at h1
          obtain ⟨n1, hn1⟩ := flat_sound m f.type a ha n _ _ h1
          obtain ⟨n2, hn2⟩ := ih (off + P.cellsOf f.type) (i0 + 1) b (fun j g hj => by have := hg (j + 1) g hj; rwa [show i0 + (j + 1) = i0 + 1 + j by omega] at this) (by simp at hl ⊢; omega) hb (by simp at ho; omega)
          refine ⟨n1 ++ n2, ?_⟩
          have e : cs.drop off = (cs.drop off).take (P.cellsOf f.type) ++ cs.drop (off + P.cellsOf f.type) := by rw [← List.drop_drop, List.take_append_drop]
          rw [e]
          exact hn1.append hn2
         ·cases hk
        ·cases hk
       ·cases hk
     obtain ⟨ns, hns⟩ := key fs.toList 0 0 ks (fun j f hj => by simpa using hj) (by simp) hks (by rw [hcl, hlen]; simp)
     exact ⟨ns, by simpa using hns⟩
    ·cases h
   ·cases h
  ·cases h
def memOf (P : Program) (w : World) : Mem := { ro := fun b o => w.cell? ⟨b, o, none⟩, mu := fun _ => none, df := fun _ => False, cc := ccP P }
theorem sim_memOf (P : Program) (w : World) : Sim (memOf P w) [] w :=
 ⟨fun i blk h => by simp at h, fun i j bi bj ri rj b h => by simp at h, fun b o v h => ⟨h, fun ⟨i, _, _, h, _⟩ => by simp at h⟩, fun _ _ => rfl, fun _ h => h.elim⟩
def rowD (ks : List IntKind) (ns : List Int) : List D := List.zipWith D.int ks ns
theorem rowD_len {ks : List IntKind} {cs : List Value} {ns : List Int} (h : IntsIn ks cs ns) : (rowD ks ns).length = ks.length := by simp [rowD, h.1]
theorem slice_sound {T e : TypeId} {ks : List IntKind} {m : Nat} (hT : P.underlying T = some (.slice e)) (he : flatOf P m e = some ks) (hsz : P.cellsOf e = ks.length) (hpos : 0 < ks.length) {fuel : Nat} {cs : List Value} {x : DataW H × List MemPlace}
  (hx : DataW.trod enc P w base spare held fuel T cs = some x) :
  ∃ (rows : List (List Int)) (v : Value), cs = [v] ∧ RepD (memOf P w).ro (.sl false rows.length (rows.flatMap (rowD ks))) v ∧ rows.length ≤ maxLen ∧ ∀ r ∈ rows, r.length = ks.length ∧ ∀ (j : Nat) k n, ks[j]? = some k → r[j]? = some n → (Lit.int k n).wf = true := by
 rcases Go.Deep.open_slice hT hx with ⟨rfl, _⟩ | ⟨a, len, cap, q, n, Df, Pl, rfl, _, hle, hm, hq, _, hel⟩
 ·refine ⟨[], _, rfl, ?_, Nat.zero_le _, fun r hr => by simp at hr⟩
  have := VLe.sl (n := 0) (cs := []) (memOf P w) _ (.d _ _ (rep_nil _))
  cases this with
  | d x v h => exact h
 ·have hlq : len ≤ q := by rw [hq]; split <;> omega
  have hrow : ∀ i, i < len → ∃ ns, (∀ (j : Nat), j < ks.length → w.cell? ((a.add (i * ks.length)).add j) = (List.zipWith Value.int ks ns)[j]?) ∧ IntsIn ks (List.zipWith Value.int ks ns) ns := fun i hi => by
   obtain ⟨cs', h1, h2⟩ := hel i (by omega)
   obtain ⟨ns, hns⟩ := flat_sound m e ks he n cs' _ h2
   rw [hsz] at h1
   obtain ⟨_, hl, hc⟩ := World.cells?_some h1
   obtain ⟨h3, h4, h5⟩ := hns
   exact ⟨ns, fun j hj => by rw [← h4]; exact hc j hj, h3, rfl, h5⟩
  obtain ⟨f, hf⟩ : ∃ f : Nat → List Int, ∀ i, i < len → (∀ (j : Nat), j < ks.length → w.cell? ((a.add (i * ks.length)).add j) = (List.zipWith Value.int ks (f i))[j]?) ∧ IntsIn ks (List.zipWith Value.int ks (f i)) (f i) :=
   ⟨fun i => if h : i < len then Classical.choose (hrow i h) else [], fun i hi => by simp only [dif_pos hi]; exact Classical.choose_spec (hrow i hi)⟩
  have hrl : ∀ r ∈ (List.range len).map f, (rowD ks r).length = ks.length := fun r hr => by
   obtain ⟨i, hi, rfl⟩ := List.mem_map.1 hr
   exact rowD_len (hf i (List.mem_range.1 hi)).2
  have hget : ∀ (i j : Nat), i < len → j < ks.length → (((List.range len).map f).flatMap (rowD ks))[i * ks.length + j]? = (rowD ks (f i))[j]? := by
   have gen : ∀ (l : List (List Int)), (∀ r ∈ l, (rowD ks r).length = ks.length) → ∀ (i j : Nat), j < ks.length → (l.flatMap (rowD ks))[i * ks.length + j]? = (l[i]?).bind fun r => (rowD ks r)[j]? := by
    intro l
    induction l with
    | nil => intro _ i j _; simp
    | cons r l ih =>
     intro hl i j hj
     have h0 := hl r (by simp)
     cases i with
     | zero => rw [List.flatMap_cons, List.getElem?_append_left (by omega)]; simp
     | succ i =>
      rw [List.flatMap_cons, List.getElem?_append_right (by rw [h0, Nat.add_mul]; omega), h0]
      have : (i + 1) * ks.length + j - ks.length = i * ks.length + j := by rw [Nat.add_mul]; omega
      rw [this, ih (fun r hr => hl r (by simp [hr])) i j hj]
      rfl
   intro i j hi hj
   rw [gen _ hrl i j hj]
   simp [hi]
  have hlen : (((List.range len).map f).flatMap (rowD ks)).length = len * ks.length := by
   have gen : ∀ (l : List (List Int)), (∀ r ∈ l, (rowD ks r).length = ks.length) → (l.flatMap (rowD ks)).length = l.length * ks.length := by
    intro l
    induction l with
    | nil => intro _; simp
    | cons r l ih =>
     intro hl
     rw [List.flatMap_cons, List.length_append, hl r (by simp), ih (fun r hr => hl r (by simp [hr])), List.length_cons, Nat.add_mul]
     omega
   rw [gen _ hrl]; simp
  have hwf : ∀ r ∈ (List.range len).map f, r.length = ks.length ∧ ∀ (j : Nat) k n, ks[j]? = some k → r[j]? = some n → (Lit.int k n).wf = true := fun r hr => by
   obtain ⟨i, hi, rfl⟩ := List.mem_map.1 hr
   exact ⟨(hf i (List.mem_range.1 hi)).2.1, (hf i (List.mem_range.1 hi)).2.2.2⟩
  refine ⟨(List.range len).map f, _, rfl, ?_, by simp; omega, hwf⟩
  have hl2 : ((List.range len).map f).length = len := by simp
  rw [hl2]
  rcases Nat.eq_zero_or_pos len with h0 | h0
  ·subst h0
   exact .sl false 0 cap _ (some a) 0 0 (fun _ => undef) hle hm (fun e => by cases e) (.inl (by simp)) (fun k hk => by simp at hk) (fun k c hc => by simp at hc)
  · -- the address is plain
   have hspot : a = ⟨a.block, a.off, none⟩ := by
    have h1 := (hf 0 h0).1 0 hpos
    have h2 := (hf 0 h0).2.1
    have h3 : (a.add (0 * ks.length)).add 0 = a := by simp [Addr.add]
    rw [h3] at h1
    have h4 : (List.zipWith Value.int ks (f 0))[0]? ≠ none := by
     intro e
     rw [List.getElem?_eq_none_iff, List.length_zipWith, h2, Nat.min_self] at e
     omega
    cases hs : a.spot with
    | none => cases a; simp_all
    | some s =>
     exfalso
     apply h4
     rw [← h1]
     unfold World.cell?
     split
     ·simp [hs]
     ·rfl
   have hadd : ∀ i j : Nat, (a.add (i * ks.length)).add j = ⟨a.block, a.off + (i * ks.length + j), none⟩ := fun i j => by
    rw [hspot]
    by_cases hi : i * ks.length = 0
    ·by_cases hj : j = 0
     ·simp [Addr.add, hi, hj]
     ·simp [Addr.add, hi, hj]
    ·by_cases hj : j = 0
     ·simp [Addr.add, hi, hj]
     ·simp [Addr.add, hi, hj]; omega
   have hsplit : ∀ k, k < len * ks.length → ∃ i j, i < len ∧ j < ks.length ∧ k = i * ks.length + j := fun k hk =>
    ⟨k / ks.length, k % ks.length, (Nat.div_lt_iff_lt_mul hpos).2 hk, Nat.mod_lt _ hpos, by rw [Nat.mul_comm]; exact (Nat.div_add_mod k ks.length).symm⟩
   refine .sl false len cap _ (some a) a.block a.off (fun k => (w.cell? ⟨a.block, a.off + k, none⟩).getD undef) hle hm (fun e => by cases e) (.inr (congrArg some hspot)) (fun k hk => ?_) (fun k c hc => ?_)
   ·rw [hlen] at hk
    obtain ⟨i, j, hi, hj, rfl⟩ := hsplit k hk
    have h1 := (hf i hi).1 j hj
    rw [hadd] at h1
    show w.cell? _ = _
    rw [h1]
    have h2 := (hf i hi).2.1
    rw [List.getElem?_eq_getElem (by simp [h2]; omega)]
    rfl
   ·have hk : k < len * ks.length := by rw [← hlen]; exact (List.getElem?_eq_some_iff.1 hc).1
    obtain ⟨i, j, hi, hj, rfl⟩ := hsplit k hk
    rw [hget i j hi hj] at hc
    have h1 := (hf i hi).1 j hj
    rw [hadd] at h1
    rw [h1]
    have h2 := (hf i hi).2.1
    have hk' : ks[j]? = some ks[j] := List.getElem?_eq_getElem hj
    have hn' : (f i)[j]? = some ((f i)[j]'(by omega)) := List.getElem?_eq_getElem (by omega)
    simp only [rowD, List.getElem?_zipWith, hk', hn', Option.map_some, Option.bind_some, Option.some.injEq] at hc ⊢
    subst hc
    exact .int _ _
end
def in64 (n : Int) : Prop := -9223372036854775808 ≤ n ∧ n ≤ 9223372036854775807
theorem rows1 {rows : List (List Int)} (h : ∀ r ∈ rows, r.length = 1) : ∃ l : List Int, l.length = rows.length ∧ rows.flatMap (rowD [.i64]) = Go.Proofs.Ytdnefcjbcieecaa.enc eI l := by
 induction rows with
 | nil => exact ⟨[], rfl, rfl⟩
 | cons r rows ih =>
  obtain ⟨l, h1, h2⟩ := ih fun r hr => h r (by simp [hr])
  match r, h r (by simp) with
  | [a], _ => exact ⟨a :: l, by simp [h1], by rw [List.flatMap_cons, h2]; rfl⟩
theorem rows2 {rows : List (List Int)} (h : ∀ r ∈ rows, r.length = 2) : ∃ l : List Rng, l.length = rows.length ∧ rows.flatMap (rowD [.i64, .i64]) = Go.Proofs.Ytdnefcjbcieecaa.enc eR l := by
 induction rows with
 | nil => exact ⟨[], rfl, rfl⟩
 | cons r rows ih =>
  obtain ⟨l, h1, h2⟩ := ih fun r hr => h r (by simp [hr])
  match r, h r (by simp) with
  | [a, b], _ => exact ⟨⟨a, b⟩ :: l, by simp [h1], by rw [List.flatMap_cons, h2]; rfl⟩
theorem rows3V {rows : List (List Int)} (h : ∀ r ∈ rows, r.length = 3) : ∃ l : List Dvd, l.length = rows.length ∧ rows.flatMap (rowD [.i64, .i64, .i64]) = Go.Proofs.Ytdnefcjbcieecaa.enc eV l := by
 induction rows with
 | nil => exact ⟨[], rfl, rfl⟩
 | cons r rows ih =>
  obtain ⟨l, h1, h2⟩ := ih fun r hr => h r (by simp [hr])
  match r, h r (by simp) with
  | [a, b, c], _ => exact ⟨⟨a, b, c⟩ :: l, by simp [h1], by rw [List.flatMap_cons, h2]; rfl⟩
theorem rows3S {rows : List (List Int)} (h : ∀ r ∈ rows, r.length = 3) : ∃ l : List Spl, l.length = rows.length ∧ rows.flatMap (rowD [.i64, .i64, .i64]) = Go.Proofs.Ytdnefcjbcieecaa.enc eS l := by
 induction rows with
 | nil => exact ⟨[], rfl, rfl⟩
 | cons r rows ih =>
  obtain ⟨l, h1, h2⟩ := ih fun r hr => h r (by simp [hr])
  match r, h r (by simp) with
  | [a, b, c], _ => exact ⟨⟨a, b, c⟩ :: l, by simp [h1], by rw [List.flatMap_cons, h2]; rfl⟩
theorem rows7 {rows : List (List Int)} (h : ∀ r ∈ rows, r.length = 7) : ∃ l : List Trd, l.length = rows.length ∧ rows.flatMap (rowD [.i64, .i64, .i64, .i64, .i64, .i64, .i64]) = Go.Proofs.Ytdnefcjbcieecaa.enc eT l := by
 induction rows with
 | nil => exact ⟨[], rfl, rfl⟩
 | cons r rows ih =>
  obtain ⟨l, h1, h2⟩ := ih fun r hr => h r (by simp [hr])
  match r, h r (by simp) with
  | [a, b, c, d, e, f, g], _ => exact ⟨⟨a, b, c, ⟨d, e⟩, ⟨f, g⟩⟩ :: l, by simp [h1], by rw [List.flatMap_cons, h2]; rfl⟩
theorem trodAll_old {H : Type} {enc : TypeId × Value → H} {P : Program} {W W' : World} {T : TypeId → Prop} (K : Kids P T) (hz : ∀ t e, T t → P.underlying t = some (.slice e) → 0 < P.cellsOf e) {ts : List TypeId} (hT : ∀ t ∈ ts, T t)
  {vs : List Value} {ds : List (DataW H)} {ps : List MemPlace} (h : DataW.TrodAll enc P W 0 (fun _ => true) true ts vs ds ps) (hold : ∀ b, b < W.heap.size → W'.heap[b]? = W.heap[b]?) :
  DataW.TrodAll enc P W' 0 (fun b => decide (b < W.heap.size)) true ts vs ds ps := by
 have hlt := h.lt
 have h2 := h.respare (spare' := fun b => decide (b < W.heap.size)) K hz hT (fun p hp => decide_eq_true (hlt p hp))
 have hsame : ∀ p ∈ ps, W.sameAt W' p := fun p hp => by
  have := hold _ (hlt p hp)
  cases p with
  | cell b off =>
   have this : W'.heap[b]? = W.heap[b]? := this
   show W'.cell? _ = W.cell? _
   unfold World.cell?
   rw [this]
  | map b => exact this
 clear h hlt
 revert vs ds ps
 induction ts with
 | nil => intro vs ds ps h _; cases vs <;> cases ds <;> first | exact h | exact h.elim
 | cons t ts ih =>
  intro vs ds ps h hs
  cases vs with
  | nil => exact h.elim
  | cons v vs => cases ds with
   | nil => exact h.elim
   | cons d ds =>
    obtain ⟨p, q, ⟨n, h1⟩, h2, rfl⟩ := h
    exact ⟨p, q, ⟨n, DataW.trod_carry n _ _ _ h1 fun x hx => hs x (List.mem_append_left _ hx)⟩, ih (fun t ht => hT t (by simp [ht])) h2 (fun x hx => hs x (List.mem_append_right _ hx)), rfl⟩
theorem calls_true {P : Program} {g : Nat} {vs : List V} {b : Bool} (hy : Yields P g vs (vb b)) (w : World) {args : List Value} (hr : RepL (memOf P w) vs args) :
  Calls P g args.toArray w fun e w' => e = .returned (.bool b) ∧ w'.os = w.os ∧ w'.tape = w.tape ∧ w'.output = w.output ∧ w.heap.size ≤ w'.heap.size ∧ ∀ b, b < w.heap.size → w'.heap[b]? = w.heap[b]? := by
 refine ((hy []).2 (memOf P w) w args rfl (sim_memOf P w) hr).mono ?_
 rintro e w' ⟨cv, v, h2, M', rfl, hp, hv, rfl, rfl⟩
 have hv : RepV M' (.d (.bool b)) cv := hv
 exact ⟨by rw [hv.boolI], hp.os, hp.tape, hp.output, hp.size, fun b hb => hp.keep b hb (fun ⟨i, blk, r, hi, _⟩ => by simp at hi)⟩
end Go.Proofs.Ytdnefcjbcieecaa
namespace Go.Proofs.Ytdnefcjbcieecaa
open Go Go.ChangeShapes Go.WideShapes Go.ChangeAt Go.RowKit
def fieldAt (P : Program) (T : TypeId) (i : Nat) : Option (TypeId × Nat × Nat) := match P.underlying T with
 | some (.struct fs) => (fs[i]?).map fun f => (f.type, f.offset, P.cellsOf f.type)
 | _ => none
def isSlice (P : Program) (T e : TypeId) : Bool := match P.underlying T with
 | some (.slice t) => t == e
 | _ => false
noncomputable def isIntT (P : Program) (T : TypeId) : Nat := match P.underlying T with
 | some (.int k) => kn k + 1
 | _ => 0
theorem isSlice_eq {P : Program} {T e : TypeId} (h : isSlice P T e = true) : P.underlying T = some (.slice e) := by
 unfold isSlice at h
 split at h
 ·rename_i hu; rw [hu, eq_of_beq h]
 ·cases h
theorem isIntT_eq {P : Program} {T : TypeId} {k : IntKind} (h : isIntT P T = kn k + 1) : P.underlying T = some (.int k) := by
 unfold isIntT at h
 split at h
 ·rename_i k' hu
  rw [hu]
  have h2 : kn k' = kn k := by omega
  have h3 : k' = k := kn_inj (by rw [h2]; exact Nat.beq_refl _)
  rw [h3]
 ·omega
section
variable {H : Type} {enc : TypeId × Value → H} {w : World} {spare : Nat → Bool} {held : Bool}
theorem field_sound {P : Program} {T t : TypeId} {i off c fuel : Nat} {cs : List Value} {x : DataW H × List MemPlace} (hf : fieldAt P T i = some (t, off, c)) (hx : DataW.trod enc P w 0 spare held fuel T cs = some x) :
  cs.length = P.cellsOf T ∧ ∃ n y, DataW.trod enc P w 0 spare held n t ((cs.drop off).take c) = some y := by
 unfold fieldAt at hf
 split at hf
 ·rename_i fs hu
  obtain ⟨xs, n, _, _, hl, hxl, h⟩ := DataW.trod_struct hu hx
  cases hi : fs[i]? with
  | none => rw [hi] at hf; cases hf
  | some f =>
   rw [hi] at hf
   simp only [Option.map_some, Option.some.injEq, Prod.mk.injEq] at hf
   obtain ⟨rfl, rfl, rfl⟩ := hf
   have h1 := h i f hi
   have hlt : i < xs.length := by rw [hxl]; exact (Array.getElem?_eq_some_iff.1 hi).1
   rw [List.getElem?_eq_getElem hlt] at h1
   exact ⟨hl, n, _, h1⟩
 ·cases hf
theorem int_sound {P : Program} {T : TypeId} {k : IntKind} {fuel : Nat} {cs : List Value} {x : DataW H × List MemPlace} (hT : isIntT P T = kn k + 1) (hx : DataW.trod enc P w 0 spare held fuel T cs = some x) :
  ∃ n, cs = [.int k n] ∧ (Lit.int k n).wf = true := by
 obtain ⟨n, h1, _, h2⟩ := DataW.trod_int (isIntT_eq hT) hx
 exact ⟨n, h1, h2⟩
theorem cellAt {cs : List Value} {off : Nat} {v : Value} (h : (cs.drop off).take 1 = [v]) : cs[off]? = some v := by
 have : ((cs.drop off).take 1)[0]? = some v := by rw [h]; rfl
 simpa using this
theorem listI_sound {fuel : Nat} {cs : List Value} {x : DataW H × List MemPlace} (hx : DataW.trod enc Try.prog w 0 spare held fuel 22 cs = some x) :
  ∃ (l : List Int) (v : Value), cs = [v] ∧ RepD (memOf Try.prog w).ro (dsl eI l) v ∧ l.length ≤ maxLen := by
 obtain ⟨rows, v, h1, h2, h3, h4⟩ := slice_sound (ks := [.i64]) (m := 3) (isSlice_eq (e := 3) (by kernel_rfl)) (by kernel_rfl) (by kernel_rfl) (by decide) hx
 obtain ⟨l, hl, he⟩ := rows1 fun r hr => (h4 r hr).1
 exact ⟨l, v, h1, by unfold dsl; rw [hl, ← he]; exact h2, by omega⟩
theorem listR_sound {fuel : Nat} {cs : List Value} {x : DataW H × List MemPlace} (hx : DataW.trod enc Try.prog w 0 spare held fuel 26 cs = some x) :
  ∃ (l : List Rng) (v : Value), cs = [v] ∧ RepD (memOf Try.prog w).ro (dsl eR l) v ∧ l.length ≤ maxLen := by
 obtain ⟨rows, v, h1, h2, h3, h4⟩ := slice_sound (ks := [.i64, .i64]) (m := 3) (isSlice_eq (e := 73) (by kernel_rfl)) (by kernel_rfl) (by kernel_rfl) (by decide) hx
 obtain ⟨l, hl, he⟩ := rows2 fun r hr => (h4 r hr).1
 exact ⟨l, v, h1, by unfold dsl; rw [hl, ← he]; exact h2, by omega⟩
theorem listT_sound {e : TypeId} (he1 : isSlice Try.prog 23 e = true) (he2 : flatOf Try.prog 4 e = some [.i64, .i64, .i64, .i64, .i64, .i64, .i64]) (he3 : Try.prog.cellsOf e = 7) {fuel : Nat} {cs : List Value} {x : DataW H × List MemPlace} (hx : DataW.trod enc Try.prog w 0 spare held fuel 23 cs = some x) :
  ∃ (l : List Trd) (v : Value), cs = [v] ∧ RepD (memOf Try.prog w).ro (dsl eT l) v ∧ l.length ≤ maxLen := by
 obtain ⟨rows, v, h1, h2, h3, h4⟩ := slice_sound (m := 4) (isSlice_eq he1) he2 he3 (by decide) hx
 obtain ⟨l, hl, he⟩ := rows7 fun r hr => (h4 r hr).1
 exact ⟨l, v, h1, by unfold dsl; rw [hl, ← he]; exact h2, by omega⟩
theorem listV_sound {fuel : Nat} {cs : List Value} {x : DataW H × List MemPlace} (hx : DataW.trod enc Try.prog w 0 spare held fuel 24 cs = some x) :
  ∃ (l : List Dvd) (v : Value), cs = [v] ∧ RepD (memOf Try.prog w).ro (dsl eV l) v ∧ l.length ≤ maxLen := by
 obtain ⟨rows, v, h1, h2, h3, h4⟩ := slice_sound (ks := [.i64, .i64, .i64]) (m := 3) (isSlice_eq (e := 52) (by kernel_rfl)) (by kernel_rfl) (by kernel_rfl) (by decide) hx
 obtain ⟨l, hl, he⟩ := rows3V fun r hr => (h4 r hr).1
 exact ⟨l, v, h1, by unfold dsl; rw [hl, ← he]; exact h2, by omega⟩
theorem listS_sound {fuel : Nat} {cs : List Value} {x : DataW H × List MemPlace} (hx : DataW.trod enc Try.prog w 0 spare held fuel 25 cs = some x) :
  ∃ (l : List Spl) (v : Value), cs = [v] ∧ RepD (memOf Try.prog w).ro (dsl eS l) v ∧ l.length ≤ maxLen := by
 obtain ⟨rows, v, h1, h2, h3, h4⟩ := slice_sound (ks := [.i64, .i64, .i64]) (m := 3) (isSlice_eq (e := 79) (by kernel_rfl)) (by kernel_rfl) (by kernel_rfl) (by decide) hx
 obtain ⟨l, hl, he⟩ := rows3S fun r hr => (h4 r hr).1
 exact ⟨l, v, h1, by unfold dsl; rw [hl, ← he]; exact h2, by omega⟩
theorem rep_agg {M : Mem} {ds : List D} {cs : List Value} (hl : ds.length = cs.length) (h : ∀ (k : Nat) d v, ds[k]? = some d → cs[k]? = some v → RepD M.ro d v) : RepV M (.agg (ds.map .d)) (.agg cs.toArray) := by
 refine .agg _ _ (by simpa using hl) (fun k v c hv hc => ?_) (fun u hu => ?_)
 ·rw [List.getElem?_map] at hv
  cases hd : ds[k]? with
  | none => rw [hd] at hv; cases hv
  | some d => rw [hd] at hv; cases hv; exact .d _ _ (h k d c hd hc)
 ·obtain ⟨k, hk, rfl⟩ := List.getElem_of_mem hu
  exact (h k ds[k] cs[k] (by simp) (by simp)).one
theorem company_sound {cs : Array Value} {fuel : Nat} {x : DataW H × List MemPlace} (hx : DataW.trod enc Try.prog w 0 spare held fuel 28 cs.toList = some x) : ∃ c : Cmp, RepV (memOf Try.prog w) (Cv c) (.agg cs) ∧ in64 c.houses ∧
  c.held.length ≤ maxLen ∧ c.trades.length ≤ maxLen ∧ c.divs.length ≤ maxLen ∧ c.splits.length ≤ maxLen ∧ c.closed.length ≤ maxLen := by
 obtain ⟨hl, n0, y0, h0⟩ := field_sound (i := 0) (t := 3) (off := 0) (c := 1) (by kernel_rfl) hx
 obtain ⟨_, n1, y1, h1⟩ := field_sound (i := 1) (t := 22) (off := 1) (c := 1) (by kernel_rfl) hx
 obtain ⟨_, n2, y2, h2⟩ := field_sound (i := 2) (t := 23) (off := 2) (c := 1) (by kernel_rfl) hx
 obtain ⟨_, n3, y3, h3⟩ := field_sound (i := 3) (t := 24) (off := 3) (c := 1) (by kernel_rfl) hx
 obtain ⟨_, n4, y4, h4⟩ := field_sound (i := 4) (t := 25) (off := 4) (c := 1) (by kernel_rfl) hx
 obtain ⟨_, n5, y5, h5⟩ := field_sound (i := 5) (t := 26) (off := 5) (c := 1) (by kernel_rfl) hx
 have hc : Try.prog.cellsOf 28 = 6 := by kernel_rfl
 rw [hc] at hl
 obtain ⟨hs, e0, hw⟩ := int_sound (k := .i64) (by kernel_rfl) h0
 obtain ⟨l1, v1, e1, r1, m1⟩ := listI_sound h1
 obtain ⟨l2, v2, e2, r2, m2⟩ := listT_sound (e := 99) (by kernel_rfl) (by kernel_rfl) (by kernel_rfl) h2
 obtain ⟨l3, v3, e3, r3, m3⟩ := listV_sound h3
 obtain ⟨l4, v4, e4, r4, m4⟩ := listS_sound h4
 obtain ⟨l5, v5, e5, r5, m5⟩ := listR_sound h5
 have c0 := cellAt e0; have c1 := cellAt e1; have c2 := cellAt e2; have c3 := cellAt e3; have c4 := cellAt e4; have c5 := cellAt e5
 refine ⟨⟨hs, l1, l2, l3, l4, l5⟩, ?_, bounds_i64 hw, m1, m2, m3, m4, m5⟩
 have := rep_agg (M := memOf Try.prog w) (ds := [.int .i64 hs, dsl eI l1, dsl eT l2, dsl eV l3, dsl eS l4, dsl eR l5]) (cs := cs.toList) (by rw [hl]; rfl) (fun k d v hd hv => by
  match k with
  | 0 => rw [c0] at hv; cases hd; cases hv; exact .int _ _
  | 1 => rw [c1] at hv; cases hd; cases hv; exact r1
  | 2 => rw [c2] at hv; cases hd; cases hv; exact r2
  | 3 => rw [c3] at hv; cases hd; cases hv; exact r3
  | 4 => rw [c4] at hv; cases hd; cases hv; exact r4
  | 5 => rw [c5] at hv; cases hd; cases hv; exact r5
  | k + 6 => simp at hd)
 simp only [Array.toArray_toList] at this
 exact this
end
theorem isStruct_of {P : Program} {T : TypeId} {i : Nat} {t : TypeId} {off c : Nat} (h : fieldAt P T i = some (t, off, c)) : ∃ fs, P.underlying T = some (.struct fs) := by
 unfold fieldAt at h
 split at h
 ·rename_i fs hu; exact ⟨fs, hu⟩
 ·cases h
theorem keptBut_of_old {w w' : World} {may : MemPlace → Prop} (h1 : w'.os = w.os) (h2 : w'.output = w.output) (h3 : ∀ b, b < w.heap.size → w'.heap[b]? = w.heap[b]?) : w.keptBut w' may := by
 refine ⟨h1, h2, fun i hi => ?_⟩
 rw [h3 i hi]
 split
 ·rename_i c t fr c' t' fr' e1 e2
  rw [e1] at e2; cases e2
  exact ⟨rfl, rfl, rfl, fun _ _ => rfl⟩
 ·rename_i es k es' k' e1 e2
  rw [e1] at e2; cases e2
  exact .inr ⟨rfl, rfl⟩
 ·rfl
theorem ownsNothing : ownKnob Try.prog.godebug = none := by kernel_rfl
theorem try_laid : laidOutB Try.prog = true := by kernel_rfl
theorem repL_nil (M : Mem) : RepL M [] [] := ⟨rfl, fun k v c h => by simp at h⟩
theorem repL_cons {M : Mem} {v : V} {c : Value} {vs : List V} {cs : List Value} (h : RepV M v c) (hs : RepL M vs cs) : RepL M (v :: vs) (c :: cs) := by
 refine ⟨by simp [hs.1], fun k a b ha hb => ?_⟩
 cases k with
 | zero => cases ha; cases hb; exact h
 | succ k => exact hs.2 k a b (by simpa using ha) (by simpa using hb)
theorem try_kids : Kids Try.prog (· < Try.prog.types.size) := kids_rows try_laid (by kernel_rfl)
theorem try_full : ∀ t e, t < Try.prog.types.size → Try.prog.underlying t = some (.slice e) → 0 < Try.prog.cellsOf e := slices_full_of Try.prog (by kernel_rfl)
theorem fa28 : fieldAt Try.prog 28 0 = some (3, 0, 1) := by kernel_rfl
theorem it5 : isIntT Try.prog 5 = kn .u8 + 1 := by kernel_rfl
section
variable {H : Type} {enc : TypeId × Value → H} {W : World} {base : Nat}
set_option maxRecDepth 100000 in
theorem arg_company {v : Value} {d : DataW H} {p : List MemPlace} (hok : Value.okWide Try.prog W .any base 28 v) (ht : DataW.Trod enc Try.prog W 0 (fun _ => true) true 28 v d p) : ∃ c : Cmp, RepV (memOf Try.prog W) (Cv c) v ∧ in64 c.houses ∧
  c.held.length ≤ maxLen ∧ c.trades.length ≤ maxLen ∧ c.divs.length ≤ maxLen ∧ c.splits.length ≤ maxLen ∧ c.closed.length ≤ maxLen := by
 obtain ⟨fs, hfs⟩ := isStruct_of fa28
 obtain ⟨cs, rfl, _⟩ := okWide_struct hfs hok
 obtain ⟨fuel, hx⟩ := ht
 exact company_sound (cs := cs) hx
set_option maxRecDepth 100000 in
theorem arg_u8 {v : Value} {d : DataW H} {p : List MemPlace} (hok : Value.okWide Try.prog W .any base 5 v) (ht : DataW.Trod enc Try.prog W 0 (fun _ => true) true 5 v d p) : ∃ n : Int, RepV (memOf Try.prog W) (.d (.int .u8 n)) v ∧ 0 ≤ n ∧ n ≤ 255 := by
 obtain ⟨n, rfl⟩ := okWide_int (isIntT_eq it5) hok
 obtain ⟨fuel, hx⟩ := ht
 obtain ⟨m, h1, h2⟩ := int_sound it5 hx
 cases h1
 exact ⟨n, .d _ _ (.int _ _), bounds_u8 h2⟩
end
end Go.Proofs.Ytdnefcjbcieecaa
