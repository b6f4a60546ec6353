/- A part of the proof. -/
import Derived.Test.YtdnefcjbcieecaaPart7
import Derived.Test.YtdnefcjbcieecaaProg
import Derived.KernelRfl
set_option linter.unusedVariables false
set_option linter.unusedSimpArgs false
namespace Go.Proofs.Ytdnefcjbcieecaa
open Go Go.Proofs
noncomputable section
theorem q69:FunIs Try.prog 69 G69 c69 r69 := ⟨Try.f69,Try.func69,k69,e69,by kernel_rfl,by kernel_rfl⟩
theorem q34:FunIs Try.prog 34 G34 c34 r34 := ⟨Try.f34,Try.func34,k34,e34,by kernel_rfl,by kernel_rfl⟩
theorem q56:FunIs Try.prog 56 G56 c56 r56 := ⟨Try.f56,Try.func56,k56,e56,by kernel_rfl,by kernel_rfl⟩
theorem q20:FunIs Try.prog 20 G20 c20 r20 := ⟨Try.f20,Try.func20,k20,e20,by kernel_rfl,by kernel_rfl⟩
def ent49 := entCI (fun c n => -9223372036854775808 ≤ n ∧ c.closed.length ≤ 140737488355328) (fun c n => vi (regR c.closed n))
theorem ent49_ok:EntOk Try.prog 49 ent49 := entCI_ok fun c n h => y49 c n h.1 h.2
def ent50 := entCI (fun _ _ => True) (fun c n => .tup [vi (regN c n),vi (regE c n)])
theorem ent50_ok:EntOk Try.prog 50 ent50 := entCI_ok fun c n _ => y50 c n
def tab9:Spec := (spAdd 50 ent50 (spAdd 49 ent49 tab8))
theorem tab9_ok:SpOk Try.prog tab9 := (spAdd_ok ent50_ok (spAdd_ok ent49_ok tab8_ok))
def X9:Sx := mkX tab9
theorem X9_ok:SpOk Try.prog X9.sp := tab9_ok
theorem all_false {α:Type} [Inhabited α] {l:List α} {p:α → Bool} {k:Nat} (hk:k < l.length) (h:p (lat l (k:Nat)) = false):l.all p = false := by
 rw [List.all_eq_false]; exact ⟨lat l (k:Nat),by simp [lat,hk],by rw [h]; decide⟩
theorem all_true {α:Type} [Inhabited α] {l:List α} {p:α → Bool} (h:∀ j:Nat,j < l.length → p (lat l j) = true):l.all p = true := by
 rw [List.all_eq_true]
 intro x hx
 obtain ⟨j,hj,rfl⟩ := List.getElem_of_mem hx
 have := h j hj
 simpa [lat,hj] using this
theorem step_all {k:Nat} {A:Nat → Prop} (hA:∀ j,j < k → A j) (h:A k):∀ j,j < k + 1 → A j := fun j hj => by
 rcases Nat.lt_or_ge j k with h1 | h1
 ·exact hA j h1
 ·have:j = k := by omega
  rw [this]; exact h
abbrev Q69 (n:Int):CExit → Env → Heap → Prop := retQ r69 fun v _ => VLe v (vi n)
theorem w69 (c:Cmp):sx X9 c69 [] (doneK r69) (envOf [Cv c]) [] [] =
  let y0_ := (Tr.done (V.d (D.int .i64 (3:Int))) [])
  let y1_ := (Tr.done (V.d (D.int .i64 (1:Int))) [])
  Tr.br (decide ((4:Int) < Cmp.houses c)) y0_ (Tr.br (decide ((4:Int) < Int.ofNat (List.length (Cmp.trades c)))) y0_ (Tr.br (decide ((3:Int) < Int.ofNat (List.length (Cmp.divs c)))) y0_ (Tr.br (decide ((2:Int) < Int.ofNat (List.length (Cmp.splits c)))) y0_ (Tr.br (decide ((2:Int) < Int.ofNat (List.length (Cmp.closed c)))) y0_ (Tr.br (decide (Cmp.houses c < (1:Int))) y1_ (Tr.br (Int.ofNat (List.length (Cmp.held c)) != Cmp.houses c) y1_ (Tr.lp (CCode.at c69 [1,1,1,0,1,0,0]) [Fr.blk 0,Fr.seq (CCode.at c69 [1,1,1,1])] [(1,V.rptr (Cds c) 0),(3,V.d (D.int .i64 0))] []))))))) := by kernel_rfl
theorem b69a (c:Cmp) (k:Nat):sx X9 (CCode.at c69 [1,1,1,0,1,0,0]) [] (bodyK r69) [(1,.rptr (Cds c) 0),(3,vi k)] [] [] =
  let y0_ := (decide (Int.ofNat k < Cmp.houses c))
  Tr.br y0_ (Tr.need ((0:Int) ≤ Int.ofNat k ∧ Int.ofNat k < Int.ofNat (List.length (Cmp.held c)) ∧ okEl [0] (enc eI (Cmp.held c)) 1 (Int.ofNat k)) (Tr.need True (Tr.br (!inR (cI (enc eI (Cmp.held c)) 1 (Int.ofNat k) 0) (0:Int) (100:Int)) (Tr.done (V.d (D.int .i64 (1:Int))) []) (Tr.need (-9223372036854775808 ≤ Int.ofNat k + (1:Int) ∧ Int.ofNat k + (1:Int) ≤ 9223372036854775807) (Tr.leaf CExit.normal [(1,V.rptr (Cds c) 0),(3,V.d (D.int .i64 (Int.ofNat k + (1:Int))))] []))))) (Tr.leaf (CExit.exit 0) [(1,V.rptr (Cds c) 0),(3,V.d (D.int .i64 (Int.ofNat k))),(53,V.d (D.bool y0_))] []) := by kernel_rfl
theorem x69a (c:Cmp) (v w:V):sS X9 (doneK r69) [Fr.blk 0,Fr.seq (CCode.at c69 [1,1,1,1])] (.exit 0) [(1,.rptr (Cds c) 0),(3,v),(53,w)] [] [] =
  Tr.lp (CCode.at c69 [1,1,1,1,0,1,0,0]) [Fr.blk 2,Fr.seq (CCode.at c69 [1,1,1,1,1])] [(1,V.rptr (Cds c) 0),(4,V.d (D.int .i64 0))] [] := by kernel_rfl
theorem b69b (c:Cmp) (k:Nat):sx X9 (CCode.at c69 [1,1,1,1,0,1,0,0]) [] (bodyK r69) [(1,.rptr (Cds c) 0),(4,vi k)] [] [] =
  let x1_ := (List.length (Cmp.trades c))
  let x2_ := (decide (Int.ofNat k < Int.ofNat x1_))
  let x3_ := (-9223372036854775808 ≤ Cmp.houses c - (1:Int) ∧ Cmp.houses c - (1:Int) ≤ 9223372036854775807)
  let y0_ := (enc eT (Cmp.trades c))
  let x4_ := (cI y0_ 7 (Int.ofNat k) 0)
  let x5_ := (Cmp.houses c - (1:Int))
  let x6_ := (cI y0_ 7 (Int.ofNat k) 1)
  let x7_ := (cI y0_ 7 (Int.ofNat k) 2)
  let y1_ := (Tr.done (V.d (D.int .i64 (1:Int))) [])
  Tr.br x2_ (Tr.need ((0:Int) ≤ Int.ofNat k ∧ Int.ofNat k < Int.ofNat x1_ ∧ okEl [0,0,0,0,0,0,0] y0_ 7 (Int.ofNat k)) (Tr.need x3_ (Tr.need True (Tr.br (!inR x4_ (0:Int) x5_) y1_ (Tr.need x3_ (Tr.need True (Tr.br (!inR x6_ (0:Int) x5_) y1_ (Tr.br (cI y0_ 7 (Int.ofNat k) 0 == cI y0_ 7 (Int.ofNat k) 1) y1_ (Tr.need True (Tr.br (!inR x7_ (1:Int) (100:Int)) y1_ (Tr.need True (Tr.br (!Rng.days { lo := cI y0_ 7 (Int.ofNat k) 3,hi := cI y0_ 7 (Int.ofNat k) 4 }) y1_ (Tr.need True (Tr.br (!Rng.days { lo := cI y0_ 7 (Int.ofNat k) 5,hi := cI y0_ 7 (Int.ofNat k) 6 }) y1_ (Tr.need (-9223372036854775808 ≤ cI y0_ 7 (Int.ofNat k) 4 - cI y0_ 7 (Int.ofNat k) 3 ∧ cI y0_ 7 (Int.ofNat k) 4 - cI y0_ 7 (Int.ofNat k) 3 ≤ 9223372036854775807) (Tr.br (decide ((2:Int) < cI y0_ 7 (Int.ofNat k) 4 - cI y0_ 7 (Int.ofNat k) 3)) y1_ (Tr.need (-9223372036854775808 ≤ cI y0_ 7 (Int.ofNat k) 6 - cI y0_ 7 (Int.ofNat k) 5 ∧ cI y0_ 7 (Int.ofNat k) 6 - cI y0_ 7 (Int.ofNat k) 5 ≤ 9223372036854775807) (Tr.br (decide ((2:Int) < cI y0_ 7 (Int.ofNat k) 6 - cI y0_ 7 (Int.ofNat k) 5)) y1_ (Tr.need (-9223372036854775808 ≤ Int.ofNat k + (1:Int) ∧ Int.ofNat k + (1:Int) ≤ 9223372036854775807) (Tr.leaf CExit.normal [(1,V.rptr (Cds c) 0),(4,V.d (D.int .i64 (Int.ofNat k + (1:Int))))] [some (Blk.box [V.d (D.int .i64 x4_),V.d (D.int .i64 x6_),V.d (D.int .i64 x7_),V.d (D.int .i64 (cI y0_ 7 (Int.ofNat k) 3)),V.d (D.int .i64 (cI y0_ 7 (Int.ofNat k) 4)),V.d (D.int .i64 (cI y0_ 7 (Int.ofNat k) 5)),V.d (D.int .i64 (cI y0_ 7 (Int.ofNat k) 6))])])))))))))))))))))))) (Tr.leaf (CExit.exit 2) [(1,V.rptr (Cds c) 0),(4,V.d (D.int .i64 (Int.ofNat k))),(67,V.d (D.bool x2_))] []) := by kernel_rfl
theorem x69b (c:Cmp) (v w:V):sS X9 (doneK r69) [Fr.blk 2,Fr.seq (CCode.at c69 [1,1,1,1,1])] (.exit 2) [(1,.rptr (Cds c) 0),(4,v),(67,w)] [] [] =
  Tr.lp (CCode.at c69 [1,1,1,1,1,0,1,0,0]) [Fr.blk 4,Fr.seq (CCode.at c69 [1,1,1,1,1,1])] [(1,V.rptr (Cds c) 0),(6,V.d (D.int .i64 0))] [] := by kernel_rfl
theorem b69c (c:Cmp) (k:Nat):sx X9 (CCode.at c69 [1,1,1,1,1,0,1,0,0]) [] (bodyK r69) [(1,.rptr (Cds c) 0),(6,vi k)] [] [] =
  let y0_ := (enc eV (Cmp.divs c))
  let y1_ := (decide (Int.ofNat k < Int.ofNat (List.length (Cmp.divs c))))
  let y2_ := (Tr.done (V.d (D.int .i64 (1:Int))) [])
  Tr.br y1_ (Tr.need ((0:Int) ≤ Int.ofNat k ∧ Int.ofNat k < Int.ofNat (List.length (Cmp.divs c)) ∧ okEl [0,0,0] y0_ 3 (Int.ofNat k)) (Tr.need True (Tr.br (!Rng.days { lo := cI y0_ 3 (Int.ofNat k) 0,hi := cI y0_ 3 (Int.ofNat k) 1 }) y2_ (Tr.need True (Tr.br (!inR (cI y0_ 3 (Int.ofNat k) 2) (0:Int) (50:Int)) y2_ (Tr.need (-9223372036854775808 ≤ Int.ofNat k + (1:Int) ∧ Int.ofNat k + (1:Int) ≤ 9223372036854775807) (Tr.leaf CExit.normal [(1,V.rptr (Cds c) 0),(6,V.d (D.int .i64 (Int.ofNat k + (1:Int))))] [some (Blk.box [V.d (D.int .i64 (cI y0_ 3 (Int.ofNat k) 0)),V.d (D.int .i64 (cI y0_ 3 (Int.ofNat k) 1)),V.d (D.int .i64 (cI y0_ 3 (Int.ofNat k) 2))])]))))))) (Tr.leaf (CExit.exit 4) [(1,V.rptr (Cds c) 0),(6,V.d (D.int .i64 (Int.ofNat k))),(140,V.d (D.bool y1_))] []) := by kernel_rfl
theorem x69c (c:Cmp) (v w:V):sS X9 (doneK r69) [Fr.blk 4,Fr.seq (CCode.at c69 [1,1,1,1,1,1])] (.exit 4) [(1,.rptr (Cds c) 0),(6,v),(140,w)] [] [] =
  Tr.lp (CCode.at c69 [1,1,1,1,1,1,1,0,1,0,0]) [Fr.blk 6,Fr.seq (CCode.at c69 [1,1,1,1,1,1,1,1])] [(1,V.rptr (Cds c) 0),(8,V.d (D.int .i64 (-1:Int))),(9,V.d (D.int .i64 0))] [] := by kernel_rfl
theorem b69d (c:Cmp) (last:Int) (k:Nat):sx X9 (CCode.at c69 [1,1,1,1,1,1,1,0,1,0,0]) [] (bodyK r69) [(1,.rptr (Cds c) 0),(8,vi last),(9,vi k)] [] [] =
  let x1_ := (List.length (Cmp.splits c))
  let x2_ := (decide (Int.ofNat k < Int.ofNat x1_))
  let y1_ := (enc eS (Cmp.splits c))
  let x3_ := (cI y1_ 3 (Int.ofNat k) 0)
  let x4_ := (cI y1_ 3 (Int.ofNat k) 1)
  let x5_ := (cI y1_ 3 (Int.ofNat k) 2)
  let y0_ := (Tr.done (V.d (D.int .i64 (1:Int))) [])
  Tr.br x2_ (Tr.need ((0:Int) ≤ Int.ofNat k ∧ Int.ofNat k < Int.ofNat x1_ ∧ okEl [0,0,0] y1_ 3 (Int.ofNat k)) (Tr.need (-9223372036854775808 ≤ last + (1:Int) ∧ last + (1:Int) ≤ 9223372036854775807) (Tr.need True (Tr.br (!inR x3_ (last + (1:Int)) (11:Int)) y0_ (Tr.need True (Tr.br (!inR x4_ (1:Int) (6:Int)) y0_ (Tr.need True (Tr.br (!inR x5_ (1:Int) (4:Int)) y0_ (Tr.need (-9223372036854775808 ≤ Int.ofNat k + (1:Int) ∧ Int.ofNat k + (1:Int) ≤ 9223372036854775807) (Tr.leaf CExit.normal [(1,V.rptr (Cds c) 0),(8,V.d (D.int .i64 x3_)),(9,V.d (D.int .i64 (Int.ofNat k + (1:Int))))] [some (Blk.box [V.d (D.int .i64 x3_),V.d (D.int .i64 x4_),V.d (D.int .i64 x5_)])])))))))))) (Tr.leaf (CExit.exit 6) [(1,V.rptr (Cds c) 0),(8,V.d (D.int .i64 last)),(9,V.d (D.int .i64 (Int.ofNat k))),(165,V.d (D.bool x2_))] []) := by kernel_rfl
theorem x69d (c:Cmp) (u v w:V):sS X9 (doneK r69) [Fr.blk 6,Fr.seq (CCode.at c69 [1,1,1,1,1,1,1,1])] (.exit 6) [(1,.rptr (Cds c) 0),(8,u),(9,v),(165,w)] [] [] =
  Tr.lp (CCode.at c69 [1,1,1,1,1,1,1,1,0,1,0,0]) [Fr.blk 8,Fr.seq (CCode.at c69 [1,1,1,1,1,1,1,1,1])] [(1,V.rptr (Cds c) 0),(11,V.d (D.int .i64 0))] [] := by kernel_rfl
theorem b69e (c:Cmp) (k:Nat):sx X9 (CCode.at c69 [1,1,1,1,1,1,1,1,0,1,0,0]) [] (bodyK r69) [(1,.rptr (Cds c) 0),(11,vi k)] [] [] =
  let y1_ := (Cmp.closed c)
  let y0_ := (decide (Int.ofNat k < Int.ofNat (List.length y1_)))
  Tr.br y0_ (Tr.need ((0:Int) ≤ Int.ofNat k ∧ Int.ofNat k < Int.ofNat (List.length y1_) ∧ okEl [0,0] (enc eR y1_) 2 (Int.ofNat k)) (Tr.need True (Tr.br (!Rng.days { lo := cI (enc eR y1_) 2 (Int.ofNat k) 0,hi := cI (enc eR y1_) 2 (Int.ofNat k) 1 }) (Tr.done (V.d (D.int .i64 (1:Int))) []) (Tr.need (-9223372036854775808 ≤ Int.ofNat k + (1:Int) ∧ Int.ofNat k + (1:Int) ≤ 9223372036854775807) (Tr.leaf CExit.normal [(1,V.rptr (Cds c) 0),(11,V.d (D.int .i64 (Int.ofNat k + (1:Int))))] []))))) (Tr.leaf (CExit.exit 8) [(1,V.rptr (Cds c) 0),(11,V.d (D.int .i64 (Int.ofNat k))),(197,V.d (D.bool y0_))] []) := by kernel_rfl
theorem x69e (c:Cmp) (v w:V):sS X9 (doneK r69) [Fr.blk 8,Fr.seq (CCode.at c69 [1,1,1,1,1,1,1,1,1])] (.exit 8) [(1,.rptr (Cds c) 0),(11,v),(197,w)] [] [] =
  Tr.done (V.d (D.int .i64 0)) [] := by kernel_rfl
theorem l69e (c:Cmp) (n:Int) (hl:c.closed.length ≤ 7) (hf:c.closed.all (Rng.days) = false → n = 1)
  (hx:c.closed.all (Rng.days) = true → n = 0) :
  lpS Try.prog G69 0 (CCode.at c69 [1,1,1,1,1,1,1,1,0,1,0,0]) [Fr.blk 8,Fr.seq (CCode.at c69 [1,1,1,1,1,1,1,1,1])] (Q69 n) [(1,.rptr (Cds c) 0),(11,vi 0)] [] := by
 refine lp_countK X9_ok rfl (c.closed.length) (fun k => ∀ j:Nat,j < k → (Rng.days) (lat c.closed j) = true) (fun k => [(1,.rptr (Cds c) 0),(11,vi k)]) (fun _ => []) rfl rfl (fun j hj => by omega) (fun k _ => ⟨rfl,rfl,rfl⟩) ?_
 intro k hk hA Q' hn he
 rw [b69e]
 simp only [holds,Int.ofNat_eq_natCast,cI_R0,cI_R1,true_and]
 refine ⟨fun h1 => ?_,fun h1 => ?_⟩
 ·have hlt:k < c.closed.length := by have := of_decide_eq_true h1; omega
  have hf1:(Rng.days) (lat c.closed (k:Nat)) = false → VLe (V.d (.int .i64 1)) (vi n) := fun h => .of_eq (congrArg vi (hf (all_false hlt h)).symm)
  have hn1:(Rng.days) (lat c.closed (k:Nat)) = true → ∀ J,Q' .normal [(1,.rptr (Cds c) 0),(11,vi (k + 1:Nat))] ([] ++ J) := fun h J => hn J hlt (step_all hA h)
  repeat' (first | (refine And.intro ?_ ?_) | (refine fun (_:_ = _) => ?_))
  all_goals first
   | omega
   | exact ok_R (by simpa using hlt)
   | exact hf1 (by grind [Rng.days])
   | exact hn1 (by grind [Rng.days]) _
   | grind [Rng.days]
 ·have hge:k = c.closed.length := by have := of_decide_eq_false h1; omega
  refine he _ _ _ (ret_tree X9_ok (doneK_ok rfl) (x69e _ _ _) ?_)
  simp only [holds]
  exact .of_eq (congrArg vi (hx (all_true fun j hj => hA j (by omega))).symm)
theorem l69d (c:Cmp) (n:Int) (hl:c.splits.length ≤ 7) (hf:okSs (-1) c.splits = false → n = 1) (hx:okSs (-1) c.splits = true → lpS Try.prog G69 0 (CCode.at c69 [1,1,1,1,1,1,1,1,0,1,0,0]) [Fr.blk 8,Fr.seq (CCode.at c69 [1,1,1,1,1,1,1,1,1])] (Q69 n) [(1,.rptr (Cds c) 0),(11,vi 0)] []):lpS Try.prog G69 0 (CCode.at c69 [1,1,1,1,1,1,1,0,1,0,0]) [Fr.blk 6,Fr.seq (CCode.at c69 [1,1,1,1,1,1,1,1])] (Q69 n) [(1,.rptr (Cds c) 0),(8,vi (-1)),(9,vi 0)] [] := by
 refine lp_countK X9_ok rfl (c.splits.length) (fun k => ∀ j:Nat,j < k → okSp (lastAt c.splits j) (lat c.splits j) = true) (fun k => [(1,.rptr (Cds c) 0),(8,vi (lastAt c.splits k)),(9,vi k)]) (fun _ => []) (by rw [lastAt,if_pos rfl]; rfl) rfl (fun j hj => by omega) (fun k _ => ⟨rfl,rfl,rfl⟩) ?_
 intro k hk hA Q' hn he
 rw [b69d]
 simp only [holds,Int.ofNat_eq_natCast,cI_S0,cI_S1,cI_S2,true_and]
 have hb := lastAt_in c.splits k fun j hj => by rw [hA j hj]; rfl
 refine ⟨fun h1 => ?_,fun h1 => ?_⟩
 ·have hlt:k < c.splits.length := by have := of_decide_eq_true h1; omega
  have hf1:okSp (lastAt c.splits k) (lat c.splits (k:Nat)) = false → VLe (V.d (.int .i64 1)) (vi n) := fun h => .of_eq (congrArg vi (hf (by
   cases hs:okSs (-1) c.splits with
   | false => rfl
   | true =>
    have := (okSs_iff _ _).1 hs k hlt
    simp only [lastAt] at h
    rw [h] at this; cases this)).symm)
  have hn1:okSp (lastAt c.splits k) (lat c.splits (k:Nat)) = true → ∀ J,Q' .normal [(1,.rptr (Cds c) 0),(8,vi (lat c.splits (k:Nat)).day),(9,vi (k + 1:Nat))] ([] ++ J) := fun h J => by
   have := hn J hlt (step_all hA h)
   rw [lastAt_succ] at this
   exact this
  repeat' (first | (refine And.intro ?_ ?_) | (refine fun (_:_ = _) => ?_))
  all_goals first
   | omega
   | exact ok_S (by simpa using hlt)
   | exact hf1 (by grind [okSp,inR])
   | exact hn1 (by grind [okSp,inR]) _
   | grind [okSp,inR]
 ·have hge:k = c.splits.length := by have := of_decide_eq_false h1; omega
  refine he _ _ _ (ret_tree X9_ok (doneK_ok rfl) (x69d _ _ _ _) ?_)
  simp only [holds]
  exact hx ((okSs_iff _ _).2 fun j hj => by have := hA j (by omega); simpa only [lastAt] using this)
theorem l69c (c:Cmp) (n:Int) (hl:c.divs.length ≤ 7) (hf:c.divs.all (okDv) = false → n = 1)
  (hx:c.divs.all (okDv) = true → lpS Try.prog G69 0 (CCode.at c69 [1,1,1,1,1,1,1,0,1,0,0]) [Fr.blk 6,Fr.seq (CCode.at c69 [1,1,1,1,1,1,1,1])] (Q69 n) [(1,.rptr (Cds c) 0),(8,vi (-1)),(9,vi 0)] []) :
  lpS Try.prog G69 0 (CCode.at c69 [1,1,1,1,1,0,1,0,0]) [Fr.blk 4,Fr.seq (CCode.at c69 [1,1,1,1,1,1])] (Q69 n) [(1,.rptr (Cds c) 0),(6,vi 0)] [] := by
 refine lp_countK X9_ok rfl (c.divs.length) (fun k => ∀ j:Nat,j < k → (okDv) (lat c.divs j) = true) (fun k => [(1,.rptr (Cds c) 0),(6,vi k)]) (fun _ => []) rfl rfl (fun j hj => by omega) (fun k _ => ⟨rfl,rfl,rfl⟩) ?_
 intro k hk hA Q' hn he
 rw [b69c]
 simp only [holds,Int.ofNat_eq_natCast,cI_V0,cI_V1,cI_V2,true_and]
 refine ⟨fun h1 => ?_,fun h1 => ?_⟩
 ·have hlt:k < c.divs.length := by have := of_decide_eq_true h1; omega
  have hf1:(okDv) (lat c.divs (k:Nat)) = false → VLe (V.d (.int .i64 1)) (vi n) := fun h => .of_eq (congrArg vi (hf (all_false hlt h)).symm)
  have hn1:(okDv) (lat c.divs (k:Nat)) = true → ∀ J,Q' .normal [(1,.rptr (Cds c) 0),(6,vi (k + 1:Nat))] ([] ++ J) := fun h J => hn J hlt (step_all hA h)
  repeat' (first | (refine And.intro ?_ ?_) | (refine fun (_:_ = _) => ?_))
  all_goals first
   | omega
   | exact ok_V (by simpa using hlt)
   | exact hf1 (by grind [okDv,Rng.days,inR])
   | exact hn1 (by grind [okDv,Rng.days,inR]) _
   | grind [okDv,Rng.days,inR]
 ·have hge:k = c.divs.length := by have := of_decide_eq_false h1; omega
  refine he _ _ _ (ret_tree X9_ok (doneK_ok rfl) (x69c _ _ _) ?_)
  simp only [holds]
  exact hx (all_true fun j hj => hA j (by omega))
theorem l69b (c:Cmp) (n:Int) (hh:1 ≤ c.houses) (hh2:c.houses ≤ 4) (hl:c.trades.length ≤ 7) (hf:c.trades.all (okTr c.houses) = false → n = 1)
  (hx:c.trades.all (okTr c.houses) = true → lpS Try.prog G69 0 (CCode.at c69 [1,1,1,1,1,0,1,0,0]) [Fr.blk 4,Fr.seq (CCode.at c69 [1,1,1,1,1,1])] (Q69 n) [(1,.rptr (Cds c) 0),(6,vi 0)] []) :
  lpS Try.prog G69 0 (CCode.at c69 [1,1,1,1,0,1,0,0]) [Fr.blk 2,Fr.seq (CCode.at c69 [1,1,1,1,1])] (Q69 n) [(1,.rptr (Cds c) 0),(4,vi 0)] [] := by
 refine lp_countK X9_ok rfl (c.trades.length) (fun k => ∀ j:Nat,j < k → (okTr c.houses) (lat c.trades j) = true) (fun k => [(1,.rptr (Cds c) 0),(4,vi k)]) (fun _ => []) rfl rfl (fun j hj => by omega) (fun k _ => ⟨rfl,rfl,rfl⟩) ?_
 intro k hk hA Q' hn he
 rw [b69b]
 simp only [holds,Int.ofNat_eq_natCast,cI_T0,cI_T1,cI_T2,cI_T3,cI_T4,cI_T5,cI_T6,true_and]
 refine ⟨fun h1 => ?_,fun h1 => ?_⟩
 ·have hlt:k < c.trades.length := by have := of_decide_eq_true h1; omega
  have hf1:(okTr c.houses) (lat c.trades (k:Nat)) = false → VLe (V.d (.int .i64 1)) (vi n) := fun h => .of_eq (congrArg vi (hf (all_false hlt h)).symm)
  have hn1:(okTr c.houses) (lat c.trades (k:Nat)) = true → ∀ J,Q' .normal [(1,.rptr (Cds c) 0),(4,vi (k + 1:Nat))] ([] ++ J) := fun h J => hn J hlt (step_all hA h)
  repeat' (first | (refine And.intro ?_ ?_) | (refine fun (_:_ = _) => ?_))
  all_goals first
   | omega
   | exact ok_T (by simpa using hlt)
   | exact hf1 (by grind [okTr,Rng.days,Rng.short,inR])
   | exact hn1 (by grind [okTr,Rng.days,Rng.short,inR]) _
   | grind [okTr,Rng.days,Rng.short,inR]
 ·have hge:k = c.trades.length := by have := of_decide_eq_false h1; omega
  refine he _ _ _ (ret_tree X9_ok (doneK_ok rfl) (x69b _ _ _) ?_)
  simp only [holds]
  exact hx (all_true fun j hj => hA j (by omega))
theorem l69a (c:Cmp) (n:Int) (hh:(c.held.length:Int) = c.houses) (hl:c.held.length ≤ 7) (hf:c.held.all (Rng.has ⟨0,100⟩) = false → n = 1)
  (hx:c.held.all (Rng.has ⟨0,100⟩) = true → lpS Try.prog G69 0 (CCode.at c69 [1,1,1,1,0,1,0,0]) [Fr.blk 2,Fr.seq (CCode.at c69 [1,1,1,1,1])] (Q69 n) [(1,.rptr (Cds c) 0),(4,vi 0)] []) :
  lpS Try.prog G69 0 (CCode.at c69 [1,1,1,0,1,0,0]) [Fr.blk 0,Fr.seq (CCode.at c69 [1,1,1,1])] (Q69 n) [(1,.rptr (Cds c) 0),(3,vi 0)] [] := by
 refine lp_countK X9_ok rfl (c.held.length) (fun k => ∀ j:Nat,j < k → (Rng.has ⟨0,100⟩) (lat c.held j) = true) (fun k => [(1,.rptr (Cds c) 0),(3,vi k)]) (fun _ => []) rfl rfl (fun j hj => by omega) (fun k _ => ⟨rfl,rfl,rfl⟩) ?_
 intro k hk hA Q' hn he
 rw [b69a]
 simp only [holds,Int.ofNat_eq_natCast,cI_I,true_and]
 refine ⟨fun h1 => ?_,fun h1 => ?_⟩
 ·have hlt:k < c.held.length := by have := of_decide_eq_true h1; omega
  have hf1:(Rng.has ⟨0,100⟩) (lat c.held (k:Nat)) = false → VLe (V.d (.int .i64 1)) (vi n) := fun h => .of_eq (congrArg vi (hf (all_false hlt h)).symm)
  have hn1:(Rng.has ⟨0,100⟩) (lat c.held (k:Nat)) = true → ∀ J,Q' .normal [(1,.rptr (Cds c) 0),(3,vi (k + 1:Nat))] ([] ++ J) := fun h J => hn J hlt (step_all hA h)
  repeat' (first | (refine And.intro ?_ ?_) | (refine fun (_:_ = _) => ?_))
  all_goals first
   | omega
   | exact ok_I (by simpa using hlt)
   | exact hf1 (by grind [Rng.has,inR])
   | exact hn1 (by grind [Rng.has,inR]) _
   | grind [Rng.has,inR]
 ·have hge:k = c.held.length := by have := of_decide_eq_false h1; omega
  refine he _ _ _ (ret_tree X9_ok (doneK_ok rfl) (x69a _ _ _) ?_)
  simp only [holds]
  exact hx (all_true fun j hj => hA j (by omega))
theorem y69 (c:Cmp):Yields Try.prog 69 [Cv c] (vi (faultM c)) := by
 refine q69.yieldsK X9_ok rfl rfl rfl (w69 c) ?_
 simp only [holds,Int.ofNat_eq_natCast]
 by_cases hbig:4 < c.houses ∨ 4 < c.trades.length ∨ 3 < c.divs.length ∨ 2 < c.splits.length ∨ 2 < c.closed.length
 ·have h3:faultM c = 3 := by unfold faultM; rw [if_pos hbig]
  rw [h3]
  repeat' (first | (refine And.intro ?_ ?_) | (refine fun (_:_ = _) => ?_))
  all_goals first
   | exact .refl _
   | grind
 ·have hm:faultM c = if 1 ≤ c.houses ∧ (c.held.length:Int) = c.houses ∧ c.held.all (Rng.has ⟨0,100⟩) = true ∧ c.trades.all (okTr c.houses) = true ∧ c.divs.all okDv = true ∧ okSs (-1) c.splits = true ∧ c.closed.all Rng.days = true then 0 else 1 := by
   unfold faultM; rw [if_neg hbig]
  refine ⟨fun h => by grind,fun _ => ⟨fun h => by grind,fun _ => ⟨fun h => by grind,fun _ => ⟨fun h => by grind,fun _ => ⟨fun h => by grind,fun _ => ⟨fun h => ?_,fun h => ⟨fun h2 => ?_,fun h2 => ?_⟩⟩⟩⟩⟩⟩⟩
  ·exact .of_eq (congrArg vi (by grind))
  ·exact .of_eq (congrArg vi (by grind))
  ·refine l69a c _ (by grind) (by grind) (fun h => by grind) (fun g1 => ?_)
   refine l69b c _ (by grind) (by grind) (by grind) (fun h => by grind) (fun g2 => ?_)
   refine l69c c _ (by grind) (fun h => by grind) (fun g3 => ?_)
   refine l69d c _ (by grind) (fun h => by grind) (fun g4 => ?_)
   exact l69e c _ (by grind) (fun h => by grind) (fun g5 => by grind)
def ent69 := entC (fun _ => True) (fun c => vi (faultM c))
theorem ent69_ok:EntOk Try.prog 69 ent69 := entC_ok fun c _ => y69 c
def tab10:Spec := (spAdd 69 ent69 tab9)
theorem tab10_ok:SpOk Try.prog tab10 := (spAdd_ok ent69_ok tab9_ok)
def X10:Sx := mkX tab10
theorem X10_ok:SpOk Try.prog X10.sp := tab10_ok
theorem w34 (c:Cmp):sx X10 c34 [] (doneF 0 r34) (envOf [Cv c]) [] [] =
  Tr.need (Cv (dCe c) = Cv c ∧ True) (Tr.done (V.d (D.int .i64 (faultM (dCe c)))) []) := by kernel_rfl
theorem y34 (c:Cmp):Yields Try.prog 34 [Cv c] (vi (faultM c)) := by
 refine q34.yields X10_ok rfl rfl rfl (w34 c) ?_
 simp only [holds]
 simp only [dCe,dC_enc]
 exact ⟨⟨trivial,trivial⟩,.refl _⟩
end
end Go.Proofs.Ytdnefcjbcieecaa
namespace Go.Proofs.Ytdnefcjbcieecaa
open Go Go.Proofs
noncomputable section
theorem w56 (l:List Int):sx X10 c56 [] (doneF 0 r56) (envOf [vsl eI l]) [] [] =
  Tr.need (0 = 0 ∧ 3 = 3 ∧ 1 = 1 ∧ 0 = 0 * 1 ∧ List.length (enc eI l) = List.length l * 1 ∧ 0 + List.length l ≤ 140737488355328 ∧ (0 + List.length l) * 8 ≤ 140737488355328) (Tr.done (V.d (D.sl false (0 + List.length l) ([] ++ enc eI l))) []) := by kernel_rfl
theorem y56 (l:List Int) (hl:l.length ≤ 1000000):Yields Try.prog 56 [vsl eI l] (vsl eI l) := by
 refine q56.yields X10_ok rfl rfl rfl (w56 l) ?_
 simp only [holds,len_I,List.nil_append,Nat.zero_add]
 exact ⟨⟨trivial,trivial,trivial,by simp,trivial,by omega,by omega⟩,.refl _⟩
def ent56:Ent := fun args h => match args with
 | [.d (.sl false n cs)] => some (okL eI 1 gI n cs ∧ n ≤ 1000000,.d (.sl false n cs),none)
 | _ => none
theorem ent56_ok:EntOk Try.prog 56 ent56 := by
 intro args h p v h' he hp
 unfold ent56 at he
 split at he
 ·cases he; rw [okL_vsl hp.1]; exact y56 _ (by rw [dec_len]; exact hp.2) h
 ·cases he
def ent34 := entC (fun _ => True) (fun c => vi (faultM c))
theorem ent34_ok:EntOk Try.prog 34 ent34 := entC_ok fun c _ => y34 c
def tab11:Spec := (spAdd 34 ent34 (spAdd 56 ent56 tab10))
theorem tab11_ok:SpOk Try.prog tab11 := (spAdd_ok ent34_ok (spAdd_ok ent56_ok tab10_ok))
def X11:Sx := mkX tab11
theorem X11_ok:SpOk Try.prog X11.sp := tab11_ok
theorem w20 (c:Cmp):sx X11 c20 [] (doneK r20) (envOf [Cv c]) [] [] =
  let x1_ := (List.length (Cmp.held c))
  let x2_ := (okL eI 1 gI x1_ (enc eI (Cmp.held c)) ∧ List.length (Cmp.held c) ≤ 1000000)
  let x3_ := (D.int .i64 0)
  let x4_ := [some (Blk.box [V.d x3_,V.d D.nils,V.d D.nils,V.d D.nils,V.d D.nils,V.d D.nils]),some (Blk.box [V.d (D.int .i64 (Cmp.houses c)),V.d (D.sl false x1_ (enc eI (Cmp.held c))),V.d D.nils,V.d D.nils,V.d D.nils,V.d D.nils])]
  let y0_ := [(1,V.rptr (Cds c) 0),(2,V.ptr 0 0 0),(3,V.ptr 1 0 0)]
  Tr.need x2_ (Tr.need x2_ (Tr.need (y0_ = y0_ ∧ x4_ = x4_) (Tr.lp (CCode.at c20 [1,1,0,1,0,0]) [Fr.blk 0,Fr.seq (CCode.at c20 [1,1,1])] [(1,V.rptr (Cds c) 0),(2,V.ptr 0 0 0),(3,V.ptr 1 0 0),(4,V.d x3_)] x4_))) := by kernel_rfl
def H20 (c:Cmp) (T:List Trd) (U:List Dvd) (S:List Spl) (R:List Rng):Heap :=
 [some (.box [.d (.int .i64 0),.d .nils,.d .nils,.d .nils,.d .nils,.d .nils]),some (.box [vi c.houses,.d (dsl eI c.held),.own 2 T.length T.length,.own 3 U.length U.length,.own 4 S.length S.length,.own 5 R.length R.length]),
  some (.row 93 7 T.length (enc eT T)),some (.row 95 3 U.length (enc eV U)),some (.row 96 3 S.length (enc eS S)),some (.row 71 2 R.length (enc eR R))]
theorem take_lat {α:Type} [Inhabited α] {l:List α} {k:Nat} (hk:k < l.length):l.take (k + 1) = l.take k ++ [lat l (k:Nat)] := by
 rw [List.take_add_one,List.getElem?_eq_getElem hk]
 simp [lat,hk]
abbrev Q20 (c:Cmp):CExit → Env → Heap → Prop := retQ r20 fun v1 h1 => VLe (finX 0 v1 h1).1 (Cv c)
abbrev R20 (c:Cmp):V → Heap → Prop := fun v1 h1 => VLe (finX 0 v1 h1).1 (Cv c)
theorem b20a (c:Cmp) (k:Nat) (T:List Trd) (U:List Dvd) (S:List Spl) (R:List Rng):sx X11 (CCode.at c20 [1,1,0,1,0,0]) [] leafK [(1,.rptr (Cds c) 0),(2,.ptr 0 0 0),(3,.ptr 1 0 0),(4,vi k)] [] (H20 c T U S R) =
  let x1_ := (List.length (Cmp.trades c))
  let x2_ := (decide (Int.ofNat k < Int.ofNat x1_))
  let y0_ := (enc eT (Cmp.trades c))
  let x3_ := (cI y0_ 7 (Int.ofNat k) 0)
  let x4_ := (cI y0_ 7 (Int.ofNat k) 1)
  let x5_ := (cI y0_ 7 (Int.ofNat k) 2)
  let y1_ := ({ lo := cI y0_ 7 (Int.ofNat k) 3,hi := cI y0_ 7 (Int.ofNat k) 4 }:Rng)
  let y2_ := ({ lo := cI y0_ 7 (Int.ofNat k) 5,hi := cI y0_ 7 (Int.ofNat k) 6 }:Rng)
  let x6_ := [D.int .i64 x3_,D.int .i64 x4_,D.int .i64 x5_,D.int .i64 (Rng.lo y1_),D.int .i64 (Rng.hi y1_),D.int .i64 (Rng.lo y2_),D.int .i64 (Rng.hi y2_)]
  let x7_ := (List.length T + 1)
  let x8_ := (Blk.box [V.d (D.int .i64 0),V.d D.nils,V.d D.nils,V.d D.nils,V.d D.nils,V.d D.nils])
  let x9_ := (D.int .i64 (Cmp.houses c))
  let x10_ := (D.sl false (List.length (Cmp.held c)) (enc eI (Cmp.held c)))
  let y6_ := (List.length T)
  let x11_ := (Nat.add y6_ 1)
  let y3_ := (List.length U)
  let x12_ := (Blk.row 95 3 y3_ (enc eV U))
  let y4_ := (List.length S)
  let x13_ := (Blk.row 96 3 y4_ (enc eS S))
  let y5_ := (List.length R)
  let x14_ := (Blk.row 71 2 y5_ (enc eR R))
  Tr.br x2_ (Tr.need ((0:Int) ≤ Int.ofNat k ∧ Int.ofNat k < Int.ofNat x1_ ∧ okEl [0,0,0,0,0,0,0] y0_ 7 (Int.ofNat k)) (Tr.need True (Tr.need True (Tr.need (List.length T = List.length T ∧ 93 = 93 ∧ 7 = 7 ∧ List.length (enc eT T) = List.length T * 7 ∧ List.length x6_ = 1 * 7 ∧ List.length T + 1 ≤ 140737488355328 ∧ x7_ * 56 ≤ 140737488355328) (Tr.need (-9223372036854775808 ≤ Int.ofNat k + (1:Int) ∧ Int.ofNat k + (1:Int) ≤ 9223372036854775807) (Tr.leaf CExit.normal [(1,V.rptr (Cds c) 0),(2,V.ptr 0 0 0),(3,V.ptr 1 0 0),(4,V.d (D.int .i64 (Int.ofNat k + (1:Int))))] [some x8_,some (Blk.box [V.d x9_,V.d x10_,V.own 2 x11_ x7_,V.own 3 y3_ y3_,V.own 4 y4_ y4_,V.own 5 y5_ y5_]),some (Blk.row 93 7 x11_ (enc eT T ++ x6_)),some x12_,some x13_,some x14_,some (Blk.box [V.d (D.int .i64 x3_),V.d (D.int .i64 x4_),V.d (D.int .i64 x5_),V.d (D.int .i64 (cI y0_ 7 (Int.ofNat k) 3)),V.d (D.int .i64 (cI y0_ 7 (Int.ofNat k) 4)),V.d (D.int .i64 (cI y0_ 7 (Int.ofNat k) 5)),V.d (D.int .i64 (cI y0_ 7 (Int.ofNat k) 6))])])))))) (Tr.leaf (CExit.exit 0) [(1,V.rptr (Cds c) 0),(2,V.ptr 0 0 0),(3,V.ptr 1 0 0),(4,V.d (D.int .i64 (Int.ofNat k))),(21,V.d (D.bool x2_))] [some x8_,some (Blk.box [V.d x9_,V.d x10_,V.own 2 y6_ y6_,V.own 3 y3_ y3_,V.own 4 y4_ y4_,V.own 5 y5_ y5_]),some (Blk.row 93 7 y6_ (enc eT T)),some x12_,some x13_,some x14_]) := by kernel_rfl
theorem x20a (c:Cmp) (v w:V) (h:Heap):sS X11 (doneK r20) [Fr.blk 0,Fr.seq (CCode.at c20 [1,1,1])] (.exit 0) [(1,.rptr (Cds c) 0),(2,.ptr 0 0 0),(3,.ptr 1 0 0),(4,v),(21,w)] [] h =
  Tr.lp (CCode.at c20 [1,1,1,0,1,0,0]) [Fr.blk 2,Fr.seq (CCode.at c20 [1,1,1,1])] [(1,V.rptr (Cds c) 0),(2,V.ptr 0 0 0),(3,V.ptr 1 0 0),(6,V.d (D.int .i64 0))] h := by kernel_rfl
theorem b20b (c:Cmp) (k:Nat) (T:List Trd) (U:List Dvd) (S:List Spl) (R:List Rng):sx X11 (CCode.at c20 [1,1,1,0,1,0,0]) [] leafK [(1,.rptr (Cds c) 0),(2,.ptr 0 0 0),(3,.ptr 1 0 0),(6,vi k)] [] (H20 c T U S R) =
  let x1_ := (List.length (Cmp.divs c))
  let x2_ := (decide (Int.ofNat k < Int.ofNat x1_))
  let y0_ := (enc eV (Cmp.divs c))
  let x3_ := (cI y0_ 3 (Int.ofNat k) 0)
  let x4_ := (cI y0_ 3 (Int.ofNat k) 1)
  let x5_ := (cI y0_ 3 (Int.ofNat k) 2)
  let x6_ := [D.int .i64 x3_,D.int .i64 x4_,D.int .i64 x5_]
  let x7_ := (List.length U + 1)
  let x8_ := (Blk.box [V.d (D.int .i64 0),V.d D.nils,V.d D.nils,V.d D.nils,V.d D.nils,V.d D.nils])
  let x9_ := (D.int .i64 (Cmp.houses c))
  let x10_ := (D.sl false (List.length (Cmp.held c)) (enc eI (Cmp.held c)))
  let y4_ := (List.length U)
  let x11_ := (Nat.add y4_ 1)
  let y1_ := (List.length T)
  let x12_ := (Blk.row 93 7 y1_ (enc eT T))
  let y2_ := (List.length S)
  let x13_ := (Blk.row 96 3 y2_ (enc eS S))
  let y3_ := (List.length R)
  let x14_ := (Blk.row 71 2 y3_ (enc eR R))
  Tr.br x2_ (Tr.need ((0:Int) ≤ Int.ofNat k ∧ Int.ofNat k < Int.ofNat x1_ ∧ okEl [0,0,0] y0_ 3 (Int.ofNat k)) (Tr.need (List.length U = List.length U ∧ 95 = 95 ∧ 3 = 3 ∧ List.length (enc eV U) = List.length U * 3 ∧ List.length x6_ = 1 * 3 ∧ List.length U + 1 ≤ 140737488355328 ∧ x7_ * 24 ≤ 140737488355328) (Tr.need (-9223372036854775808 ≤ Int.ofNat k + (1:Int) ∧ Int.ofNat k + (1:Int) ≤ 9223372036854775807) (Tr.leaf CExit.normal [(1,V.rptr (Cds c) 0),(2,V.ptr 0 0 0),(3,V.ptr 1 0 0),(6,V.d (D.int .i64 (Int.ofNat k + (1:Int))))] [some x8_,some (Blk.box [V.d x9_,V.d x10_,V.own 2 y1_ y1_,V.own 3 x11_ x7_,V.own 4 y2_ y2_,V.own 5 y3_ y3_]),some x12_,some (Blk.row 95 3 x11_ (enc eV U ++ x6_)),some x13_,some x14_,some (Blk.box [V.d (D.int .i64 x3_),V.d (D.int .i64 x4_),V.d (D.int .i64 x5_)])])))) (Tr.leaf (CExit.exit 2) [(1,V.rptr (Cds c) 0),(2,V.ptr 0 0 0),(3,V.ptr 1 0 0),(6,V.d (D.int .i64 (Int.ofNat k))),(51,V.d (D.bool x2_))] [some x8_,some (Blk.box [V.d x9_,V.d x10_,V.own 2 y1_ y1_,V.own 3 y4_ y4_,V.own 4 y2_ y2_,V.own 5 y3_ y3_]),some x12_,some (Blk.row 95 3 y4_ (enc eV U)),some x13_,some x14_]) := by kernel_rfl
theorem x20b (c:Cmp) (v w:V) (h:Heap):sS X11 (doneK r20) [Fr.blk 2,Fr.seq (CCode.at c20 [1,1,1,1])] (.exit 2) [(1,.rptr (Cds c) 0),(2,.ptr 0 0 0),(3,.ptr 1 0 0),(6,v),(51,w)] [] h =
  Tr.lp (CCode.at c20 [1,1,1,1,0,1,0,0]) [Fr.blk 4,Fr.seq (CCode.at c20 [1,1,1,1,1])] [(1,V.rptr (Cds c) 0),(2,V.ptr 0 0 0),(3,V.ptr 1 0 0),(8,V.d (D.int .i64 0))] h := by kernel_rfl
theorem b20c (c:Cmp) (k:Nat) (T:List Trd) (U:List Dvd) (S:List Spl) (R:List Rng):sx X11 (CCode.at c20 [1,1,1,1,0,1,0,0]) [] leafK [(1,.rptr (Cds c) 0),(2,.ptr 0 0 0),(3,.ptr 1 0 0),(8,vi k)] [] (H20 c T U S R) =
  let x1_ := (List.length (Cmp.splits c))
  let x2_ := (decide (Int.ofNat k < Int.ofNat x1_))
  let y0_ := (enc eS (Cmp.splits c))
  let x3_ := (cI y0_ 3 (Int.ofNat k) 0)
  let x4_ := (cI y0_ 3 (Int.ofNat k) 1)
  let x5_ := (cI y0_ 3 (Int.ofNat k) 2)
  let x6_ := [D.int .i64 x3_,D.int .i64 x4_,D.int .i64 x5_]
  let x7_ := (List.length S + 1)
  let x8_ := (Blk.box [V.d (D.int .i64 0),V.d D.nils,V.d D.nils,V.d D.nils,V.d D.nils,V.d D.nils])
  let x9_ := (D.int .i64 (Cmp.houses c))
  let x10_ := (D.sl false (List.length (Cmp.held c)) (enc eI (Cmp.held c)))
  let y4_ := (List.length S)
  let x11_ := (Nat.add y4_ 1)
  let y1_ := (List.length T)
  let x12_ := (Blk.row 93 7 y1_ (enc eT T))
  let y2_ := (List.length U)
  let x13_ := (Blk.row 95 3 y2_ (enc eV U))
  let y3_ := (List.length R)
  let x14_ := (Blk.row 71 2 y3_ (enc eR R))
  Tr.br x2_ (Tr.need ((0:Int) ≤ Int.ofNat k ∧ Int.ofNat k < Int.ofNat x1_ ∧ okEl [0,0,0] y0_ 3 (Int.ofNat k)) (Tr.need (List.length S = List.length S ∧ 96 = 96 ∧ 3 = 3 ∧ List.length (enc eS S) = List.length S * 3 ∧ List.length x6_ = 1 * 3 ∧ List.length S + 1 ≤ 140737488355328 ∧ x7_ * 24 ≤ 140737488355328) (Tr.need (-9223372036854775808 ≤ Int.ofNat k + (1:Int) ∧ Int.ofNat k + (1:Int) ≤ 9223372036854775807) (Tr.leaf CExit.normal [(1,V.rptr (Cds c) 0),(2,V.ptr 0 0 0),(3,V.ptr 1 0 0),(8,V.d (D.int .i64 (Int.ofNat k + (1:Int))))] [some x8_,some (Blk.box [V.d x9_,V.d x10_,V.own 2 y1_ y1_,V.own 3 y2_ y2_,V.own 4 x11_ x7_,V.own 5 y3_ y3_]),some x12_,some x13_,some (Blk.row 96 3 x11_ (enc eS S ++ x6_)),some x14_,some (Blk.box [V.d (D.int .i64 x3_),V.d (D.int .i64 x4_),V.d (D.int .i64 x5_)])])))) (Tr.leaf (CExit.exit 4) [(1,V.rptr (Cds c) 0),(2,V.ptr 0 0 0),(3,V.ptr 1 0 0),(8,V.d (D.int .i64 (Int.ofNat k))),(75,V.d (D.bool x2_))] [some x8_,some (Blk.box [V.d x9_,V.d x10_,V.own 2 y1_ y1_,V.own 3 y2_ y2_,V.own 4 y4_ y4_,V.own 5 y3_ y3_]),some x12_,some x13_,some (Blk.row 96 3 y4_ (enc eS S)),some x14_]) := by kernel_rfl
theorem x20c (c:Cmp) (v w:V) (h:Heap):sS X11 (doneK r20) [Fr.blk 4,Fr.seq (CCode.at c20 [1,1,1,1,1])] (.exit 4) [(1,.rptr (Cds c) 0),(2,.ptr 0 0 0),(3,.ptr 1 0 0),(8,v),(75,w)] [] h =
  Tr.lp (CCode.at c20 [1,1,1,1,1,0,1,0,0]) [Fr.blk 6,Fr.seq (CCode.at c20 [1,1,1,1,1,1])] [(1,V.rptr (Cds c) 0),(2,V.ptr 0 0 0),(3,V.ptr 1 0 0),(10,V.d (D.int .i64 0))] h := by kernel_rfl
theorem b20d (c:Cmp) (k:Nat) (T:List Trd) (U:List Dvd) (S:List Spl) (R:List Rng):sx X11 (CCode.at c20 [1,1,1,1,1,0,1,0,0]) [] leafK [(1,.rptr (Cds c) 0),(2,.ptr 0 0 0),(3,.ptr 1 0 0),(10,vi k)] [] (H20 c T U S R) =
  let x1_ := (List.length (Cmp.closed c))
  let x2_ := (decide (Int.ofNat k < Int.ofNat x1_))
  let y4_ := (enc eR (Cmp.closed c))
  let y0_ := ({ lo := cI y4_ 2 (Int.ofNat k) 0,hi := cI y4_ 2 (Int.ofNat k) 1 }:Rng)
  let x3_ := [D.int .i64 (Rng.lo y0_),D.int .i64 (Rng.hi y0_)]
  let x4_ := (List.length R + 1)
  let x5_ := (Blk.box [V.d (D.int .i64 0),V.d D.nils,V.d D.nils,V.d D.nils,V.d D.nils,V.d D.nils])
  let x6_ := (D.int .i64 (Cmp.houses c))
  let x7_ := (D.sl false (List.length (Cmp.held c)) (enc eI (Cmp.held c)))
  let y5_ := (List.length R)
  let x8_ := (Nat.add y5_ 1)
  let y1_ := (List.length T)
  let x9_ := (Blk.row 93 7 y1_ (enc eT T))
  let y2_ := (List.length U)
  let x10_ := (Blk.row 95 3 y2_ (enc eV U))
  let y3_ := (List.length S)
  let x11_ := (Blk.row 96 3 y3_ (enc eS S))
  Tr.br x2_ (Tr.need ((0:Int) ≤ Int.ofNat k ∧ Int.ofNat k < Int.ofNat x1_ ∧ okEl [0,0] y4_ 2 (Int.ofNat k)) (Tr.need True (Tr.need (List.length R = List.length R ∧ 71 = 71 ∧ 2 = 2 ∧ List.length (enc eR R) = List.length R * 2 ∧ List.length x3_ = 1 * 2 ∧ List.length R + 1 ≤ 140737488355328 ∧ x4_ * 16 ≤ 140737488355328) (Tr.need (-9223372036854775808 ≤ Int.ofNat k + (1:Int) ∧ Int.ofNat k + (1:Int) ≤ 9223372036854775807) (Tr.leaf CExit.normal [(1,V.rptr (Cds c) 0),(2,V.ptr 0 0 0),(3,V.ptr 1 0 0),(10,V.d (D.int .i64 (Int.ofNat k + (1:Int))))] [some x5_,some (Blk.box [V.d x6_,V.d x7_,V.own 2 y1_ y1_,V.own 3 y2_ y2_,V.own 4 y3_ y3_,V.own 5 x8_ x4_]),some x9_,some x10_,some x11_,some (Blk.row 71 2 x8_ (enc eR R ++ x3_))]))))) (Tr.leaf (CExit.exit 6) [(1,V.rptr (Cds c) 0),(2,V.ptr 0 0 0),(3,V.ptr 1 0 0),(10,V.d (D.int .i64 (Int.ofNat k))),(99,V.d (D.bool x2_))] [some x5_,some (Blk.box [V.d x6_,V.d x7_,V.own 2 y1_ y1_,V.own 3 y2_ y2_,V.own 4 y3_ y3_,V.own 5 y5_ y5_]),some x9_,some x10_,some x11_,some (Blk.row 71 2 y5_ (enc eR R))]) := by kernel_rfl
theorem x20d (c:Cmp) (v w:V) (T:List Trd) (U:List Dvd) (S:List Spl) (R:List Rng):sS X11 (doneK r20) [Fr.blk 6,Fr.seq (CCode.at c20 [1,1,1,1,1,1])] (.exit 6) [(1,.rptr (Cds c) 0),(2,.ptr 0 0 0),(3,.ptr 1 0 0),(10,v),(99,w)] [] (H20 c T U S R) =
  let y0_ := [V.d (D.int .i64 (Cmp.houses c)),V.d (D.sl false (List.length (Cmp.held c)) (enc eI (Cmp.held c))),V.own 2 (List.length T) (List.length T),V.own 3 (List.length U) (List.length U),V.own 4 (List.length S) (List.length S),V.own 5 (List.length R) (List.length R)]
  Tr.done (V.agg y0_) [some (Blk.box y0_),some (Blk.box y0_),some (Blk.row 93 7 (List.length T) (enc eT T)),some (Blk.row 95 3 (List.length U) (enc eV U)),some (Blk.row 96 3 (List.length S) (enc eS S)),some (Blk.row 71 2 (List.length R) (enc eR R))] := by kernel_rfl
theorem l20d (c:Cmp) (hl:c.closed.length ≤ 1000000):lpS Try.prog G20 0 (CCode.at c20 [1,1,1,1,1,0,1,0,0]) [Fr.blk 6,Fr.seq (CCode.at c20 [1,1,1,1,1,1])] (Q20 c) [(1,.rptr (Cds c) 0),(2,.ptr 0 0 0),(3,.ptr 1 0 0),(10,vi 0)] (H20 c c.trades c.divs c.splits []) := by
 refine lp_count X11_ok c.closed.length (fun _ => True) (fun k => [(1,.rptr (Cds c) 0),(2,.ptr 0 0 0),(3,.ptr 1 0 0),(10,vi k)]) (fun k => H20 c c.trades c.divs c.splits (c.closed.take k)) rfl rfl trivial (fun k _ => ⟨rfl,rfl,rfl⟩) ?_
 intro k hk _ Q' hn he hr
 rw [b20d]
 simp only [holds,Int.ofNat_eq_natCast,cI_R0,cI_R1,len_T,len_V,len_S,len_R,true_and,List.length_take,List.length_cons,List.length_nil]
 refine ⟨fun h1 => ?_,fun h1 => ?_⟩
 ·have hlt:k < c.closed.length := by have := of_decide_eq_true h1; omega
  have hm:min k c.closed.length = k := by omega
  repeat' (first | (refine And.intro ?_ ?_) | (refine fun (_:_ = _) => ?_))
  all_goals first
   | omega
   | rfl
   | exact ok_R (by simpa using hlt)
   |(have hj := fun J => hn J hlt trivial
     simp only [take_lat hlt,H20,enc_append,enc_one,List.length_append,List.length_cons,List.length_nil,List.length_take] at hj
     exact hj _)
 ·have hge:k = c.closed.length := by have := of_decide_eq_false h1; omega
  subst hge
  simp only [Nat.min_self,List.take_length]
  refine he _ _ _ (ret_tree (R := R20 c) X11_ok (doneK_ok rfl) (x20d c _ _ c.trades c.divs c.splits c.closed) ?_)
  simp only [holds]
  simp [R20,finX,rowsIn,rowsIn1,rowIn,frzRows,frzB,blkDs,fzV,fz2,fz1,bel2,bel1,bel0]; exact .refl _
theorem l20c (c:Cmp) (hl:c.splits.length ≤ 1000000) (hx:lpS Try.prog G20 0 (CCode.at c20 [1,1,1,1,1,0,1,0,0]) [Fr.blk 6,Fr.seq (CCode.at c20 [1,1,1,1,1,1])] (Q20 c) [(1,.rptr (Cds c) 0),(2,.ptr 0 0 0),(3,.ptr 1 0 0),(10,vi 0)] (H20 c c.trades c.divs c.splits [])):lpS Try.prog G20 0 (CCode.at c20 [1,1,1,1,0,1,0,0]) [Fr.blk 4,Fr.seq (CCode.at c20 [1,1,1,1,1])] (Q20 c) [(1,.rptr (Cds c) 0),(2,.ptr 0 0 0),(3,.ptr 1 0 0),(8,vi 0)] (H20 c c.trades c.divs [] []) := by
 refine lp_count X11_ok c.splits.length (fun _ => True) (fun k => [(1,.rptr (Cds c) 0),(2,.ptr 0 0 0),(3,.ptr 1 0 0),(8,vi k)]) (fun k => H20 c c.trades c.divs (c.splits.take k) []) rfl rfl trivial (fun k _ => ⟨rfl,rfl,rfl⟩) ?_
 intro k hk _ Q' hn he hr
 rw [b20c]
 simp only [holds,Int.ofNat_eq_natCast,cI_S0,cI_S1,cI_S2,len_T,len_V,len_S,len_R,true_and,List.length_take,List.length_cons,List.length_nil]
 refine ⟨fun h1 => ?_,fun h1 => ?_⟩
 ·have hlt:k < c.splits.length := by have := of_decide_eq_true h1; omega
  have hm:min k c.splits.length = k := by omega
  repeat' (first | (refine And.intro ?_ ?_) | (refine fun (_:_ = _) => ?_))
  all_goals first
   | omega
   | rfl
   | exact ok_S (by simpa using hlt)
   |(have hj := fun J => hn J hlt trivial
     simp only [take_lat hlt,H20,enc_append,enc_one,List.length_append,List.length_cons,List.length_nil,List.length_take] at hj
     exact hj _)
 ·have hge:k = c.splits.length := by have := of_decide_eq_false h1; omega
  subst hge
  simp only [Nat.min_self,List.take_length]
  refine he _ _ _ (ret_tree (R := R20 c) X11_ok (doneK_ok rfl) (x20c _ _ _ _) ?_)
  simp only [holds]
  exact hx
theorem l20b (c:Cmp) (hl:c.divs.length ≤ 1000000) (hx:lpS Try.prog G20 0 (CCode.at c20 [1,1,1,1,0,1,0,0]) [Fr.blk 4,Fr.seq (CCode.at c20 [1,1,1,1,1])] (Q20 c) [(1,.rptr (Cds c) 0),(2,.ptr 0 0 0),(3,.ptr 1 0 0),(8,vi 0)] (H20 c c.trades c.divs [] [])):lpS Try.prog G20 0 (CCode.at c20 [1,1,1,0,1,0,0]) [Fr.blk 2,Fr.seq (CCode.at c20 [1,1,1,1])] (Q20 c) [(1,.rptr (Cds c) 0),(2,.ptr 0 0 0),(3,.ptr 1 0 0),(6,vi 0)] (H20 c c.trades [] [] []) := by
 refine lp_count X11_ok c.divs.length (fun _ => True) (fun k => [(1,.rptr (Cds c) 0),(2,.ptr 0 0 0),(3,.ptr 1 0 0),(6,vi k)]) (fun k => H20 c c.trades (c.divs.take k) [] []) rfl rfl trivial (fun k _ => ⟨rfl,rfl,rfl⟩) ?_
 intro k hk _ Q' hn he hr
 rw [b20b]
 simp only [holds,Int.ofNat_eq_natCast,cI_V0,cI_V1,cI_V2,len_T,len_V,len_S,len_R,true_and,List.length_take,List.length_cons,List.length_nil]
 refine ⟨fun h1 => ?_,fun h1 => ?_⟩
 ·have hlt:k < c.divs.length := by have := of_decide_eq_true h1; omega
  have hm:min k c.divs.length = k := by omega
  repeat' (first | (refine And.intro ?_ ?_) | (refine fun (_:_ = _) => ?_))
  all_goals first
   | omega
   | rfl
   | exact ok_V (by simpa using hlt)
   |(have hj := fun J => hn J hlt trivial
     simp only [take_lat hlt,H20,enc_append,enc_one,List.length_append,List.length_cons,List.length_nil,List.length_take] at hj
     exact hj _)
 ·have hge:k = c.divs.length := by have := of_decide_eq_false h1; omega
  subst hge
  simp only [Nat.min_self,List.take_length]
  refine he _ _ _ (ret_tree (R := R20 c) X11_ok (doneK_ok rfl) (x20b _ _ _ _) ?_)
  simp only [holds]
  exact hx
theorem l20a (c:Cmp) (hl:c.trades.length ≤ 1000000) (hx:lpS Try.prog G20 0 (CCode.at c20 [1,1,1,0,1,0,0]) [Fr.blk 2,Fr.seq (CCode.at c20 [1,1,1,1])] (Q20 c) [(1,.rptr (Cds c) 0),(2,.ptr 0 0 0),(3,.ptr 1 0 0),(6,vi 0)] (H20 c c.trades [] [] [])):lpS Try.prog G20 0 (CCode.at c20 [1,1,0,1,0,0]) [Fr.blk 0,Fr.seq (CCode.at c20 [1,1,1])] (Q20 c) [(1,.rptr (Cds c) 0),(2,.ptr 0 0 0),(3,.ptr 1 0 0),(4,vi 0)] (H20 c [] [] [] []) := by
 refine lp_count X11_ok c.trades.length (fun _ => True) (fun k => [(1,.rptr (Cds c) 0),(2,.ptr 0 0 0),(3,.ptr 1 0 0),(4,vi k)]) (fun k => H20 c (c.trades.take k) [] [] []) rfl rfl trivial (fun k _ => ⟨rfl,rfl,rfl⟩) ?_
 intro k hk _ Q' hn he hr
 rw [b20a]
 simp only [holds,Int.ofNat_eq_natCast,cI_T0,cI_T1,cI_T2,cI_T3,cI_T4,cI_T5,cI_T6,len_T,len_V,len_S,len_R,true_and,List.length_take,List.length_cons,List.length_nil]
 refine ⟨fun h1 => ?_,fun h1 => ?_⟩
 ·have hlt:k < c.trades.length := by have := of_decide_eq_true h1; omega
  have hm:min k c.trades.length = k := by omega
  repeat' (first | (refine And.intro ?_ ?_) | (refine fun (_:_ = _) => ?_))
  all_goals first
   | omega
   | rfl
   | exact ok_T (by simpa using hlt)
   |(have hj := fun J => hn J hlt trivial
     simp only [take_lat hlt,H20,enc_append,enc_one,List.length_append,List.length_cons,List.length_nil,List.length_take] at hj
     exact hj _)
 ·have hge:k = c.trades.length := by have := of_decide_eq_false h1; omega
  subst hge
  simp only [Nat.min_self,List.take_length]
  refine he _ _ _ (ret_tree (R := R20 c) X11_ok (doneK_ok rfl) (x20a _ _ _ _) ?_)
  simp only [holds]
  exact hx
theorem y20 (c:Cmp) (h1:c.held.length ≤ 1000000) (h2:c.trades.length ≤ 1000000) (h3:c.divs.length ≤ 1000000) (h4:c.splits.length ≤ 1000000) (h5:c.closed.length ≤ 1000000):Yields Try.prog 20 [Cv c] (Cv c) := by
 refine q20.yieldsX X11_ok rfl rfl rfl (w20 c) ?_
 have key:lpS Try.prog G20 0 (CCode.at c20 [1,1,0,1,0,0]) [Fr.blk 0,Fr.seq (CCode.at c20 [1,1,1])] (Q20 c) [(1,.rptr (Cds c) 0),(2,.ptr 0 0 0),(3,.ptr 1 0 0),(4,vi 0)]
   [some (.box [.d (.int .i64 0),.d .nils,.d .nils,.d .nils,.d .nils,.d .nils]),some (.box [vi c.houses,.d (dsl eI c.held),.d .nils,.d .nils,.d .nils,.d .nils])] := by
  refine LoopP.state (StLe.ghostBox (id := 1) (off := 2) 93 7 rfl rfl) ?_
  refine LoopP.state (StLe.ghostBox (id := 1) (off := 3) 95 3 rfl rfl) ?_
  refine LoopP.state (StLe.ghostBox (id := 1) (off := 4) 96 3 rfl rfl) ?_
  refine LoopP.state (StLe.ghostBox (id := 1) (off := 5) 71 2 rfl rfl) ?_
  exact l20a c h2 (l20b c h3 (l20c c h4 (l20d c h5)))
 simp only [holds,okL_I]
 exact ⟨⟨by omega,h1⟩,⟨by omega,h1⟩,by simp,key⟩
end
end Go.Proofs.Ytdnefcjbcieecaa
namespace Go.Proofs.Ytdnefcjbcieecaa
open Go Go.Proofs
noncomputable section
theorem q72:FunIs Try.prog 72 G72 c72 r72 := ⟨Try.f72,Try.func72,k72,e72,by kernel_rfl,by kernel_rfl⟩
theorem q94:FunIs Try.prog 94 G94 c94 r94 := ⟨Try.f94,Try.func94,k94,e94,by kernel_rfl,by kernel_rfl⟩
def entE (e:Int × Int × Int):V × V := (.agg [vi e.1,vi e.2.1],vi e.2.2)
def Wbox (c:Cmp):List V := [vi c.houses,.d (.sl false c.held.length (enc eI c.held)),.d (.sl false c.trades.length (enc eT c.trades)),.d (.sl false c.divs.length (enc eV c.divs)),.d (.sl false c.splits.length (enc eS c.splits)),.d (.sl false c.closed.length (enc eR c.closed)),.mp 0]
def Wk (c:Cmp) (km:List (Int × Int × Int)) (rest:Heap):Heap := some (.map (km.map entE)) :: some (.box (Wbox c)) :: rest
def facS (a b:Int) (n:Int) (x:Spl):Int := if a < x.day ∧ x.day ≤ b then (n * x.num).tdiv x.den else n
def facM (l:List Spl) (a b:Int):Int := l.foldl (facS a b) 720
def lkK (km:List (Int × Int × Int)) (a b:Int):Option Int := (km.find? fun e => e.1 == a && e.2.1 == b).map (·.2.2)
def kmOk (c:Cmp) (km:List (Int × Int × Int)):Prop := ∀ e ∈ km,e.2.2 = facM c.splits e.1 e.2.1
def updK (c:Cmp) (km:List (Int × Int × Int)) (a b:Int):List (Int × Int × Int) := match lkK km a b with
 | some _ => km
 | none => km ++ [(a,b,facM c.splits a b)]
theorem lkK_ok {c:Cmp} {km:List (Int × Int × Int)} (h:kmOk c km) {a b n:Int} (hl:lkK km a b = some n):n = facM c.splits a b := by
 unfold lkK at hl
 cases hf:km.find? (fun e => e.1 == a && e.2.1 == b) with
 | none => rw [hf] at hl; cases hl
 | some e =>
  rw [hf] at hl
  cases hl
  have h1 := List.find?_some hf
  simp only [Bool.and_eq_true,beq_iff_eq] at h1
  show e.2.2 = _
  rw [h e (List.mem_of_find?_eq_some hf),h1.1,h1.2]
theorem updK_ok {c:Cmp} {km:List (Int × Int × Int)} (h:kmOk c km) (a b:Int):kmOk c (updK c km a b) := by
 unfold updK
 split
 ·exact h
 ·intro e he
  rcases List.mem_append.1 he with h1 | h1
  ·exact h e h1
  ·rcases List.mem_singleton.1 h1 with rfl
   rfl
theorem kmOk_nil (c:Cmp):kmOk c [] := fun e h => by simp at h
theorem findE_km (a b:Int):∀ (km:List (Int × Int × Int)) (i:Nat),findE true [.int .i64,.int .i64] [.int .i64 a,.int .i64 b] (km.map entE) i = some ((km.findIdx? fun e => e.1 == a && e.2.1 == b).map (· + i))
 | [],i => rfl
 | e :: km,i => by
  have ih := findE_km a b km (i + 1)
  simp only [List.map_cons,findE,entE,keyD,vi,toDs,Option.map_some,matchSs,matchS,beq_self_eq_true,Bool.and_true,Bool.true_and,if_true,eqDs,eqD,List.findIdx?_cons]
  have hc:(a == e.1 && b == e.2.1) = (e.1 == a && e.2.1 == b) := by
   rw [Bool.eq_iff_iff]
   simp only [Bool.and_eq_true,beq_iff_eq]
   constructor <;> rintro ⟨rfl,rfl⟩ <;> exact ⟨rfl,rfl⟩
  rw [hc]
  cases (e.1 == a && e.2.1 == b) with
  | true => simp
  | false =>
   simp only [Bool.false_eq_true,if_false]
   rw [ih]
   cases km.findIdx? (fun e => e.1 == a && e.2.1 == b) with
   | none => rfl
   | some j => simp; omega
theorem evLk_km (km:List (Int × Int × Int)) (a b:Int) (rest:Heap):evLk true [.int .i64,.int .i64] (.d (.int .i64 0)) true (.mp 0) (.agg [.d (.int .i64 a),.d (.int .i64 b)]) (some (.map (km.map entE)) :: rest) = some (.tup [.d (.int .i64 ((lkK km a b).getD 0)),.d (.bool (lkK km a b).isSome)]) := by
 have hf := findE_km a b km 0
 simp only [evLk,List.getElem?_cons_zero,keyD,toDs,Option.map_some,matchSs,matchS,beq_self_eq_true,Bool.and_true,if_true,hf]
 unfold lkK
 cases hi:km.findIdx? (fun e => e.1 == a && e.2.1 == b) with
 | none =>
  have:km.find? (fun e => e.1 == a && e.2.1 == b) = none := by
   rw [List.findIdx?_eq_none_iff] at hi
   rw [List.find?_eq_none]
   intro x hx
   rw [hi x hx]; simp
  simp [this,okV]
 | some j =>
  obtain ⟨hlt,hp,hmin⟩ := List.findIdx?_eq_some_iff_getElem.1 hi
  have:km.find? (fun e => e.1 == a && e.2.1 == b) = some km[j] := by
   rw [List.find?_eq_some_iff_getElem]
   exact ⟨hp,j,hlt,rfl,fun q hq => by have h := hmin q hq; cases hb:(km[q].1 == a && km[q].2.1 == b) <;> simp_all⟩
  simp [this,okV,hlt,entE,vi]
theorem evUp_km (km:List (Int × Int × Int)) (a b n:Int) (rest:Heap) (hn:lkK km a b = none):evUp true [.int .i64,.int .i64] (.mp 0) (.agg [.d (.int .i64 a),.d (.int .i64 b)]) (.d (.int .i64 n)) (some (.map (km.map entE)) :: rest) = some (some (.map ((km ++ [(a,b,n)]).map entE)) :: rest) := by
 have hf := findE_km a b km 0
 have hi:km.findIdx? (fun e => e.1 == a && e.2.1 == b) = none := by
  unfold lkK at hn
  cases h:km.find? (fun e => e.1 == a && e.2.1 == b) with
  | some e => rw [h] at hn; cases hn
  | none =>
   rw [List.findIdx?_eq_none_iff]
   intro x hx
   have := List.find?_eq_none.1 h x hx
   simpa using this
 simp only [evUp,List.getElem?_cons_zero,keyD,toDs,Option.map_some,matchSs,matchS,beq_self_eq_true,Bool.and_true,if_true,hf,hi,Option.map_none,List.set_cons_zero,List.map_append,List.map_cons,List.map_nil,entE,vi]
theorem w72 (c:Cmp):sx X9 c72 [] (doneK r72) (envOf [Cv c]) [] [] =
  Tr.need (DP.P (dp True)) (Tr.done (V.ptr 1 0 0) [some (Blk.map []),some (Blk.box [V.d (D.int .i64 (Cmp.houses c)),V.d (D.sl false (List.length (Cmp.held c)) (enc eI (Cmp.held c))),V.d (D.sl false (List.length (Cmp.trades c)) (enc eT (Cmp.trades c))),V.d (D.sl false (List.length (Cmp.divs c)) (enc eV (Cmp.divs c))),V.d (D.sl false (List.length (Cmp.splits c)) (enc eS (Cmp.splits c))),V.d (D.sl false (List.length (Cmp.closed c)) (enc eR (Cmp.closed c))),V.mp 0])]) := by kernel_rfl
theorem a72 (c:Cmp):ACalls Try.prog 72 [Cv c] [] fun v h' => v = .ptr 1 0 0 ∧ h' = Wk c [] [] :=
 q72.calls X9_ok (h := []) rfl (w72 c) (by simp only [holds]; exact ⟨trivial,trivial,rfl⟩)
def X94:Sx := { sp := spNil,md := fun k => bif Nat.beq k 17 then 3 else 0,sh := shI }
theorem X94_ok:SpOk Try.prog X94.sp := spNil_ok _
def E94 (c:Cmp) (s a b n:Int) (k:Nat):Env := [(0,.ptr 1 0 0),(1,vi s),(5,.rptr [.int .i64 a,.int .i64 b] 0),(7,vi n),(26,.d (.sl false c.splits.length (enc eS c.splits))),(27,vi c.splits.length),(28,vi k)]
theorem w94 (c:Cmp) (km:List (Int × Int × Int)) (s a b:Int):sx X94 c94 [] (doneK r94) (envOf [.ptr 1 0 0,vi s,.agg [vi a,vi b]]) [] (Wk c km []) =
  let x1_ := (D.int .i64 0)
  let x2_ := (V.agg [V.d (D.int .i64 a),V.d (D.int .i64 b)])
  let y0_ := [SK.int IntKind.i64,SK.int IntKind.i64]
  let x3_ := (evLk true y0_ (V.d x1_) true (V.mp 0) x2_ (Wk c km []))
  let x4_ := (List.length (Cmp.splits c))
  let x5_ := (D.sl false x4_ (enc eS (Cmp.splits c)))
  let x6_ := [some (Blk.map (List.map entE km)),some (Blk.box [V.d (D.int .i64 (Cmp.houses c)),V.d (D.sl false (List.length (Cmp.held c)) (enc eI (Cmp.held c))),V.d (D.sl false (List.length (Cmp.trades c)) (enc eT (Cmp.trades c))),V.d (D.sl false (List.length (Cmp.divs c)) (enc eV (Cmp.divs c))),V.d x5_,V.d (D.sl false (List.length (Cmp.closed c)) (enc eR (Cmp.closed c))),V.mp 0])]
  Tr.need (evLk true y0_ (V.d x1_) true (V.mp 0) x2_ (Wk c km []) = some (V.tup [V.d (D.int .i64 (lkN x3_)),V.d (D.bool (lkB x3_))])) (Tr.br (!lkB x3_) (Tr.lp (CCode.at c94 [1,1,0,1,0,1,0,1,0,0]) [Fr.blk 0,Fr.seq (CCode.at c94 [1,1,0,1,0,1,1]),Fr.seq (CCode.at c94 [1,1,1])] [(0,V.ptr 1 0 0),(1,V.d (D.int .i64 s)),(5,V.rptr [D.int .i64 a,D.int .i64 b] (0)),(7,V.d (D.int .i64 (720:Int))),(26,V.d x5_),(27,V.d (D.int .i64 (Int.ofNat x4_))),(28,V.d x1_)] x6_) (Tr.need (-9223372036854775808 ≤ s * lkN x3_ ∧ s * lkN x3_ ≤ 9223372036854775807) (Tr.done (V.d (D.int .i64 (s * lkN x3_))) x6_))) := by kernel_rfl
theorem b94 (c:Cmp) (km:List (Int × Int × Int)) (s a b n:Int) (k:Nat):sx X94 (CCode.at c94 [1,1,0,1,0,1,0,1,0,0]) [] leafK (E94 c s a b n k) [] (Wk c km []) =
  let x1_ := (List.length (Cmp.splits c))
  let x2_ := (decide (Int.ofNat k < Int.ofNat x1_))
  let y1_ := (enc eS (Cmp.splits c))
  let x3_ := (n * cI y1_ 3 (Int.ofNat k) 1)
  let x4_ := (cI y1_ 3 (Int.ofNat k) 2)
  let x5_ := (-9223372036854775808 ≤ Int.ofNat k + (1:Int) ∧ Int.ofNat k + (1:Int) ≤ 9223372036854775807)
  let x6_ := (D.sl false x1_ y1_)
  let x7_ := (Blk.map (List.map entE km))
  let x8_ := (Blk.box [V.d (D.int .i64 (Cmp.houses c)),V.d (D.sl false (List.length (Cmp.held c)) (enc eI (Cmp.held c))),V.d (D.sl false (List.length (Cmp.trades c)) (enc eT (Cmp.trades c))),V.d (D.sl false (List.length (Cmp.divs c)) (enc eV (Cmp.divs c))),V.d x6_,V.d (D.sl false (List.length (Cmp.closed c)) (enc eR (Cmp.closed c))),V.mp 0])
  let x9_ := [some x7_,some x8_,some (Blk.box [V.d (D.int .i64 (cI y1_ 3 (Int.ofNat k) 0)),V.d (D.int .i64 (cI y1_ 3 (Int.ofNat k) 1)),V.d (D.int .i64 x4_)])]
  let y2_ := (5,V.rptr [D.int .i64 a,D.int .i64 b] (0))
  let y3_ := (27,V.d (D.int .i64 (Int.ofNat x1_)))
  let y4_ := (28,V.d (D.int .i64 (Int.ofNat k + (1:Int))))
  let y5_ := (1,V.d (D.int .i64 s))
  let y0_ := (Tr.need x5_ (Tr.leaf CExit.normal [(0,V.ptr 1 0 0),y5_,y2_,(7,V.d (D.int .i64 n)),(26,V.d x6_),y3_,y4_] x9_))
  Tr.br x2_ (Tr.need ((0:Int) ≤ Int.ofNat k ∧ Int.ofNat k < Int.ofNat x1_ ∧ okEl [0,0,0] y1_ 3 (Int.ofNat k)) (Tr.br (decide (a < cI y1_ 3 (Int.ofNat k) 0)) (Tr.br (decide (cI y1_ 3 (Int.ofNat k) 0 ≤ b)) (Tr.need (-9223372036854775808 ≤ n * cI y1_ 3 (Int.ofNat k) 1 ∧ n * cI y1_ 3 (Int.ofNat k) 1 ≤ 9223372036854775807) (Tr.need (cI y1_ 3 (Int.ofNat k) 2 ≠ (0:Int)) (Tr.need (-9223372036854775808 ≤ Int.tdiv x3_ x4_ ∧ Int.tdiv x3_ x4_ ≤ 9223372036854775807) (Tr.need x5_ (Tr.leaf CExit.normal [(0,V.ptr 1 0 0),y5_,y2_,(7,V.d (D.int .i64 (Int.tdiv x3_ x4_))),(26,V.d x6_),y3_,y4_] x9_))))) y0_) y0_)) (Tr.leaf (CExit.exit 0) [(0,V.ptr 1 0 0),y5_,y2_,(7,V.d (D.int .i64 n)),(26,V.d x6_),y3_,(28,V.d (D.int .i64 (Int.ofNat k))),(29,V.d (D.bool x2_))] [some x7_,some x8_]) := by kernel_rfl
theorem x94 (c:Cmp) (km:List (Int × Int × Int)) (s a b n:Int) (u v w z:V):sS X94 (doneK r94) [Fr.blk 0,Fr.seq (CCode.at c94 [1,1,0,1,0,1,1]),Fr.seq (CCode.at c94 [1,1,1])] (.exit 0) [(0,.ptr 1 0 0),(1,vi s),(5,.rptr [.int .i64 a,.int .i64 b] 0),(7,vi n),(26,u),(27,v),(28,w),(29,z)] [] (Wk c km []) =
  let y1_ := (V.agg [V.d (D.int .i64 a),V.d (D.int .i64 b)])
  let y2_ := [SK.int IntKind.i64,SK.int IntKind.i64]
  let y0_ := (Blk.map (mapIn (evUp true y2_ (V.mp 0) y1_ (V.d (D.int .i64 n)) (Wk c km [])) 0))
  Tr.need (evUp true y2_ (V.mp 0) y1_ (V.d (D.int .i64 n)) (Wk c km []) = some (List.set (Wk c km []) 0 (some y0_))) (Tr.need (-9223372036854775808 ≤ s * n ∧ s * n ≤ 9223372036854775807) (Tr.done (V.d (D.int .i64 (s * n))) [some y0_,some (Blk.box [V.d (D.int .i64 (Cmp.houses c)),V.d (D.sl false (List.length (Cmp.held c)) (enc eI (Cmp.held c))),V.d (D.sl false (List.length (Cmp.trades c)) (enc eT (Cmp.trades c))),V.d (D.sl false (List.length (Cmp.divs c)) (enc eV (Cmp.divs c))),V.d (D.sl false (List.length (Cmp.splits c)) (enc eS (Cmp.splits c))),V.d (D.sl false (List.length (Cmp.closed c)) (enc eR (Cmp.closed c))),V.mp 0])])) := by kernel_rfl
theorem split_ok:∀ (l:List Spl) (last:Int),okSs last l = true → ∀ x ∈ l,1 ≤ x.num ∧ x.num ≤ 6 ∧ 1 ≤ x.den ∧ x.den ≤ 4
 | [],_,_,x,hx => by simp at hx
 | s :: l,last,h,x,hx => by
  simp only [okSs,Bool.and_eq_true] at h
  rcases List.mem_cons.1 hx with rfl | h1
  ·have := h.1
   simp only [okSp,decide_eq_true_eq] at this
   omega
  ·exact split_ok l _ h.2 x h1
theorem facM_snoc (l:List Spl) (x:Spl) (a b:Int):facM (l ++ [x]) a b = facS a b (facM l a b) x := by simp [facM]
theorem facS_in {a b n:Int} {x:Spl} {m:Int} (hx:1 ≤ x.num ∧ x.num ≤ 6 ∧ 1 ≤ x.den ∧ x.den ≤ 4) (h0:0 ≤ n) (h1:n ≤ m):0 ≤ facS a b n x ∧ facS a b n x ≤ 6 * m ∧ 0 ≤ n * x.num ∧ n * x.num ≤ 6 * m ∧ 0 ≤ (n * x.num).tdiv x.den ∧ (n * x.num).tdiv x.den ≤ 6 * m := by
 have h2:0 ≤ n * x.num := Int.mul_nonneg h0 (by omega)
 have h3:n * x.num ≤ m * 6 := Int.mul_le_mul h1 hx.2.1 (by omega) (by omega)
 unfold facS
 rw [Int.tdiv_eq_ediv_of_nonneg h2]
 have h4:(n * x.num) / x.den ≤ n * x.num := Int.ediv_le_self _ h2
 have h5:0 ≤ (n * x.num) / x.den := Int.ediv_nonneg h2 (by omega)
 split <;> omega
theorem lat_mem {α:Type} [Inhabited α] {l:List α} {k:Nat} (hk:k < l.length):lat l (k:Nat) ∈ l := by
 have:lat l (k:Nat) = l[k] := by simp [lat,hk]
 rw [this]; exact List.getElem_mem hk
theorem a94 (c:Cmp) (km:List (Int × Int × Int)) (s a b:Int) (hs : -1000 ≤ s) (hs2:s ≤ 1000) (hv:okSs (-1) c.splits = true) (hl:c.splits.length ≤ 2) (hk:kmOk c km) :
  ACalls Try.prog 94 [.ptr 1 0 0,vi s,.agg [vi a,vi b]] (Wk c km []) fun v h' => v = vi (s * facM c.splits a b) ∧ ∃ J,h' = Wk c (updK c km a b) J := by
 have hpow:∀ k,k ≤ 2 → (0:Int) ≤ 720 * 6 ^ k ∧ (720:Int) * 6 ^ k ≤ 25920 := by
  intro k h
  match k,h with
  | 0,_ => decide
  | 1,_ => decide
  | 2,_ => decide
 have hbound:∀ k,k ≤ c.splits.length → 0 ≤ facM (c.splits.take k) a b ∧ facM (c.splits.take k) a b ≤ 720 * 6 ^ k := by
  intro k
  induction k with
  | zero => intro _; simp [facM]
  | succ k ih =>
   intro hk
   obtain ⟨h1,h2⟩ := ih (by omega)
   rw [take_lat (by omega),facM_snoc]
   have := facS_in (a := a) (b := b) (split_ok _ _ hv _ (lat_mem (show k < c.splits.length by omega))) h1 h2
   rw [Int.pow_succ]
   omega
 have hmul:∀ n:Int,0 ≤ n → n ≤ 25920 → -9223372036854775808 ≤ s * n ∧ s * n ≤ 9223372036854775807 := fun n h0 h1 => by
  have e1:s * n ≤ 1000 * 25920 := by
   rcases Int.le_total 0 s with h | h
   ·exact Int.mul_le_mul hs2 h1 h0 (by omega)
   ·have:s * n ≤ 0 := Int.mul_nonpos_of_nonpos_of_nonneg h h0
    omega
  have e2 : -(1000 * 25920) ≤ s * n := by
   rcases Int.le_total 0 s with h | h
   ·have:0 ≤ s * n := Int.mul_nonneg h h0
    omega
   ·have h3:(-s) * n ≤ 1000 * 25920 := Int.mul_le_mul (by omega) h1 h0 (by omega)
    have h4:(-s) * n = -(s * n) := Int.neg_mul s n
    omega
  omega
 have hfull := hbound c.splits.length (Nat.le_refl _)
 rw [List.take_length] at hfull
 have hp2 := hpow c.splits.length hl
 refine q94.calls X94_ok (h := Wk c km []) rfl (w94 c km s a b) ?_
 simp only [holds,Wk,evLk_km,lkN,lkB,true_and]
 refine ⟨fun h1 => ?_,fun h1 => ?_⟩
 ·have hnone:lkK km a b = none := by
   cases h:lkK km a b with
   | none => rfl
   | some x => rw [h] at h1; simp at h1
  refine lp_count X94_ok c.splits.length (fun _ => True) (fun k => E94 c s a b (facM (c.splits.take k) a b) k) (fun _ => Wk c km []) rfl rfl trivial (fun k _ => ⟨rfl,rfl, ?_⟩) ?_
  ·show ((km.map entE).all _ && true) = true
   simp [List.all_eq_true,entE,bel1,bel0,vi]
  intro k hk' _ Q' hn he hr
  obtain ⟨b1,b2⟩ := hbound k hk'
  have hp := hpow k (by omega)
  rw [b94]
  simp only [holds,Int.ofNat_eq_natCast,cI_S0,cI_S1,cI_S2,true_and]
  refine ⟨fun h2 => ?_,fun h2 => ?_⟩
  ·have hlt:k < c.splits.length := by have := of_decide_eq_true h2; omega
   have hx := split_ok _ _ hv _ (lat_mem hlt)
   have hfi := facS_in (a := a) (b := b) hx b1 b2
   have hn1 := fun J => hn J hlt trivial
   simp only [take_lat hlt,facM_snoc,E94,facS] at hn1
   repeat' (first | (refine And.intro ?_ ?_) | (refine fun (_:_ = _) => ?_))
   all_goals first
    | omega
    | exact ok_S (by simpa using hlt)
    | (simp_all; done)
    |(simp only [decide_eq_true_eq,decide_eq_false_iff_not] at *
      simp only [*,and_self,and_true,true_and,false_and,and_false,if_true,if_false] at hn1
      exact hn1 _)
  ·have hge:k = c.splits.length := by have := of_decide_eq_false h2; omega
   subst hge
   rw [List.take_length]
   refine he _ _ _ (ret_tree X94_ok (doneK_ok rfl) (x94 c km s a b _ _ _ _ _) ?_)
   simp only [holds,Wk,evUp_km km a b _ _ hnone,mapIn,List.getElem?_cons_zero,List.set_cons_zero,true_and]
   refine ⟨hmul _ hfull.1 (by omega),rfl,[], ?_⟩
   simp only [updK,hnone]
   rfl
 ·cases h:lkK km a b with
  | none => rw [h] at h1; simp at h1
  | some x =>
   have hx := lkK_ok hk h
   subst hx
   simp only [Option.getD_some]
   refine ⟨hmul _ hfull.1 (by omega),rfl,[], ?_⟩
   simp only [updK,h]
   rfl
end
end Go.Proofs.Ytdnefcjbcieecaa
namespace Go.Proofs.Ytdnefcjbcieecaa
open Go Go.Proofs
noncomputable section
theorem q60:FunIs Try.prog 60 G60 c60 r60 := ⟨Try.f60,Try.func60,k60,e60,by kernel_rfl,by kernel_rfl⟩
def kA (v:V) (i:Nat):Int := match v with
 | .agg cs => vI cs i
 | _ => 0
def kN (v:V):Int := match v with
 | .d (.int _ n) => n
 | _ => 0
def dK (es:List (V × V)):List (Int × Int × Int) := es.map fun p => (kA p.1 0,kA p.1 1,kN p.2)
@[simp] theorem dK_map (km:List (Int × Int × Int)):dK (km.map entE) = km := by
 simp only [dK,List.map_map]
 have:((fun p:V × V => (kA p.1 0,kA p.1 1,kN p.2)) ∘ entE) = id := by funext e; rfl
 rw [this,List.map_id]
theorem Wk_bel (c:Cmp) (km:List (Int × Int × Int)) (n:Nat) (hn:0 < n):(Wk c km []).all (blkBel n) = true := by
 have h0:Nat.blt 0 n = true := by rw [Nat.blt_eq]; exact hn
 simp [Wk,Wbox,blkBel,List.all_eq_true,entE,bel1,bel0,vi,h0]
def asW (h:Heap):Option (Cmp × List (Int × Int × Int) × Heap) := match h with
 | some (.map es) :: some (.box [x0,x1,x2,x3,x4,x5,.mp 0]) :: rest => match asC (.agg [x0,x1,x2,x3,x4,x5]) with
  | some c => some (c,dK es,rest)
  | none => none
 | _ => none
def putW (h:Heap) (km:List (Int × Int × Int)):Heap := match h with
 | some (.map es) :: r => some (.map (km.map entE)) :: r
 | h => h
def ent94:Ent := fun args h => match args,asW h with
 | [.ptr 1 0 0,.d (.int .i64 s),.agg [.d (.int .i64 a),.d (.int .i64 b)]],some (c,km,rest) =>
  some (h = Wk c km rest ∧ -1000 ≤ s ∧ s ≤ 1000 ∧ okSs (-1) c.splits = true ∧ c.splits.length ≤ 2 ∧ kmOk c km,vi (s * facM c.splits a b),some (putW h (updK c km a b)))
 | _,_ => none
theorem more_W {P:Program} {f:FuncId} {vs:List V} {c:Cmp} {km km' : List (Int × Int × Int)} {v:V} (ha:vs.all (bel2 2) = true) (hv:bel2 2 v = true) (hc:ACalls P f vs (Wk c km []) fun v1 h1 => v1 = v ∧ ∃ J,h1 = Wk c km' J) (rest:Heap) :
  ACalls P f vs (Wk c km rest) fun v1 h1 => v1 = v ∧ h1 = Wk c km' rest := by
 have h2 := ACalls.more (h0 := Wk c km []) (R := fun v1 k => v1 = v ∧ k = Wk c km' []) ha (Wk_bel c km 2 (by decide)) (hc.mono fun v1 h1 hh => by
  obtain ⟨rfl,J,rfl⟩ := hh
  have e:(Wk c km' J).take (Wk c km []).length = Wk c km' [] := rfl
  rw [e]
  exact ⟨hv,Wk_bel c km' 2 (by decide),rfl,rfl⟩) rest
 exact h2.mono fun v1 h1 ⟨k,_,⟨e1,e2⟩,e3⟩ => ⟨e1,by rw [e3,e2]; rfl⟩
theorem ent94_ok:EntOk Try.prog 94 ent94 := by
 intro args h p v h' he hp
 unfold ent94 at he
 split at he
 ·rename_i s a b c km rest hw
  cases he
  obtain ⟨h1,h2,h3,h4,h5,h6⟩ := hp
  subst h1
  exact more_W rfl rfl (a94 c km s a b h2 h3 h4 h5 h6) rest
 ·cases he
def tab13:Spec := (spAdd 94 ent94 tab11)
theorem tab13_ok:SpOk Try.prog tab13 := (spAdd_ok ent94_ok tab11_ok)
def X13:Sx := mkX tab13
theorem X13_ok:SpOk Try.prog X13.sp := tab13_ok
def X60:Sx := { sp := tab13,md := fun k => bif Nat.beq k 74 then 1 else bif Nat.beq k 81 then 1 else 0,sh := shI,sym := true }
theorem X60_ok:SpOk Try.prog X60.sp := tab13_ok
def setF (f:Nat → Int) (i:Nat) (x:Int):Nat → Int := fun j => if j = i then x else f j
def cells4 (f:Nat → Int):List V := [vi (f 0),vi (f 1),vi (f 2),vi (f 3)]
def fac (c:Cmp) (a b:Int):Int := facM c.splits a b
def heldA (c:Cmp) (n:Int):Nat → Nat → Int
 | 0 => fun _ => 0
 | k + 1 => setF (heldA c n k) k (lat c.held (k:Nat) * fac c (-1) n)
def isReg (c:Cmp) (t:Tru) (n:Int) (k:Nat):Prop := regM c.closed (lat t.deliv (k:Nat)) ≠ -1 ∧ regM c.closed (lat t.deliv (k:Nat)) ≤ n
instance (c:Cmp) (t:Tru) (n:Int) (k:Nat):Decidable (isReg c t n k) := inferInstanceAs (Decidable (_ ∧ _))
def unitsT (c:Cmp) (t:Tru) (n:Int) (k:Nat):Int := (lat c.trades (k:Nat)).shares * fac c (lat t.sold (k:Nat)) n
def moveF (f:Nat → Int) (i j:Nat) (u:Int):Nat → Int := setF (setF f i (f i - u)) j (setF f i (f i - u) j + u)
def heldT (c:Cmp) (t:Tru) (n:Int):Nat → Nat → Int
 | 0 => heldA c n c.held.length
 | k + 1 => if isReg c t n k then moveF (heldT c t n k) (lat c.trades (k:Nat)).seller.toNat (lat c.trades (k:Nat)).buyer.toNat (unitsT c t n k) else heldT c t n k
def heldF (c:Cmp) (t:Tru) (n:Int):Nat → Int := heldT c t n c.trades.length
def kmA (c:Cmp) (n:Int) (km:List (Int × Int × Int)):Nat → List (Int × Int × Int)
 | 0 => km
 | k + 1 => updK c (kmA c n km k) (-1) n
def kmT (c:Cmp) (t:Tru) (n:Int) (km:List (Int × Int × Int)):Nat → List (Int × Int × Int)
 | 0 => kmA c n km c.held.length
 | k + 1 => if isReg c t n k then updK c (kmT c t n km k) (lat t.sold (k:Nat)) n else kmT c t n km k
theorem kmA_ok {c:Cmp} {km:List (Int × Int × Int)} (h:kmOk c km) (n:Int):∀ k,kmOk c (kmA c n km k)
 | 0 => h
 | k + 1 => updK_ok (kmA_ok h n k) _ _
theorem kmT_ok {c:Cmp} {km:List (Int × Int × Int)} (h:kmOk c km) (t:Tru) (n:Int):∀ k,kmOk c (kmT c t n km k)
 | 0 => kmA_ok h n _
 | k + 1 => by
  rw [kmT]
  split
  ·exact updK_ok (kmT_ok h t n k) _ _
  ·exact kmT_ok h t n k
def E60a (c:Cmp) (t:Tru) (n:Int) (k:Nat):Env := [(0,.ptr 1 0 0),(2,vi n),(4,.rptr (Uds t) 0),(6,.ptr 2 0 0),(17,.d (dsl eI c.held)),(18,vi c.held.length),(19,vi k)]
def E60b (c:Cmp) (t:Tru) (n:Int) (k:Nat):Env := [(0,.ptr 1 0 0),(2,vi n),(4,.rptr (Uds t) 0),(6,.ptr 2 0 0),(36,.d (dsl eT c.trades)),(37,vi c.trades.length),(38,vi k)]
theorem w60 (c:Cmp) (t:Tru) (n:Int) (km:List (Int × Int × Int)):sx X60 c60 [] (doneK r60) (envOf [.ptr 1 0 0,Uv t,vi n]) [] (Wk c km []) =
  let y0_ := (D.sl false (List.length (Cmp.held c)) (enc eI (Cmp.held c)))
  let y1_ := (D.int .i64 0)
  Tr.lp (CCode.at c60 [1,0,1,0,0]) [Fr.blk 0,Fr.seq (CCode.at c60 [1,1])] [(0,V.ptr 1 0 0),(2,V.d (D.int .i64 n)),(4,V.rptr (Uds t) 0),(6,V.ptr 2 0 0),(17,V.d y0_),(18,V.d (D.int .i64 (Int.ofNat (List.length (Cmp.held c))))),(19,V.d y1_)] [some (Blk.map (List.map entE km)),some (Blk.box [V.d (D.int .i64 (Cmp.houses c)),V.d y0_,V.d (D.sl false (List.length (Cmp.trades c)) (enc eT (Cmp.trades c))),V.d (D.sl false (List.length (Cmp.divs c)) (enc eV (Cmp.divs c))),V.d (D.sl false (List.length (Cmp.splits c)) (enc eS (Cmp.splits c))),V.d (D.sl false (List.length (Cmp.closed c)) (enc eR (Cmp.closed c))),V.mp 0]),some (Blk.box [V.d y1_,V.d y1_,V.d y1_,V.d y1_])] := by kernel_rfl
theorem b60a (c:Cmp) (t:Tru) (n:Int) (km:List (Int × Int × Int)) (k:Nat) (f:Nat → Int):sx X60 (CCode.at c60 [1,0,1,0,0]) [] leafK (E60a c t n k) [] (Wk c km [some (.box (cells4 f))]) =
  let x1_ := (List.length (Cmp.held c))
  let x2_ := (decide (Int.ofNat k < Int.ofNat x1_))
  let x3_ := [some (Blk.box (cells4 f))]
  let y0_ := (enc eI (Cmp.held c))
  let y3_ := (Cmp.splits (dCe c))
  let x4_ := [V.d (D.int .i64 (cI y0_ 1 (Int.ofNat k) 0 * facM y3_ (-1:Int) n))]
  let x5_ := (D.sl false x1_ y0_)
  let x6_ := (Blk.box [V.d (D.int .i64 (Cmp.houses c)),V.d x5_,V.d (D.sl false (List.length (Cmp.trades c)) (enc eT (Cmp.trades c))),V.d (D.sl false (List.length (Cmp.divs c)) (enc eV (Cmp.divs c))),V.d (D.sl false (List.length (Cmp.splits c)) (enc eS (Cmp.splits c))),V.d (D.sl false (List.length (Cmp.closed c)) (enc eR (Cmp.closed c))),V.mp 0])
  let y1_ := (List.map entE km)
  let y2_ := (18,V.d (D.int .i64 (Int.ofNat x1_)))
  Tr.br x2_ (Tr.need ((0:Int) ≤ Int.ofNat k ∧ Int.ofNat k < Int.ofNat x1_ ∧ okEl [0] y0_ 1 (Int.ofNat k)) (Tr.need (Wk c km x3_ = Wk (dCe c) (dK y1_) x3_ ∧ (-1000:Int) ≤ cI y0_ 1 (Int.ofNat k) 0 ∧ cI y0_ 1 (Int.ofNat k) 0 ≤ (1000:Int) ∧ okSs (-1:Int) y3_ = true ∧ List.length y3_ ≤ 2 ∧ kmOk (dCe c) (dK y1_)) (Tr.need ((0:Int) ≤ Int.ofNat k ∧ Int.ofNat k < Int.ofNat 4) (Tr.need (0 + Int.toNat (Int.ofNat k) * 1 + List.length x4_ ≤ List.length (cells4 f) ∧ List.length x4_ = 1) (Tr.need (-9223372036854775808 ≤ Int.ofNat k + (1:Int) ∧ Int.ofNat k + (1:Int) ≤ 9223372036854775807) (Tr.leaf CExit.normal [(0,V.ptr 1 0 0),(2,V.d (D.int .i64 n)),(4,V.rptr (Uds t) 0),(6,V.ptr 2 0 0),(17,V.d x5_),y2_,(19,V.d (D.int .i64 (Int.ofNat k + (1:Int))))] [some (Blk.map (List.map entE (updK (dCe c) (dK y1_) (-1:Int) n))),some x6_,some (Blk.box (putAt (cells4 f) (0 + Int.toNat (Int.ofNat k) * 1) x4_))])))))) (Tr.leaf (CExit.exit 0) [(0,V.ptr 1 0 0),(2,V.d (D.int .i64 n)),(4,V.rptr (Uds t) 0),(6,V.ptr 2 0 0),(17,V.d x5_),y2_,(19,V.d (D.int .i64 (Int.ofNat k))),(20,V.d (D.bool x2_))] [some (Blk.map y1_),some x6_,some (Blk.box [V.d (D.int .i64 (f 0)),V.d (D.int .i64 (f 1)),V.d (D.int .i64 (f 2)),V.d (D.int .i64 (f 3))])]) := by kernel_rfl
theorem x60a (c:Cmp) (t:Tru) (n:Int) (km:List (Int × Int × Int)) (f:Nat → Int) (u v w z:V):sS X60 (doneK r60) [Fr.blk 0,Fr.seq (CCode.at c60 [1,1])] (.exit 0) [(0,.ptr 1 0 0),(2,vi n),(4,.rptr (Uds t) 0),(6,.ptr 2 0 0),(17,u),(18,v),(19,w),(20,z)] [] (Wk c km [some (.box (cells4 f))]) =
  let y0_ := (D.sl false (List.length (Cmp.trades c)) (enc eT (Cmp.trades c)))
  Tr.lp (CCode.at c60 [1,1,0,1,0,0]) [Fr.blk 2,Fr.seq (CCode.at c60 [1,1,1])] [(0,V.ptr 1 0 0),(2,V.d (D.int .i64 n)),(4,V.rptr (Uds t) 0),(6,V.ptr 2 0 0),(36,V.d y0_),(37,V.d (D.int .i64 (Int.ofNat (List.length (Cmp.trades c))))),(38,V.d (D.int .i64 0))] [some (Blk.map (List.map entE km)),some (Blk.box [V.d (D.int .i64 (Cmp.houses c)),V.d (D.sl false (List.length (Cmp.held c)) (enc eI (Cmp.held c))),V.d y0_,V.d (D.sl false (List.length (Cmp.divs c)) (enc eV (Cmp.divs c))),V.d (D.sl false (List.length (Cmp.splits c)) (enc eS (Cmp.splits c))),V.d (D.sl false (List.length (Cmp.closed c)) (enc eR (Cmp.closed c))),V.mp 0]),some (Blk.box [V.d (D.int .i64 (f 0)),V.d (D.int .i64 (f 1)),V.d (D.int .i64 (f 2)),V.d (D.int .i64 (f 3))])] := by kernel_rfl
theorem b60b (c:Cmp) (t:Tru) (n:Int) (km:List (Int × Int × Int)) (k:Nat) (f:Nat → Int):sx X60 (CCode.at c60 [1,1,0,1,0,0]) [] leafK (E60b c t n k) [] (Wk c km [some (.box (cells4 f))]) =
  let x1_ := (List.length (Cmp.trades c))
  let x2_ := (decide (Int.ofNat k < Int.ofNat x1_))
  let y0_ := (enc eT (Cmp.trades c))
  let x3_ := (cI y0_ 7 (Int.ofNat k) 0)
  let x4_ := (cI y0_ 7 (Int.ofNat k) 1)
  let x5_ := [V.d (D.int .i64 x3_),V.d (D.int .i64 x4_),V.d (D.int .i64 (cI y0_ 7 (Int.ofNat k) 2)),V.d (D.int .i64 (cI y0_ 7 (Int.ofNat k) 3)),V.d (D.int .i64 (cI y0_ 7 (Int.ofNat k) 4)),V.d (D.int .i64 (cI y0_ 7 (Int.ofNat k) 5)),V.d (D.int .i64 (cI y0_ 7 (Int.ofNat k) 6))]
  let x6_ := (D.int .i64 0)
  let x7_ := [V.d x6_,V.d x6_,V.d x6_,V.d x6_,V.d x6_,V.d x6_,V.d x6_]
  let x8_ := (cI (enc eI (Tru.deliv t)) 1 (Int.ofNat k) 0)
  let y3_ := (List.map entE km)
  let x9_ := (Blk.map y3_)
  let x10_ := (D.sl false x1_ y0_)
  let x11_ := (Blk.box [V.d (D.int .i64 (Cmp.houses c)),V.d (D.sl false (List.length (Cmp.held c)) (enc eI (Cmp.held c))),V.d x10_,V.d (D.sl false (List.length (Cmp.divs c)) (enc eV (Cmp.divs c))),V.d (D.sl false (List.length (Cmp.splits c)) (enc eS (Cmp.splits c))),V.d (D.sl false (List.length (Cmp.closed c)) (enc eR (Cmp.closed c))),V.mp 0])
  let x12_ := (Blk.box [V.d (D.int .i64 (f 0)),V.d (D.int .i64 (f 1)),V.d (D.int .i64 (f 2)),V.d (D.int .i64 (f 3))])
  let x13_ := [some x9_,some x11_,some x12_,some (Blk.box x5_)]
  let x14_ := ((0:Int) ≤ cI y0_ 7 (Int.ofNat k) 0 ∧ cI y0_ 7 (Int.ofNat k) 0 < Int.ofNat 4)
  let x15_ := (0 + Int.toNat x3_ * 1)
  let x16_ := (cI (enc eI (Tru.sold t)) 1 (Int.ofNat k) 0)
  let y2_ := (Cmp.splits (dCe c))
  let x17_ := [V.d (D.int .i64 (vI (cells4 f) x15_ - cI y0_ 7 (Int.ofNat k) 2 * facM y2_ x16_ n))]
  let x18_ := ((0:Int) ≤ cI y0_ 7 (Int.ofNat k) 1 ∧ cI y0_ 7 (Int.ofNat k) 1 < Int.ofNat 4)
  let x19_ := (putAt (cells4 f) x15_ x17_)
  let x20_ := (0 + Int.toNat x4_ * 1)
  let x21_ := [V.d (D.int .i64 (vI x19_ x20_ + cI y0_ 7 (Int.ofNat k) 2 * facM y2_ x16_ n))]
  let x22_ := (-9223372036854775808 ≤ Int.ofNat k + (1:Int) ∧ Int.ofNat k + (1:Int) ≤ 9223372036854775807)
  let y5_ := (37,V.d (D.int .i64 (Int.ofNat x1_)))
  let y1_ := [(0,V.ptr 1 0 0),(2,V.d (D.int .i64 n)),(4,V.rptr (Uds t) 0),(6,V.ptr 2 0 0),(36,V.d x10_),y5_,(38,V.d (D.int .i64 (Int.ofNat k + (1:Int))))]
  let y4_ := (Tr.need x22_ (Tr.leaf CExit.normal y1_ x13_))
  let y6_ := (Cmp.closed (dCe c))
  Tr.br x2_ (Tr.need ((0:Int) ≤ Int.ofNat k ∧ Int.ofNat k < Int.ofNat x1_ ∧ okEl [0,0,0,0,0,0,0] y0_ 7 (Int.ofNat k)) (Tr.need (0 + List.length x5_ ≤ List.length x7_ ∧ List.length x5_ = 7) (Tr.need ((0:Int) ≤ Int.ofNat k ∧ Int.ofNat k < Int.ofNat (List.length (Tru.deliv t)) ∧ okEl [0] (enc eI (Tru.deliv t)) 1 (Int.ofNat k)) (Tr.need (Cv (dCe c) = Cv c ∧ List.length y6_ ≤ 140737488355328) (Tr.br (regM y6_ x8_ != (-1:Int)) (Tr.br (decide (regM y6_ x8_ ≤ n)) (Tr.need ((0:Int) ≤ Int.ofNat k ∧ Int.ofNat k < Int.ofNat (List.length (Tru.sold t)) ∧ okEl [0] (enc eI (Tru.sold t)) 1 (Int.ofNat k)) (Tr.need (x13_ = Wk (dCe c) (dK y3_) [some (Blk.box (cells4 f)),some (Blk.box (putAt x7_ 0 x5_))] ∧ (-1000:Int) ≤ cI y0_ 7 (Int.ofNat k) 2 ∧ cI y0_ 7 (Int.ofNat k) 2 ≤ (1000:Int) ∧ okSs (-1:Int) y2_ = true ∧ List.length y2_ ≤ 2 ∧ kmOk (dCe c) (dK y3_)) (Tr.need x14_ (Tr.need ((cells4 f)[0 + Int.toNat x3_ * 1]? = some (V.d (D.int .i64 (vI (cells4 f) x15_)))) (Tr.need (-9223372036854775808 ≤ vI (cells4 f) x15_ - cI y0_ 7 (Int.ofNat k) 2 * facM y2_ x16_ n ∧ vI (cells4 f) x15_ - cI y0_ 7 (Int.ofNat k) 2 * facM y2_ x16_ n ≤ 9223372036854775807) (Tr.need x14_ (Tr.need (0 + Int.toNat x3_ * 1 + List.length x17_ ≤ List.length (cells4 f) ∧ List.length x17_ = 1) (Tr.need x18_ (Tr.need (x19_[0 + Int.toNat x4_ * 1]? = some (V.d (D.int .i64 (vI x19_ x20_)))) (Tr.need (-9223372036854775808 ≤ vI x19_ x20_ + cI y0_ 7 (Int.ofNat k) 2 * facM y2_ x16_ n ∧ vI x19_ x20_ + cI y0_ 7 (Int.ofNat k) 2 * facM y2_ x16_ n ≤ 9223372036854775807) (Tr.need x18_ (Tr.need (0 + Int.toNat x4_ * 1 + List.length x21_ ≤ List.length x19_ ∧ List.length x21_ = 1) (Tr.need x22_ (Tr.leaf CExit.normal y1_ [some (Blk.map (List.map entE (updK (dCe c) (dK y3_) x16_ n))),some x11_,some (Blk.box (putAt x19_ x20_ x21_)),some (Blk.box x5_)])))))))))))))) y4_) y4_))))) (Tr.leaf (CExit.exit 2) [(0,V.ptr 1 0 0),(2,V.d (D.int .i64 n)),(4,V.rptr (Uds t) 0),(6,V.ptr 2 0 0),(36,V.d x10_),y5_,(38,V.d (D.int .i64 (Int.ofNat k))),(39,V.d (D.bool x2_))] [some x9_,some x11_,some x12_]) := by kernel_rfl
theorem x60b (c:Cmp) (t:Tru) (n:Int) (km:List (Int × Int × Int)) (f:Nat → Int) (u v w z:V):sS X60 (doneK r60) [Fr.blk 2,Fr.seq (CCode.at c60 [1,1,1])] (.exit 2) [(0,.ptr 1 0 0),(2,vi n),(4,.rptr (Uds t) 0),(6,.ptr 2 0 0),(36,u),(37,v),(38,w),(39,z)] [] (Wk c km [some (.box (cells4 f))]) =
  let y0_ := [V.d (D.int .i64 (f 0)),V.d (D.int .i64 (f 1)),V.d (D.int .i64 (f 2)),V.d (D.int .i64 (f 3))]
  Tr.need (0 + List.length y0_ ≤ List.length (cells4 f) ∧ List.length y0_ = 4) (Tr.done (V.agg y0_) [some (Blk.map (List.map entE km)),some (Blk.box [V.d (D.int .i64 (Cmp.houses c)),V.d (D.sl false (List.length (Cmp.held c)) (enc eI (Cmp.held c))),V.d (D.sl false (List.length (Cmp.trades c)) (enc eT (Cmp.trades c))),V.d (D.sl false (List.length (Cmp.divs c)) (enc eV (Cmp.divs c))),V.d (D.sl false (List.length (Cmp.splits c)) (enc eS (Cmp.splits c))),V.d (D.sl false (List.length (Cmp.closed c)) (enc eR (Cmp.closed c))),V.mp 0]),some (Blk.box y0_)]) := by kernel_rfl
theorem Wk_belr (c:Cmp) (km:List (Int × Int × Int)) (rest:Heap) (n:Nat) (hn:0 < n) (hr:rest.all (blkBel n) = true):(Wk c km rest).all (blkBel n) = true := by
 have h0:Nat.blt 0 n = true := by rw [Nat.blt_eq]; exact hn
 have:(Wk c km rest).all (blkBel n) = ((Wk c km []).all (blkBel n) && rest.all (blkBel n)) := by simp [Wk,Bool.and_assoc]
 rw [this,Wk_bel c km n hn,hr]; rfl
theorem facM_in {l:List Spl} (hv:okSs (-1) l = true) (hl:l.length ≤ 2) (a b:Int):0 ≤ facM l a b ∧ facM l a b ≤ 25920 := by
 have hbound:∀ k,k ≤ l.length → 0 ≤ facM (l.take k) a b ∧ facM (l.take k) a b ≤ 720 * 6 ^ k := by
  intro k
  induction k with
  | zero => intro _; simp [facM]
  | succ k ih =>
   intro hk
   obtain ⟨h1,h2⟩ := ih (by omega)
   rw [take_lat (by omega),facM_snoc]
   have := facS_in (a := a) (b := b) (split_ok _ _ hv _ (lat_mem (show k < l.length by omega))) h1 h2
   rw [Int.pow_succ]
   omega
 have h := hbound l.length (Nat.le_refl _)
 rw [List.take_length] at h
 have hp:(720:Int) * 6 ^ l.length ≤ 25920 := by
  match l.length,hl with
  | 0,_ => decide
  | 1,_ => decide
  | 2,_ => decide
 omega
theorem mul_in {s n:Int} (h0:0 ≤ s) (h1:s ≤ 100) (h2:0 ≤ n) (h3:n ≤ 25920):0 ≤ s * n ∧ s * n ≤ 2592000 :=
 ⟨Int.mul_nonneg h0 h2,by have:s * n ≤ 100 * 25920 := Int.mul_le_mul h1 h3 h2 (by omega); omega⟩
theorem held_in {c:Cmp} (hf:faultM c = 0) {k:Nat} (hk:k < c.held.length):0 ≤ lat c.held (k:Nat) ∧ lat c.held (k:Nat) ≤ 100 := by
 have := List.all_eq_true.1 (fault_ok hf).2.1 _ (lat_mem hk)
 simp only [Rng.has,inR,decide_eq_true_eq] at this
 exact this
theorem trade_in {c:Cmp} (hf:faultM c = 0) {k:Nat} (hk:k < c.trades.length):okTr c.houses (lat c.trades (k:Nat)) = true := List.all_eq_true.1 (fault_ok hf).2.2.1 _ (lat_mem hk)
theorem fac_in {c:Cmp} (hf:faultM c = 0) (a b:Int):0 ≤ fac c a b ∧ fac c a b ≤ 25920 := by
 have h := fault_ok hf
 exact facM_in h.2.2.2.2.1 h.1.2.2.2.2.2.1 a b
theorem heldA_in {c:Cmp} (hf:faultM c = 0) (n:Int):∀ k,k ≤ c.held.length → ∀ i,0 ≤ heldA c n k i ∧ heldA c n k i ≤ 2592000
 | 0,_,i => by simp [heldA]
 | k + 1,hk,i => by
  have ih := heldA_in hf n k (by omega) i
  have h1 := held_in hf (k := k) (by omega)
  have h2 := fac_in hf (-1) n
  have h3 := mul_in h1.1 h1.2 h2.1 h2.2
  simp only [heldA,setF]
  split <;> omega
theorem unitsT_in {c:Cmp} (hf:faultM c = 0) (t:Tru) (n:Int) {k:Nat} (hk:k < c.trades.length):0 ≤ unitsT c t n k ∧ unitsT c t n k ≤ 2592000 := by
 have h1 := trade_in hf hk
 simp only [okTr,Bool.and_eq_true,decide_eq_true_eq] at h1
 have h2 := fac_in hf (lat t.sold (k:Nat)) n
 exact mul_in (by omega) (by omega) h2.1 h2.2
theorem heldT_in {c:Cmp} (hf:faultM c = 0) (t:Tru) (n:Int):∀ k,k ≤ c.trades.length → ∀ i, -(2592000 * (2 * (k:Int) + 1)) ≤ heldT c t n k i ∧ heldT c t n k i ≤ 2592000 * (2 * (k:Int) + 1)
 | 0,_,i => by have := heldA_in hf n _ (Nat.le_refl _) i; simp only [heldT]; omega
 | k + 1,hk,i => by
  have ih := heldT_in hf t n k (by omega)
  have hu := unitsT_in hf t n (k := k) (by omega)
  rw [heldT]
  split
  ·simp only [moveF,setF]
   have h1 := ih i
   have h2 := ih (lat c.trades (k:Nat)).seller.toNat
   have h3 := ih (lat c.trades (k:Nat)).buyer.toNat
   split <;> split <;> omega
  ·have h1 := ih i; omega
theorem cells4_get (f:Nat → Int) {i:Int} (h0:0 ≤ i) (h:i < 4):(cells4 f)[0 + i.toNat * 1]? = some (V.d (D.int .i64 (vI (cells4 f) (0 + i.toNat * 1)))) := by
 have:i = 0 ∨ i = 1 ∨ i = 2 ∨ i = 3 := by omega
 rcases this with rfl | rfl | rfl | rfl <;> rfl
theorem cells4_vI (f:Nat → Int) {i:Int} (h0:0 ≤ i) (h:i < 4):vI (cells4 f) (0 + i.toNat * 1) = f i.toNat := by
 have:i = 0 ∨ i = 1 ∨ i = 2 ∨ i = 3 := by omega
 rcases this with rfl | rfl | rfl | rfl <;> rfl
theorem cells4_get2 (f:Nat → Int) {i:Int} (h0:0 ≤ i) (h:i < 4):(cells4 f)[0 + i.toNat * 1]? = some (V.d (D.int .i64 (f i.toNat))) := by
 rw [cells4_get f h0 h,cells4_vI f h0 h]
theorem cells4_put (f:Nat → Int) {i:Int} (h0:0 ≤ i) (h:i < 4) (x:Int):putAt (cells4 f) (0 + i.toNat * 1) [V.d (D.int .i64 x)] = cells4 (setF f i.toNat x) := by
 have:i = 0 ∨ i = 1 ∨ i = 2 ∨ i = 3 := by omega
 rcases this with rfl | rfl | rfl | rfl <;> rfl
theorem cells4_len (f:Nat → Int):(cells4 f).length = 4 := rfl
theorem a60 (c:Cmp) (t:Tru) (n:Int) (km:List (Int × Int × Int)) (hf:faultM c = 0) (hs:t.sold.length = c.trades.length) (hd:t.deliv.length = c.trades.length) (hkm:kmOk c km) :
  ACalls Try.prog 60 [.ptr 1 0 0,Uv t,vi n] (Wk c km []) fun v h' => v = .agg (cells4 (heldF c t n)) ∧ ∃ J,h' = Wk c (kmT c t n km c.trades.length) J := by
 obtain ⟨⟨g1,g2,g3,g4,g5,g6,g7⟩,g8,g9,g10,g11,g12⟩ := fault_ok hf
 refine q60.calls X60_ok (h := Wk c km []) rfl (w60 c t n km) ?_
 simp only [holds]
 refine lp_count X60_ok c.held.length (fun _ => True) (E60a c t n) (fun k => Wk c (kmA c n km k) [some (.box (cells4 (heldA c n k)))]) rfl rfl trivial (fun k _ => ⟨rfl,rfl,Wk_belr _ _ _ 3 (by decide) rfl⟩) ?_
 intro k hk _ Q' hn he hr
 rw [b60a]
 simp only [holds,Int.ofNat_eq_natCast,cI_I,dCe,dC_enc,dK_map,true_and,cells4_len]
 refine ⟨fun h1 => ?_,fun h1 => ?_⟩
 ·have hlt:k < c.held.length := by have := of_decide_eq_true h1; omega
  have hh := held_in hf hlt
  refine ⟨⟨by omega,by omega,ok_I (by simpa using hlt)⟩,⟨by omega,by omega,g11,g6,kmA_ok hkm n k⟩,⟨by omega,by omega⟩,⟨by simp; omega,rfl⟩,⟨by omega,by omega⟩, ?_⟩
  have := hn [] hlt trivial
  rw [cells4_put _ (by omega) (by omega)]
  exact this
 ·have hge:k = c.held.length := by have := of_decide_eq_false h1; omega
  subst hge
  refine he _ _ _ (ret_tree X60_ok (doneK_ok rfl) (x60a c t n _ _ _ _ _ _) ?_)
  simp only [holds]
  refine lp_count X60_ok c.trades.length (fun _ => True) (E60b c t n) (fun k => Wk c (kmT c t n km k) [some (.box (cells4 (heldT c t n k)))]) rfl rfl trivial (fun k _ => ⟨rfl,rfl,Wk_belr _ _ _ 3 (by decide) rfl⟩) ?_
  clear hn he hr
  intro k hk _ Q' hn he hr
  rw [b60b]
  simp only [holds,Int.ofNat_eq_natCast,cI_I,cI_T0,cI_T1,cI_T2,dCe,dC_enc,dK_map,true_and,cells4_len]
  refine ⟨fun h1 => ?_,fun h1 => ?_⟩
  ·have hlt:k < c.trades.length := by have := of_decide_eq_true h1; omega
   have ht := trade_in hf hlt
   simp only [okTr,Bool.and_eq_true,decide_eq_true_eq] at ht
   have hn1 := fun J => hn J hlt trivial
   have hu := unitsT_in hf t n hlt
   have hb := fun i => heldT_in hf t n k hk i
   have o1:okEl [0,0,0,0,0,0,0] (enc eT c.trades) 7 (k:Nat) := ok_T (by simpa using hlt)
   have o2:okEl [0] (enc eI t.deliv) 1 (k:Nat) := ok_I (by simp; omega)
   have o3:okEl [0] (enc eI t.sold) 1 (k:Nat) := ok_I (by simp; omega)
   have k0 := kmT_ok hkm t n k
   refine ⟨⟨by omega,by omega,o1⟩,⟨by simp,rfl⟩,⟨by omega,by omega,o2⟩,by omega,fun h2 => ⟨fun h3 => ?_,fun h3 => ?_⟩,fun h2 => ?_⟩
   ·have hreg:isReg c t n k := ⟨by simpa using h2,of_decide_eq_true h3⟩
    refine ⟨⟨by omega,by omega,o3⟩,⟨rfl,by omega,by omega,g11,g6,k0⟩,⟨by omega,by omega⟩,cells4_get _ (by omega) (by omega), ?_⟩
    rw [cells4_put _ (by omega) (by omega),cells4_vI _ (by omega) (by omega),cells4_vI _ (by omega) (by omega)]
    have e:(lat c.trades (k:Nat)).shares * facM c.splits (lat t.sold (k:Nat)) n = unitsT c t n k := rfl
    rw [e]
    simp only [kmT,heldT,if_pos hreg] at hn1
    have b1 := hb (lat c.trades (k:Nat)).seller.toNat
    have b2:setF (heldT c t n k) (lat c.trades (k:Nat)).seller.toNat (heldT c t n k (lat c.trades (k:Nat)).seller.toNat - unitsT c t n k) (lat c.trades (k:Nat)).buyer.toNat ≤ 2592000 * (2 * (k:Int) + 1) ∧ -(2592000 * (2 * (k:Int) + 2)) ≤ setF (heldT c t n k) (lat c.trades (k:Nat)).seller.toNat (heldT c t n k (lat c.trades (k:Nat)).seller.toNat - unitsT c t n k) (lat c.trades (k:Nat)).buyer.toNat := by
     have b2 := hb (lat c.trades (k:Nat)).buyer.toNat
     simp only [setF]
     split <;> omega
    refine ⟨⟨by omega,by omega⟩,⟨by omega,by omega⟩,⟨by simp; omega,rfl⟩,⟨by omega,by omega⟩,cells4_get2 _ (by omega) (by omega),⟨by omega,by omega⟩,⟨by omega,by omega⟩,⟨by simp [cells4]; omega,rfl⟩,⟨by omega,by omega⟩, ?_⟩
    rw [cells4_put _ (by omega) (by omega)]
    exact hn1 _
   ·have hreg:¬ isReg c t n k := fun h => by have := of_decide_eq_false h3; exact this h.2
    simp only [kmT,heldT,if_neg hreg] at hn1
    exact ⟨⟨by omega,by omega⟩,hn1 _⟩
   ·have hreg:¬ isReg c t n k := fun h => by have := h.1; simp_all
    simp only [kmT,heldT,if_neg hreg] at hn1
    exact ⟨⟨by omega,by omega⟩,hn1 _⟩
  ·have hge:k = c.trades.length := by have := of_decide_eq_false h1; omega
   subst hge
   refine he _ _ _ (ret_tree X60_ok (doneK_ok rfl) (x60b c t n _ _ _ _ _ _) ?_)
   simp only [holds]
   exact ⟨⟨by simp [cells4],rfl⟩,rfl,[some (.box (cells4 (heldT c t n c.trades.length)))],rfl⟩
end
end Go.Proofs.Ytdnefcjbcieecaa
namespace Go.Proofs.Ytdnefcjbcieecaa
open Go Go.Proofs
def G51:Cfg := ⟨[],[(0,[2,3]),(1,[6]),(2,[4])],15,[]⟩
def r51:List CRes := [.tmp 4]
def c51:CCode :=
(.seq (.region [
 rs 2 (.box false (.tmp 0)),
 rs 3 (.box false (.tmp 1)),
 mB 4 false] (some [2,3]))
(.seq (.region [
 lS 8 6 2,
 lS 9 2 3,
 kL2 10 58 8 9,
 mV 7 10,
 rs 11 (.extract (.tmp 7) 0),
 rs 12 (.extract (.tmp 7) 1),
 mV 5 11,
 mV 6 12] (some [6]))
(.seq (.region [
 mV 13 6,
 rs 14 (.bin .eql (.tmp 13) (ci 0)),
 mV 4 14] (some [4]))
.ret)))
theorem k51:Try.f51.body.bind (compC Try.prog G51) = some c51 := by kernel_rfl
theorem e51:compRes Try.prog Try.f51.results.toList = some r51 := by kernel_rfl
def G24:Cfg := ⟨[85,11],[(0,[2,3,4]),(1,[2,3,4,7]),(2,[2,3,4,7,8]),(3,[2,3,4,7,8,16]),(5,[2,3,4,7,8,9]),(6,[2,3,4,7,8,9,10]),(7,[2,3,4,7,8,9,10,31]),(9,[2,3,4,7,8,9,10,11]),(10,[2,3,4,7,8,9,10,11,12]),(11,[2,3,4,7,8,9,10,11,49]),(12,[2,3,4,7,8,9,10,11,53]),(13,[2,3,4,7,8,9,10,11]),(14,[2,3,4,7,8,9,10,11,69]),(15,[2,3,4,7,8,9,10]),(8,[2,3,4,7,8,9,10]),(16,[2,3,4,7,8]),(4,[2,3,4,7,8]),(17,[6])],87,[]⟩
def r24:List CRes := [.tmp 6]
def c24:CCode :=
(.seq (.region [
 rs 3 (.box false (.tmp 0)),
 rs 4 (.box false (.tmp 1)),
 rs 6 (.move (.const (.slice none 0 0)))] (some [2,3,4]))
(.seq (.region [
 rs 7 (.move (.const (.slice none 0 0)))] (some [2,3,4,7]))
(.seq (.seq (.region [
 mI 8 0] (some [2,3,4,7,8]))
(.block 0 (.loop (.seq (.seq (.region [
 mV 13 8,
 fA 14 0 3,
 lD 15 14,
 rs 16 (.bin .lss (.tmp 13) (.tmp 15))] (some [2,3,4,7,8,16])) (.cond (.tmp 16) .skip (.exit 0))) (.seq (.block 1 (.seq (.region [
 lS 19 6 3,
 fA 20 1 3,
 lD 21 20,
 mV 22 8,
 iX 23 1 21 22,
 lD 24 23,
 mV 25 2,
 ⟨(some 26),none,.call (.func 63) [(.tmp 19),(.tmp 24),(ci (-1)),(.tmp 25)]⟩,
 mV 9 26] (some [2,3,4,7,8,9])) (.seq (.seq (.region [
 mI 10 0] (some [2,3,4,7,8,9,10])) (.block 2 (.loop (.seq (.seq (.region [
 mV 27 10,
 fA 28 2 3,
 lD 29 28,
 rs 30 (.len (.tmp 29)),
 rs 31 (.bin .lss (.tmp 27) (.tmp 30))] (some [2,3,4,7,8,9,10,31])) (.cond (.tmp 31) .skip (.exit 2))) (.seq (.block 3 (.seq (.region [
 fA 34 2 3,
 lD 35 34,
 mV 36 10,
 iX 37 7 35 36,
 lS 38 7 37,
 rs 11 (.alloc [(.d (.int .i64 0)),(.d (.int .i64 0)),(.d (.int .i64 0)),(.d (.int .i64 0)),(.d (.int .i64 0)),(.d (.int .i64 0)),(.d (.int .i64 0))]),
 rn (.store 7 (.tmp 11) (.tmp 38))] (some [2,3,4,7,8,9,10,11])) (.seq (.seq (.region [
 lS 39 6 3,
 fA 40 1 4,
 lD 41 40,
 mV 42 10,
 iX 43 1 41 42,
 lD 44 43,
 kL2 45 49 39 44,
 mV 12 45] (some [2,3,4,7,8,9,10,11,12])) (.seq (.region [
 mV 46 12,
 mV 47 2,
 ⟨(some 48),none,.call (.func 23) [(.tmp 46),(ci 0),(.tmp 47)]⟩,
 rs 49 (.un .not (.tmp 48))] (some [2,3,4,7,8,9,10,11,49])) (.cond (.tmp 49) (.exit 3)
 .skip))) (.seq (.seq (.region [
 fA 50 1 11,
 lD 51 50,
 mV 52 8,
 rs 53 (.bin .eql (.tmp 51) (.tmp 52))] (some [2,3,4,7,8,9,10,11,53])) (.cond (.tmp 53) (.region [
 mV 54 9,
 lS 55 6 3,
 fA 56 2 11,
 lD 57 56,
 fA 58 0 4,
 lD 59 58,
 mV 60 10,
 iX 61 1 59 60,
 lD 62 61,
 mV 63 2,
 ⟨(some 64),none,.callx (.func 63) [(.tmp 55),(.tmp 57),(.tmp 62),(.tmp 63)]⟩,
 rs 65 (.bin .add (.tmp 54) (.tmp 64)),
 mV 9 65] (some [2,3,4,7,8,9,10,11]))
 .skip)) (.seq (.region [
 fA 66 0 11,
 lD 67 66,
 mV 68 8,
 rs 69 (.bin .eql (.tmp 67) (.tmp 68))] (some [2,3,4,7,8,9,10,11,69])) (.cond (.tmp 69) (.region [
 mV 70 9,
 lS 71 6 3,
 fA 72 2 11,
 lD 73 72,
 fA 74 0 4,
 lD 75 74,
 mV 76 10,
 iX 77 1 75 76,
 lD 78 77,
 mV 79 2,
 ⟨(some 80),none,.callx (.func 63) [(.tmp 71),(.tmp 73),(.tmp 78),(.tmp 79)]⟩,
 rs 81 (.bin .sub (.tmp 70) (.tmp 80)),
 mV 9 81] (some [2,3,4,7,8,9,10]))
 .skip)))))) (.region [
 mV 32 10,
 rs 33 (.bin .add (.tmp 32) (ci 1)),
 mV 10 33] (some [2,3,4,7,8,9,10]))))))) (.region [
 mV 82 7,
 mV 83 9,
 rs 84 (.bslice false 3 1 1 [(.int .i64 0)] [(0,(.tmp 83))]),
 ⟨(some 85),none,.app 3 1 8 (.tmp 82) (.tmp 84)⟩,
 mV 7 85] (some [2,3,4,7,8]))))) (.region [
 mV 17 8,
 rs 18 (.bin .add (.tmp 17) (ci 1)),
 mV 8 18] (some [2,3,4,7,8])))))))
(.seq (.region [
 mV 86 7,
 mV 6 86] (some [6]))
.ret))))
theorem k24:Try.f24.body.bind (compC Try.prog G24) = some c24 := by kernel_rfl
theorem e24:compRes Try.prog Try.f24.results.toList = some r24 := by kernel_rfl
def G44:Cfg := ⟨[],[(0,[2,3]),(1,[2,3,11]),(2,[4]),(3,[2,3,5]),(4,[2,3,5,13]),(6,[2,3,5,6]),(7,[2,3,5,6,7]),(8,[2,3,5,6,7,23]),(10,[2,3,5,6,7,30]),(11,[4]),(9,[2,3,5,6,7]),(5,[2,3,5]),(12,[4])],31,[]⟩
def r44:List CRes := [.tmp 4]
def c44:CCode :=
(.seq (.region [
 rs 2 (.box false (.tmp 0)),
 rs 3 (.box false (.tmp 1)),
 mB 4 false] (some [2,3]))
(.seq (.seq (.region [
 lS 8 6 2,
 lS 9 2 3,
 kL2 10 62 8 9,
 rs 11 (.un .not (.tmp 10))] (some [2,3,11]))
(.cond (.tmp 11) (.seq (.region [
 mB 4 false] (some [4]))
 .ret)
 .skip))
(.seq (.seq (.region [
 mI 5 0] (some [2,3,5]))
(.block 0 (.loop (.seq (.seq (.region [
 mV 12 5,
 rs 13 (.bin .leq (.tmp 12) (ci 11))] (some [2,3,5,13])) (.cond (.tmp 13) .skip (.exit 0))) (.seq (.block 1 (.seq (.region [
 lS 16 6 2,
 lS 17 2 3,
 mV 18 5,
 kL3 19 24 16 17 18,
 mV 6 19] (some [2,3,5,6])) (.seq (.region [
 mI 7 0] (some [2,3,5,6,7])) (.block 2 (.loop (.seq (.seq (.region [
 mV 20 7,
 mV 21 6,
 rs 22 (.len (.tmp 21)),
 rs 23 (.bin .lss (.tmp 20) (.tmp 22))] (some [2,3,5,6,7,23])) (.cond (.tmp 23) .skip (.exit 2))) (.seq (.block 3 (.seq (.region [
 mV 26 6,
 mV 27 7,
 iX 28 1 26 27,
 lD 29 28,
 rs 30 (.bin .lss (.tmp 29) (ci 0))] (some [2,3,5,6,7,30])) (.cond (.tmp 30) (.seq (.region [
 mB 4 false] (some [4]))
 .ret)
 .skip))) (.region [
 mV 24 7,
 rs 25 (.bin .add (.tmp 24) (ci 1)),
 mV 7 25] (some [2,3,5,6,7]))))))))) (.region [
 mV 14 5,
 rs 15 (.bin .add (.tmp 14) (ci 1)),
 mV 5 15] (some [2,3,5])))))))
(.seq (.region [
 mB 4 true] (some [4]))
.ret))))
theorem k44:Try.f44.body.bind (compC Try.prog G44) = some c44 := by kernel_rfl
theorem e44:compRes Try.prog Try.f44.results.toList = some r44 := by kernel_rfl
def G62:Cfg := ⟨[6],[(0,[2,3]),(1,[2,3,22]),(2,[4]),(3,[2,3,5]),(4,[2,3,5,27]),(6,[2,3,5,6]),(7,[2,3,5,75]),(8,[4]),(5,[2,3,5]),(9,[4])],76,[]⟩
def r62:List CRes := [.tmp 4]
def c62:CCode :=
(.seq (.region [
 rs 2 (.box false (.tmp 0)),
 rs 3 (.box false (.tmp 1)),
 mB 4 false] (some [2,3]))
(.seq (.seq (.region [
 fA 7 0 3,
 lD 8 7,
 rs 9 (.len (.tmp 8)),
 fA 10 2 2,
 lD 11 10,
 rs 12 (.len (.tmp 11)),
 rs 13 (.bin .neq (.tmp 9) (.tmp 12)),
 mV 14 13,
 qA 15 14 false 1 3,
 qL 16 14 false 15,
 rg 17 14 false (.len (.tmp 16)),
 qA 18 14 false 2 2,
 qL 19 14 false 18,
 rg 20 14 false (.len (.tmp 19)),
 rg 21 14 false (.bin .neq (.tmp 17) (.tmp 20)),
 pO 22 14 21] (some [2,3,22]))
(.cond (.tmp 22) (.seq (.region [
 mB 4 false] (some [4]))
 .ret)
 .skip))
(.seq (.seq (.region [
 mI 5 0] (some [2,3,5]))
(.block 0 (.loop (.seq (.seq (.region [
 mV 23 5,
 fA 24 2 2,
 lD 25 24,
 rs 26 (.len (.tmp 25)),
 rs 27 (.bin .lss (.tmp 23) (.tmp 26))] (some [2,3,5,27])) (.cond (.tmp 27) .skip (.exit 0))) (.seq (.block 1 (.seq (.region [
 fA 30 2 2,
 lD 31 30,
 mV 32 5,
 iX 33 7 31 32,
 lS 34 7 33,
 rs 6 (.alloc [(.d (.int .i64 0)),(.d (.int .i64 0)),(.d (.int .i64 0)),(.d (.int .i64 0)),(.d (.int .i64 0)),(.d (.int .i64 0)),(.d (.int .i64 0))]),
 rn (.store 7 (.tmp 6) (.tmp 34))] (some [2,3,5,6])) (.seq (.region [
 fA 35 0 3,
 lD 36 35,
 mV 37 5,
 iX 38 1 36 37,
 lD 39 38,
 fA 40 3 6,
 fA 41 0 40,
 lD 42 41,
 fA 43 3 6,
 fA 44 1 43,
 lD 45 44,
 kL3 46 23 39 42 45,
 rs 47 (.un .not (.tmp 46)),
 mV 48 47,
 qA 49 48 false 1 3,
 qL 50 48 false 49,
 qV 51 48 false 5,
 rg 52 48 false (.indexS 1 (.tmp 50) (.tmp 51)),
 qL 53 48 false 52,
 qA 54 48 false 5 6,
 qA 55 48 false 0 54,
 qL 56 48 false 55,
 qA 57 48 false 5 6,
 qA 58 48 false 1 57,
 qL 59 48 false 58,
 ⟨(some 60),(some (48,false)),.call (.func 23) [(.tmp 53),(.tmp 56),(.tmp 59)]⟩,
 rg 61 48 false (.un .not (.tmp 60)),
 pO 62 48 61,
 mV 63 62,
 qA 64 63 false 1 3,
 qL 65 63 false 64,
 qV 66 63 false 5,
 rg 67 63 false (.indexS 1 (.tmp 65) (.tmp 66)),
 qL 68 63 false 67,
 qA 69 63 false 0 3,
 qL 70 63 false 69,
 qV 71 63 false 5,
 rg 72 63 false (.indexS 1 (.tmp 70) (.tmp 71)),
 qL 73 63 false 72,
 rg 74 63 false (.bin .lss (.tmp 68) (.tmp 73)),
 pO 75 63 74] (some [2,3,5,75])) (.cond (.tmp 75) (.seq (.region [
 mB 4 false] (some [4]))
 .ret)
 .skip)))) (.region [
 mV 28 5,
 rs 29 (.bin .add (.tmp 28) (ci 1)),
 mV 5 29] (some [2,3,5])))))))
(.seq (.region [
 mB 4 true] (some [4]))
.ret))))
theorem k62:Try.f62.body.bind (compC Try.prog G62) = some c62 := by kernel_rfl
theorem e62:compRes Try.prog Try.f62.results.toList = some r62 := by kernel_rfl
def G63:Cfg := ⟨[12],[(0,[1,2,3,4]),(1,[2,3,4,9]),(2,[3,4,9,10]),(3,[3,4,9,10,19]),(5,[3,4,9,10,11]),(6,[3,4,9,10,11,26]),(8,[3,4,9,10,11,12]),(9,[3,4,9,10,11,12,37]),(10,[3,4,9,10,11]),(7,[3,4,9,10,11]),(4,[3,4,9,10]),(11,[8])],46,[]⟩
def r63:List CRes := [.tmp 8]
def c63:CCode :=
(.seq (.region [
 rs 4 (.box false (.tmp 0)),
 mI 8 0] (some [1,2,3,4]))
(.seq (.region [
 mV 13 1,
 rs 14 (.bin .mul (ci 720) (.tmp 13)),
 mV 9 14] (some [2,3,4,9]))
(.seq (.seq (.region [
 mV 15 2,
 rs 16 (.bin .add (.tmp 15) (ci 1)),
 mV 10 16] (some [3,4,9,10]))
(.block 0 (.loop (.seq (.seq (.region [
 mV 17 10,
 mV 18 3,
 rs 19 (.bin .leq (.tmp 17) (.tmp 18))] (some [3,4,9,10,19])) (.cond (.tmp 19) .skip (.exit 0))) (.seq (.block 1 (.seq (.region [
 mI 11 0] (some [3,4,9,10,11])) (.block 2 (.loop (.seq (.seq (.region [
 mV 22 11,
 fA 23 4 4,
 lD 24 23,
 rs 25 (.len (.tmp 24)),
 rs 26 (.bin .lss (.tmp 22) (.tmp 25))] (some [3,4,9,10,11,26])) (.cond (.tmp 26) .skip (.exit 2))) (.seq (.block 3 (.seq (.region [
 fA 29 4 4,
 lD 30 29,
 mV 31 11,
 iX 32 3 30 31,
 lS 33 3 32,
 rs 12 (.alloc [(.d (.int .i64 0)),(.d (.int .i64 0)),(.d (.int .i64 0))]),
 rn (.store 3 (.tmp 12) (.tmp 33))] (some [3,4,9,10,11,12])) (.seq (.region [
 fA 34 0 12,
 lD 35 34,
 mV 36 10,
 rs 37 (.bin .eql (.tmp 35) (.tmp 36))] (some [3,4,9,10,11,12,37])) (.cond (.tmp 37) (.region [
 mV 38 9,
 fA 39 1 12,
 lD 40 39,
 rs 41 (.bin .mul (.tmp 38) (.tmp 40)),
 fA 42 2 12,
 lD 43 42,
 rs 44 (.bin .quo (.tmp 41) (.tmp 43)),
 mV 9 44] (some [3,4,9,10,11]))
 .skip)))) (.region [
 mV 27 11,
 rs 28 (.bin .add (.tmp 27) (ci 1)),
 mV 11 28] (some [3,4,9,10,11])))))))) (.region [
 mV 20 10,
 rs 21 (.bin .add (.tmp 20) (ci 1)),
 mV 10 21] (some [3,4,9,10])))))))
(.seq (.region [
 mV 45 9,
 mV 8 45] (some [8]))
.ret))))
theorem k63:Try.f63.body.bind (compC Try.prog G63) = some c63 := by kernel_rfl
theorem e63:compRes Try.prog Try.f63.results.toList = some r63 := by kernel_rfl
def G22:Cfg := ⟨[],[(0,[2,3]),(1,[2,3,5]),(2,[2,3,5,9]),(3,[4]),(4,[2,3,14]),(5,[4]),(6,[18]),(7,[4]),(8,[4])],19,[]⟩
def r22:List CRes := [.tmp 4]
def c22:CCode :=
(.seq (.region [
 rs 2 (.box false (.tmp 0)),
 rs 3 (.box false (.tmp 1)),
 mI 4 0] (some [2,3]))
(.seq (.seq (.region [
 lS 6 6 2,
 kL1 7 34 6,
 mV 5 7] (some [2,3,5]))
(.seq (.region [
 mV 8 5,
 rs 9 (.bin .neq (.tmp 8) (ci 0))] (some [2,3,5,9]))
(.cond (.tmp 9) (.seq (.region [
 mV 10 5,
 mV 4 10] (some [4]))
 .ret)
 .skip)))
(.seq (.seq (.region [
 lS 11 6 2,
 lS 12 2 3,
 kL2 13 62 11 12,
 rs 14 (.un .not (.tmp 13))] (some [2,3,14]))
(.cond (.tmp 14) (.seq (.region [
 mI 4 2] (some [4]))
 .ret)
 .skip))
(.seq (.seq (.region [
 lS 15 6 2,
 lS 16 2 3,
 kL2 17 44 15 16,
 rs 18 (.un .not (.tmp 17))] (some [18]))
(.cond (.tmp 18) (.seq (.region [
 mI 4 11] (some [4]))
 .ret)
 .skip))
(.seq (.region [
 mI 4 0] (some [4]))
.ret)))))
theorem k22:Try.f22.body.bind (compC Try.prog G22) = some c22 := by kernel_rfl
theorem e22:compRes Try.prog Try.f22.results.toList = some r22 := by kernel_rfl
def G3:Cfg := ⟨[],[(0,[2,3,4]),(1,[2,3,4,16]),(2,[6]),(3,[2,3,4,7,8,9]),(4,[2,3,4,7,8,9,10]),(5,[2,3,4,7,8,9,10,37]),(6,[2,3,4,7,8,9,10]),(7,[2,3,4,7,8,9,10,39]),(8,[6]),(9,[7,8,9,11]),(10,[7,8,11,73]),(11,[6]),(12,[7,8,11,12]),(13,[7,8,11,12,77]),(15,[7,8,11,12,101]),(16,[6]),(14,[7,8,11,12]),(17,[6])],103,[]⟩
def r3:List CRes := [.tmp 6]
def c3:CCode :=
(.seq (.region [
 rs 3 (.box false (.tmp 0)),
 rs 4 (.box false (.tmp 1)),
 mB 6 false] (some [2,3,4]))
(.seq (.seq (.region [
 lS 13 6 3,
 lS 14 2 4,
 kL2 15 17 13 14,
 rs 16 (.un .not (.tmp 15))] (some [2,3,4,16]))
(.cond (.tmp 16) (.seq (.region [
 ⟨(some 17),none,.call (.func 18) []⟩,
 mV 6 17] (some [6]))
 .ret)
 .skip))
(.seq (.region [
 lS 19 6 3,
 lS 21 2 4,
 mV 23 2,
 ⟨(some 20),none,.callx (.func 20) [(.tmp 19)]⟩,
 ⟨(some 22),none,.callx (.func 21) [(.tmp 21)]⟩,
 kL3 24 19 20 22 23,
 mV 18 24,
 rs 25 (.extract (.tmp 18) 0),
 rs 26 (.extract (.tmp 18) 1),
 rs 27 (.extract (.tmp 18) 2),
 mV 7 25,
 mV 8 26,
 mV 9 27] (some [2,3,4,7,8,9]))
(.seq (.region [
 lS 28 6 3,
 lS 29 2 4,
 kL2 30 22 28 29,
 mV 10 30] (some [2,3,4,7,8,9,10]))
(.seq (.seq (.region [
 mV 31 10,
 rs 32 (.bin .eql (.tmp 31) (ci 0)),
 mV 33 32,
 qV 34 33 true 2,
 ⟨(some 35),(some (33,true)),.call (.func 23) [(.tmp 34),(ci 0),(ci 11)]⟩,
 rg 36 33 true (.un .not (.tmp 35)),
 pA 37 33 36] (some [2,3,4,7,8,9,10,37]))
(.cond (.tmp 37) (.region [
 mI 10 2] (some [2,3,4,7,8,9,10]))
 .skip))
(.seq (.seq (.region [
 mV 38 10,
 rs 39 (.bin .neq (.tmp 38) (ci 0))] (some [2,3,4,7,8,9,10,39]))
(.cond (.tmp 39) (.seq (.region [
 mV 40 9,
 mV 41 10,
 rs 42 (.bin .eql (.tmp 40) (.tmp 41)),
 mV 43 42,
 qV 44 43 true 7,
 rg 45 43 true (.len (.tmp 44)),
 qV 46 43 true 8,
 rg 47 43 true (.len (.tmp 46)),
 rg 48 43 true (.bin .add (.tmp 45) (.tmp 47)),
 rg 49 43 true (.bin .eql (.tmp 48) (ci 0)),
 pA 50 43 49,
 mV 51 50,
 ⟨(some 52),(some (51,true)),.call (.func 18) []⟩,
 pA 53 51 52,
 mV 6 53] (some [6]))
 .ret)
 .skip))
(.seq (.region [
 lS 54 6 3,
 lS 55 2 4,
 mV 56 2,
 kL3 57 24 54 55 56,
 mV 11 57] (some [7,8,9,11]))
(.seq (.seq (.region [
 mV 58 9,
 rs 59 (.bin .neq (.tmp 58) (ci 0)),
 mV 60 59,
 qV 61 60 false 7,
 rg 62 60 false (.len (.tmp 61)),
 qV 63 60 false 11,
 rg 64 60 false (.len (.tmp 63)),
 rg 65 60 false (.bin .neq (.tmp 62) (.tmp 64)),
 pO 66 60 65,
 mV 67 66,
 qV 68 67 false 8,
 rg 69 67 false (.len (.tmp 68)),
 qV 70 67 false 11,
 rg 71 67 false (.len (.tmp 70)),
 rg 72 67 false (.bin .neq (.tmp 69) (.tmp 71)),
 pO 73 67 72] (some [7,8,11,73]))
(.cond (.tmp 73) (.seq (.region [
 mB 6 false] (some [6]))
 .ret)
 .skip))
(.seq (.seq (.region [
 mI 12 0] (some [7,8,11,12]))
(.block 0 (.loop (.seq (.seq (.region [
 mV 74 12,
 mV 75 11,
 rs 76 (.len (.tmp 75)),
 rs 77 (.bin .lss (.tmp 74) (.tmp 76))] (some [7,8,11,12,77])) (.cond (.tmp 77) .skip (.exit 0))) (.seq (.block 1 (.seq (.region [
 mV 80 7,
 mV 81 12,
 iX 82 1 80 81,
 lD 83 82,
 mV 84 11,
 mV 85 12,
 iX 86 1 84 85,
 lD 87 86,
 rs 88 (.bin .quo (.tmp 87) (ci 720)),
 rs 89 (.bin .neq (.tmp 83) (.tmp 88)),
 mV 90 89,
 qV 91 90 false 8,
 qV 92 90 false 12,
 rg 93 90 false (.indexS 1 (.tmp 91) (.tmp 92)),
 qL 94 90 false 93,
 qV 95 90 false 11,
 qV 96 90 false 12,
 rg 97 90 false (.indexS 1 (.tmp 95) (.tmp 96)),
 qL 98 90 false 97,
 rg 99 90 false (.bin .rem (.tmp 98) (ci 720)),
 rg 100 90 false (.bin .neq (.tmp 94) (.tmp 99)),
 pO 101 90 100] (some [7,8,11,12,101])) (.cond (.tmp 101) (.seq (.region [
 mB 6 false] (some [6]))
 .ret)
 .skip))) (.region [
 mV 78 12,
 rs 79 (.bin .add (.tmp 78) (ci 1)),
 mV 12 79] (some [7,8,11,12])))))))
(.seq (.region [
 ⟨(some 102),none,.call (.func 18) []⟩,
 mV 6 102] (some [6]))
.ret))))))))))
theorem k3:Try.f3.body.bind (compC Try.prog G3) = some c3 := by kernel_rfl
theorem e3:compRes Try.prog Try.f3.results.toList = some r3 := by kernel_rfl
def G4:Cfg := ⟨[14],[(0,[2,3,4]),(1,[2,3,4,18]),(2,[6]),(3,[2,3,4,7,8]),(4,[2,3,4,7,8,9,10]),(5,[2,3,4,7,8,9,10,11,12]),(6,[2,3,4,7,8,9,10,11,12,13]),(7,[2,3,4,7,8,9,10,11,12,13,60]),(8,[2,3,4,7,8,9,10,11,12,13]),(9,[2,3,4,7,8,9,10,11,12,13,62]),(10,[6]),(11,[3,4,7,8,9,10,11,12,14]),(12,[6])],132,[]⟩
def r4:List CRes := [.tmp 6]
def c4:CCode :=
(.seq (.region [
 rs 3 (.box false (.tmp 0)),
 rs 4 (.box false (.tmp 1)),
 mB 6 false] (some [2,3,4]))
(.seq (.seq (.region [
 lS 15 6 3,
 lS 16 2 4,
 kL2 17 17 15 16,
 rs 18 (.un .not (.tmp 17))] (some [2,3,4,18]))
(.cond (.tmp 18) (.seq (.region [
 ⟨(some 19),none,.call (.func 18) []⟩,
 mV 6 19] (some [6]))
 .ret)
 .skip))
(.seq (.region [
 lS 21 6 3,
 lS 23 2 4,
 mV 25 2,
 ⟨(some 22),none,.callx (.func 20) [(.tmp 21)]⟩,
 ⟨(some 24),none,.callx (.func 21) [(.tmp 23)]⟩,
 kL3 26 25 22 24 25,
 mV 20 26,
 rs 27 (.extract (.tmp 20) 0),
 rs 28 (.extract (.tmp 20) 1),
 mV 7 27,
 mV 8 28] (some [2,3,4,7,8]))
(.seq (.region [
 lS 30 6 3,
 lS 32 2 4,
 mV 34 2,
 ⟨(some 31),none,.callx (.func 20) [(.tmp 30)]⟩,
 ⟨(some 33),none,.callx (.func 21) [(.tmp 32)]⟩,
 kL3 35 26 31 33 34,
 mV 29 35,
 rs 36 (.extract (.tmp 29) 0),
 rs 37 (.extract (.tmp 29) 1),
 mV 9 36,
 mV 10 37] (some [2,3,4,7,8,9,10]))
(.seq (.region [
 lS 39 6 3,
 lS 41 2 4,
 mV 43 2,
 ⟨(some 40),none,.callx (.func 20) [(.tmp 39)]⟩,
 ⟨(some 42),none,.callx (.func 21) [(.tmp 41)]⟩,
 kL3 44 27 40 42 43,
 mV 38 44,
 rs 45 (.extract (.tmp 38) 0),
 rs 46 (.extract (.tmp 38) 1),
 mV 11 45,
 mV 12 46] (some [2,3,4,7,8,9,10,11,12]))
(.seq (.region [
 lS 47 6 3,
 lS 48 2 4,
 kL2 49 22 47 48,
 mV 13 49] (some [2,3,4,7,8,9,10,11,12,13]))
(.seq (.seq (.region [
 mV 50 13,
 rs 51 (.bin .eql (.tmp 50) (ci 0)),
 mV 52 51,
 qV 53 52 true 2,
 qA 54 52 true 3 3,
 qL 55 52 true 54,
 rg 56 52 true (.len (.tmp 55)),
 rg 57 52 true (.bin .sub (.tmp 56) (ci 1)),
 ⟨(some 58),(some (52,true)),.call (.func 23) [(.tmp 53),(ci 0),(.tmp 57)]⟩,
 rg 59 52 true (.un .not (.tmp 58)),
 pA 60 52 59] (some [2,3,4,7,8,9,10,11,12,13,60]))
(.cond (.tmp 60) (.region [
 mI 13 2] (some [2,3,4,7,8,9,10,11,12,13]))
 .skip))
(.seq (.seq (.region [
 mV 61 13,
 rs 62 (.bin .neq (.tmp 61) (ci 0))] (some [2,3,4,7,8,9,10,11,12,13,62]))
(.cond (.tmp 62) (.seq (.region [
 mV 63 8,
 mV 64 13,
 rs 65 (.bin .eql (.tmp 63) (.tmp 64)),
 mV 66 65,
 qV 67 66 true 10,
 qV 68 66 true 13,
 rg 69 66 true (.bin .eql (.tmp 67) (.tmp 68)),
 pA 70 66 69,
 mV 71 70,
 qV 72 71 true 12,
 qV 73 71 true 13,
 rg 74 71 true (.bin .eql (.tmp 72) (.tmp 73)),
 pA 75 71 74,
 mV 76 75,
 qV 77 76 true 7,
 rg 78 76 true (.len (.tmp 77)),
 qV 79 76 true 9,
 rg 80 76 true (.len (.tmp 79)),
 rg 81 76 true (.bin .add (.tmp 78) (.tmp 80)),
 qV 82 76 true 11,
 rg 83 76 true (.len (.tmp 82)),
 rg 84 76 true (.bin .add (.tmp 81) (.tmp 83)),
 rg 85 76 true (.bin .eql (.tmp 84) (ci 0)),
 pA 86 76 85,
 mV 87 86,
 ⟨(some 88),(some (87,true)),.call (.func 18) []⟩,
 pA 89 87 88,
 mV 6 89] (some [6]))
 .ret)
 .skip))
(.seq (.region [
 fA 90 3 3,
 lD 91 90,
 mV 92 2,
 iX 93 3 91 92,
 lS 94 3 93,
 rs 14 (.alloc [(.d (.int .i64 0)),(.d (.int .i64 0)),(.d (.int .i64 0))]),
 rn (.store 3 (.tmp 14) (.tmp 94))] (some [3,4,7,8,9,10,11,12,14]))
(.seq (.region [
 mV 95 8,
 rs 96 (.bin .eql (.tmp 95) (ci 0)),
 mV 97 96,
 qV 98 97 true 7,
 rg 99 97 true (.load (some 6) (.tmp 3)),
 rg 100 97 true (.load (some 2) (.tmp 4)),
 rg 101 97 true (.load (some 3) (.tmp 14)),
 ⟨(some 102),(some (97,true)),.call (.func 29) [(.tmp 99),(.tmp 100),(.tmp 101)]⟩,
 ⟨(some 103),(some (97,true)),.call (.func 28) [(.tmp 98),(.tmp 102)]⟩,
 pA 104 97 103,
 mV 105 104,
 qV 106 105 true 10,
 rg 107 105 true (.bin .eql (.tmp 106) (ci 0)),
 pA 108 105 107,
 mV 109 108,
 qV 110 109 true 9,
 rg 111 109 true (.load (some 6) (.tmp 3)),
 rg 112 109 true (.load (some 2) (.tmp 4)),
 rg 113 109 true (.load (some 3) (.tmp 14)),
 ⟨(some 114),(some (109,true)),.call (.func 30) [(.tmp 111),(.tmp 112),(.tmp 113)]⟩,
 ⟨(some 115),(some (109,true)),.call (.func 28) [(.tmp 110),(.tmp 114)]⟩,
 pA 116 109 115,
 mV 117 116,
 qV 118 117 true 12,
 rg 119 117 true (.bin .eql (.tmp 118) (ci 0)),
 pA 120 117 119,
 mV 121 120,
 qV 122 121 true 11,
 rg 123 121 true (.load (some 6) (.tmp 3)),
 rg 124 121 true (.load (some 2) (.tmp 4)),
 rg 125 121 true (.load (some 3) (.tmp 14)),
 ⟨(some 126),(some (121,true)),.call (.func 31) [(.tmp 123),(.tmp 124),(.tmp 125)]⟩,
 ⟨(some 127),(some (121,true)),.call (.func 28) [(.tmp 122),(.tmp 126)]⟩,
 pA 128 121 127,
 mV 129 128,
 ⟨(some 130),(some (129,true)),.call (.func 18) []⟩,
 pA 131 129 130,
 mV 6 131] (some [6]))
.ret))))))))))
theorem k4:Try.f4.body.bind (compC Try.prog G4) = some c4 := by kernel_rfl
theorem e4:compRes Try.prog Try.f4.results.toList = some r4 := by kernel_rfl
end Go.Proofs.Ytdnefcjbcieecaa
namespace Go.Proofs.Ytdnefcjbcieecaa
open Go Go.Proofs
noncomputable section
theorem q113:FunIs Try.prog 113 G113 c113 r113 := ⟨Try.f113,Try.func113,k113,e113,by kernel_rfl,by kernel_rfl⟩
theorem q96:FunIs Try.prog 96 G96 c96 r96 := ⟨Try.f96,Try.func96,k96,e96,by kernel_rfl,by kernel_rfl⟩
theorem q93:FunIs Try.prog 93 G93 c93 r93 := ⟨Try.f93,Try.func93,k93,e93,by kernel_rfl,by kernel_rfl⟩
theorem q92:FunIs Try.prog 92 G92 c92 r92 := ⟨Try.f92,Try.func92,k92,e92,by kernel_rfl,by kernel_rfl⟩
theorem q58:FunIs Try.prog 58 G58 c58 r58 := ⟨Try.f58,Try.func58,k58,e58,by kernel_rfl,by kernel_rfl⟩
theorem q51:FunIs Try.prog 51 G51 c51 r51 := ⟨Try.f51,Try.func51,k51,e51,by kernel_rfl,by kernel_rfl⟩
def E113 (l:List Int) (m:Int) (k:Nat):Env := [(0,vsl eI l),(3,vi m),(4,vi ((k:Int) + 1))]
def minK (l:List Int):Nat → Int
 | 0 => lat l 0
 | k + 1 => min2 (minK l k) (lat l ((k:Int) + 1))
def leastL (l:List Int):Int := minK l (l.length - 1)
theorem w113 (l:List Int):sx X13 c113 [] (doneK r113) (envOf [vsl eI l]) [] [] =
  Tr.br (decide (Int.ofNat (List.length l) < (1:Int))) Tr.fail (Tr.need ((0:Int) ≤ (0:Int) ∧ (0:Int) < Int.ofNat (List.length l) ∧ okEl [0] (enc eI l) 1 (0:Int)) (Tr.lp (CCode.at c113 [1,1,1,0,1,0,0]) [Fr.blk 0,Fr.seq (CCode.at c113 [1,1,1,1])] [(0,V.d (D.sl false (List.length l) (enc eI l))),(3,V.d (D.int .i64 (cI (enc eI l) 1 (0:Int) 0))),(4,V.d (D.int .i64 (1:Int)))] [])) := by kernel_rfl
theorem b113 (l:List Int) (m:Int) (k:Nat):sx X13 (CCode.at c113 [1,1,1,0,1,0,0]) [] (bodyK r113) (E113 l m k) [] [] =
  let y0_ := (decide (Int.ofNat k + (1:Int) < Int.ofNat (List.length l)))
  let y1_ := (0,V.d (D.sl false (List.length l) (enc eI l)))
  let y2_ := (Int.ofNat k + (1:Int))
  Tr.br y0_ (Tr.need ((0:Int) ≤ Int.ofNat k + (1:Int) ∧ Int.ofNat k + (1:Int) < Int.ofNat (List.length l) ∧ okEl [0] (enc eI l) 1 y2_) (Tr.need (-9223372036854775808 ≤ Int.ofNat k + (1:Int) + (1:Int) ∧ Int.ofNat k + (1:Int) + (1:Int) ≤ 9223372036854775807) (Tr.leaf CExit.normal [y1_,(3,V.d (D.int .i64 (min2 m (cI (enc eI l) 1 y2_ 0)))),(4,V.d (D.int .i64 (Int.ofNat k + (1:Int) + (1:Int))))] []))) (Tr.leaf (CExit.exit 0) [y1_,(3,V.d (D.int .i64 m)),(4,V.d (D.int .i64 y2_)),(15,V.d (D.bool y0_))] []) := by kernel_rfl
theorem x113 (l:List Int) (m:Int) (u v:V):sS X13 (doneK r113) [Fr.blk 0,Fr.seq (CCode.at c113 [1,1,1,1])] (.exit 0) [(0,vsl eI l),(3,vi m),(4,u),(15,v)] [] [] =
  Tr.done (V.d (D.int .i64 m)) [] := by kernel_rfl
theorem y113 (l:List Int) (h0:0 < l.length) (hl:l.length ≤ 1000000):Yields Try.prog 113 [vsl eI l] (vi (leastL l)) := by
 refine q113.yieldsK X13_ok rfl rfl rfl (w113 l) ?_
 simp only [holds,Int.ofNat_eq_natCast,cI_I]
 refine ⟨fun h => ?_,fun _ => ⟨⟨by omega,by omega,ok_I (by simpa using h0)⟩, ?_⟩⟩
 ·have := of_decide_eq_true h; omega
 refine lp_countK X13_ok rfl (l.length - 1) (fun _ => True) (fun k => E113 l (minK l k) k) (fun _ => []) rfl rfl trivial (fun k _ => ⟨rfl,rfl,rfl⟩) ?_
 intro k hk _ Q' hn he
 rw [b113]
 simp only [holds,Int.ofNat_eq_natCast,cI_I]
 refine ⟨fun h1 => ?_,fun h1 => ?_⟩
 ·have hlt:k + 1 < l.length := by have := of_decide_eq_true h1; omega
  exact ⟨⟨by omega,by omega,ok_I (by omega)⟩,⟨by omega,by omega⟩,hn _ (by omega) trivial⟩
 ·have hge:k = l.length - 1 := by have := of_decide_eq_false h1; omega
  refine he _ _ _ (ret_tree X13_ok (doneK_ok rfl) (x113 _ _ _ _) ?_)
  simp only [holds]
  subst hge
  exact .refl _
def ent113:Ent := fun args _ => match args with
 | [.d (.sl false n cs)] => some (okL eI 1 gI n cs ∧ 0 < n ∧ n ≤ 1000000,vi (leastL (dec 1 gI n cs)),none)
 | _ => none
theorem ent113_ok:EntOk Try.prog 113 ent113 := by
 intro args h p v h' he hp
 unfold ent113 at he
 split at he
 ·cases he; rw [okL_vsl hp.1]; exact y113 _ (by rw [dec_len]; exact hp.2.1) (by rw [dec_len]; exact hp.2.2) h
 ·cases he
def tab14:Spec := (spAdd 113 ent113 tab13)
theorem tab14_ok:SpOk Try.prog tab14 := (spAdd_ok ent113_ok tab13_ok)
def X14:Sx := mkX tab14
theorem X14_ok:SpOk Try.prog X14.sp := tab14_ok
theorem w96 (l:List Int) (h0:0 < l.length) (hl:l.length ≤ 1000000):sx X14 c96 [] (doneF 0 r96) (envOf [vsl eI l]) [] [] =
  Tr.need (okL eI 1 gI (List.length l) (enc eI l) ∧ 0 < List.length l ∧ List.length l ≤ 1000000) (Tr.done (V.d (D.int .i64 (leastL (dec 1 gI (List.length l) (enc eI l))))) []) := by kernel_rfl
theorem y96 (l:List Int) (h0:0 < l.length) (hl:l.length ≤ 1000000):Yields Try.prog 96 [vsl eI l] (vi (leastL l)) := by
 refine q96.yields X14_ok rfl rfl rfl (w96 l h0 hl) ?_
 simp only [holds]
 simp only [okL_I,dec_I]
 exact ⟨⟨by omega,h0,hl⟩,.refl _⟩
def ent96:Ent := fun args _ => match args with
 | [.d (.sl false n cs)] => some (okL eI 1 gI n cs ∧ 0 < n ∧ n ≤ 1000000,vi (leastL (dec 1 gI n cs)),none)
 | _ => none
theorem ent96_ok:EntOk Try.prog 96 ent96 := by
 intro args h p v h' he hp
 unfold ent96 at he
 split at he
 ·cases he; rw [okL_vsl hp.1]; exact y96 _ (by rw [dec_len]; exact hp.2.1) (by rw [dec_len]; exact hp.2.2) h
 ·cases he
def ent60:Ent := fun args h => match args,asW h with
 | [.ptr 1 0 0,x,.d (.int .i64 n)],some (c,km,rest) => match asU x with
  | some t => some (h = Wk c km rest ∧ Uv t = x ∧ faultM c = 0 ∧ t.sold.length = c.trades.length ∧ t.deliv.length = c.trades.length ∧ kmOk c km,.agg (cells4 (heldF c t n)),some (putW h (kmT c t n km c.trades.length)))
  | none => none
 | _,_ => none
theorem ent60_ok:EntOk Try.prog 60 ent60 := by
 intro args h p v h' he hp
 unfold ent60 at he
 split at he
 ·rename_i x n c km rest hw
  split at he
  ·cases he
   obtain ⟨h1,rfl,h3,h4,h5,h6⟩ := hp
   subst h1
   exact more_W rfl rfl (a60 c _ n km h3 h4 h5 h6) rest
  ·cases he
 ·cases he
def datK (c:Cmp) (t:Tru) (k:Nat):Bool := (lat c.trades k).sold.has (lat t.sold k) && (lat c.trades k).deliv.has (lat t.deliv k) && decide (lat t.sold k ≤ lat t.deliv k)
def datedB (c:Cmp) (t:Tru):Bool := decide (t.sold.length = c.trades.length ∧ t.deliv.length = c.trades.length ∧ ∀ k,k < c.trades.length → datK c t k = true)
def E92 (c:Cmp) (t:Tru) (k:Nat):Env := [(3,.rptr (Uds t) 0),(24,.d (dsl eT c.trades)),(25,vi c.trades.length),(26,vi k)]
theorem w92 (c:Cmp) (t:Tru):sx X13 c92 [] (doneK r92) (envOf [Cv c,Uv t]) [] [] =
  let y0_ := (List.length (Cmp.trades c))
  Tr.br (Int.ofNat (List.length (Tru.sold t)) != Int.ofNat y0_) (Tr.done (V.d (D.bool false)) []) (Tr.br (Int.ofNat (List.length (Tru.deliv t)) != Int.ofNat y0_) (Tr.done (V.d (D.bool false)) []) (Tr.lp (CCode.at c92 [1,1,0,1,0,0]) [Fr.blk 0,Fr.seq (CCode.at c92 [1,1,1])] [(3,V.rptr (Uds t) 0),(24,V.d (D.sl false y0_ (enc eT (Cmp.trades c)))),(25,V.d (D.int .i64 (Int.ofNat y0_))),(26,V.d (D.int .i64 0))] [])) := by kernel_rfl
theorem b92 (c:Cmp) (t:Tru) (k:Nat):sx X13 (CCode.at c92 [1,1,0,1,0,0]) [] (bodyK r92) (E92 c t k) [] [] =
  let x1_ := (List.length (Cmp.trades c))
  let x2_ := (decide (Int.ofNat k < Int.ofNat x1_))
  let y3_ := (enc eI (Tru.sold t))
  let x3_ := ((0:Int) ≤ Int.ofNat k ∧ Int.ofNat k < Int.ofNat (List.length (Tru.sold t)) ∧ okEl [0] y3_ 1 (Int.ofNat k))
  let y2_ := (enc eI (Tru.deliv t))
  let x4_ := ((0:Int) ≤ Int.ofNat k ∧ Int.ofNat k < Int.ofNat (List.length (Tru.deliv t)) ∧ okEl [0] y2_ 1 (Int.ofNat k))
  let y0_ := (enc eT (Cmp.trades c))
  let y1_ := (Tr.done (V.d (D.bool false)) [])
  let y4_ := (25,V.d (D.int .i64 (Int.ofNat x1_)))
  Tr.br x2_ (Tr.need ((0:Int) ≤ Int.ofNat k ∧ Int.ofNat k < Int.ofNat x1_ ∧ okEl [0,0,0,0,0,0,0] y0_ 7 (Int.ofNat k)) (Tr.need x3_ (Tr.need True (Tr.br (!Rng.has { lo := cI y0_ 7 (Int.ofNat k) 3,hi := cI y0_ 7 (Int.ofNat k) 4 } (cI y3_ 1 (Int.ofNat k) 0)) y1_ (Tr.need x4_ (Tr.need True (Tr.br (!Rng.has { lo := cI y0_ 7 (Int.ofNat k) 5,hi := cI y0_ 7 (Int.ofNat k) 6 } (cI y2_ 1 (Int.ofNat k) 0)) y1_ (Tr.need x4_ (Tr.need x3_ (Tr.br (decide (cI y2_ 1 (Int.ofNat k) 0 < cI y3_ 1 (Int.ofNat k) 0)) y1_ (Tr.need (-9223372036854775808 ≤ Int.ofNat k + (1:Int) ∧ Int.ofNat k + (1:Int) ≤ 9223372036854775807) (Tr.leaf CExit.normal [(3,V.rptr (Uds t) 0),(24,V.d (D.sl false x1_ y0_)),y4_,(26,V.d (D.int .i64 (Int.ofNat k + (1:Int))))] [some (Blk.box [V.d (D.int .i64 (cI y0_ 7 (Int.ofNat k) 0)),V.d (D.int .i64 (cI y0_ 7 (Int.ofNat k) 1)),V.d (D.int .i64 (cI y0_ 7 (Int.ofNat k) 2)),V.d (D.int .i64 (cI y0_ 7 (Int.ofNat k) 3)),V.d (D.int .i64 (cI y0_ 7 (Int.ofNat k) 4)),V.d (D.int .i64 (cI y0_ 7 (Int.ofNat k) 5)),V.d (D.int .i64 (cI y0_ 7 (Int.ofNat k) 6))])])))))))))))) (Tr.leaf (CExit.exit 0) [(3,V.rptr (Uds t) 0),(24,V.d (D.sl false x1_ y0_)),y4_,(26,V.d (D.int .i64 (Int.ofNat k))),(27,V.d (D.bool x2_))] []) := by kernel_rfl
theorem x92 (u x v w z:V):sS X13 (doneK r92) [Fr.blk 0,Fr.seq (CCode.at c92 [1,1,1])] (.exit 0) [(3,x),(24,u),(25,v),(26,w),(27,z)] [] [] =
  Tr.done (V.d (D.bool true)) [] := by kernel_rfl
theorem y92 (c:Cmp) (t:Tru) (hl:c.trades.length ≤ 1000000):Yields Try.prog 92 [Cv c,Uv t] (vb (datedB c t)) := by
 refine q92.yieldsK X13_ok rfl rfl rfl (w92 c t) ?_
 simp only [holds,Int.ofNat_eq_natCast]
 have hno:datedB c t = false → VLe (V.d (.bool false)) (vb (datedB c t)) := fun h => .of_eq (congrArg vb h.symm)
 refine ⟨fun h => hno ?_,fun h1 => ⟨fun h => hno ?_,fun h2 => ?_⟩⟩
 ·simp [datedB]; intro h2; simp [h2] at h
 ·simp [datedB]; intro _ h2; simp [h2] at h
 have l1:t.sold.length = c.trades.length := by simp at h1; omega
 have l2:t.deliv.length = c.trades.length := by simp at h2; omega
 refine lp_countK X13_ok rfl c.trades.length (fun k => ∀ j,j < k → datK c t j = true) (E92 c t) (fun _ => []) rfl rfl (fun j hj => by omega) (fun k _ => ⟨rfl,rfl,rfl⟩) ?_
 intro k hk hA Q' hn he
 rw [b92]
 simp only [holds,Int.ofNat_eq_natCast,cI_I,cI_T3,cI_T4,cI_T5,cI_T6,true_and]
 refine ⟨fun h1 => ?_,fun h1 => ?_⟩
 ·have hlt:k < c.trades.length := by have := of_decide_eq_true h1; omega
  have hf1:datK c t k = false → VLe (V.d (.bool false)) (vb (datedB c t)) := fun h => hno (by
   simp only [datedB,decide_eq_false_iff_not]
   intro ⟨_,_,h4⟩
   rw [h4 k hlt] at h; cases h)
  have hn1:datK c t k = true → ∀ J,_ := fun h J => hn J hlt (step_all hA h)
  have o1:okEl [0,0,0,0,0,0,0] (enc eT c.trades) 7 (k:Nat) := ok_T (by simpa using hlt)
  have o2:okEl [0] (enc eI t.deliv) 1 (k:Nat) := ok_I (by simp; omega)
  have o3:okEl [0] (enc eI t.sold) 1 (k:Nat) := ok_I (by simp; omega)
  repeat' (first | (refine And.intro ?_ ?_) | (refine fun (_:_ = _) => ?_))
  all_goals first
   | omega
   | assumption
   | exact hf1 (by simp_all [datK])
   | exact hn1 (by simp_all [datK]) _
 ·have hge:k = c.trades.length := by have := of_decide_eq_false h1; omega
  refine he _ _ _ (ret_tree X13_ok (doneK_ok rfl) (x92 _ _ _ _ _) ?_)
  simp only [holds]
  refine .of_eq (congrArg vb ?_)
  simp only [datedB]
  exact (decide_eq_true ⟨l1,l2,fun j hj => hA j (by omega)⟩).symm
def ent92 := entCU (fun c _ => c.trades.length ≤ 1000000) (fun c t => vb (datedB c t))
theorem ent92_ok:EntOk Try.prog 92 ent92 := entCU_ok fun c t h => y92 c t h
def tab15:Spec := (spAdd 92 ent92 (spAdd 60 ent60 (spAdd 96 ent96 tab14)))
theorem tab15_ok:SpOk Try.prog tab15 := (spAdd_ok ent92_ok (spAdd_ok ent60_ok (spAdd_ok ent96_ok tab14_ok)))
def X15:Sx := mkX tab15
theorem X15_ok:SpOk Try.prog X15.sp := tab15_ok
theorem w93 (c:Cmp) (t:Tru) (km:List (Int × Int × Int)):sx X15 c93 [] (doneK r93) (envOf [.ptr 1 0 0,Uv t]) [] (Wk c km []) =
  let y0_ := (D.int .i64 0)
  Tr.lp (CCode.at c93 [1,1,0,1,0,0]) [Fr.blk 0,Fr.seq (CCode.at c93 [1,1,1])] [(0,V.ptr 1 0 0),(3,V.rptr (Uds t) 0),(5,V.ptr 2 0 0),(8,V.d y0_)] [some (Blk.map (List.map entE km)),some (Blk.box [V.d (D.int .i64 (Cmp.houses c)),V.d (D.sl false (List.length (Cmp.held c)) (enc eI (Cmp.held c))),V.d (D.sl false (List.length (Cmp.trades c)) (enc eT (Cmp.trades c))),V.d (D.sl false (List.length (Cmp.divs c)) (enc eV (Cmp.divs c))),V.d (D.sl false (List.length (Cmp.splits c)) (enc eS (Cmp.splits c))),V.d (D.sl false (List.length (Cmp.closed c)) (enc eR (Cmp.closed c))),V.mp 0]),some (Blk.box [V.d y0_,V.d y0_,V.d y0_,V.d y0_])] := by kernel_rfl
def E93 (t:Tru) (k:Nat):Env := [(0,.ptr 1 0 0),(3,.rptr (Uds t) 0),(5,.ptr 2 0 0),(8,vi k)]
theorem b93 (c:Cmp) (t:Tru) (km:List (Int × Int × Int)) (k:Nat) (f:Nat → Int):sx X15 (CCode.at c93 [1,1,0,1,0,0]) [] leafK (E93 t k) [] (Wk c km [some (.box (cells4 f))]) =
  let x1_ := (decide (Int.ofNat k < (12:Int)))
  let x2_ := [some (Blk.box (cells4 f))]
  let x3_ := (heldF (dCe c) (dUe t) (Int.ofNat k) 0)
  let x4_ := (heldF (dCe c) (dUe t) (Int.ofNat k) 1)
  let x5_ := (heldF (dCe c) (dUe t) (Int.ofNat k) 2)
  let x6_ := (heldF (dCe c) (dUe t) (Int.ofNat k) 3)
  let x7_ := [D.int .i64 x3_,D.int .i64 x4_,D.int .i64 x5_,D.int .i64 x6_]
  let x8_ := [D.int .i64 (f 0),D.int .i64 (f 1),D.int .i64 (f 2),D.int .i64 (f 3)]
  let x9_ := (-9223372036854775808 ≤ Int.ofNat k + (1:Int) ∧ Int.ofNat k + (1:Int) ≤ 9223372036854775807)
  let y1_ := (List.map entE km)
  let y2_ := (Cmp.trades (dCe c))
  let x10_ := (Blk.map (List.map entE (kmT (dCe c) (dUe t) (Int.ofNat k) (dK y1_) (List.length y2_))))
  let x11_ := (Blk.box [V.d (D.int .i64 (Cmp.houses c)),V.d (D.sl false (List.length (Cmp.held c)) (enc eI (Cmp.held c))),V.d (D.sl false (List.length (Cmp.trades c)) (enc eT (Cmp.trades c))),V.d (D.sl false (List.length (Cmp.divs c)) (enc eV (Cmp.divs c))),V.d (D.sl false (List.length (Cmp.splits c)) (enc eS (Cmp.splits c))),V.d (D.sl false (List.length (Cmp.closed c)) (enc eR (Cmp.closed c))),V.mp 0])
  let x12_ := (Blk.box [V.d (D.int .i64 (f 0)),V.d (D.int .i64 (f 1)),V.d (D.int .i64 (f 2)),V.d (D.int .i64 (f 3))])
  let x13_ := (Blk.box [V.d (D.int .i64 x3_),V.d (D.int .i64 x4_),V.d (D.int .i64 x5_),V.d (D.int .i64 x6_)])
  let x14_ := (Int.toNat (Int.ofNat 4) - Int.toNat (0:Int))
  let x15_ := (List.take (x14_ * 1) (List.drop (0 + Int.toNat (0:Int) * 1) x7_))
  let y0_ := [(0,V.ptr 1 0 0),(3,V.rptr (Uds t) 0),(5,V.ptr 2 0 0),(8,V.d (D.int .i64 (Int.ofNat k + (1:Int))))]
  Tr.br x1_ (Tr.need (Wk c km x2_ = Wk (dCe c) (dK y1_) x2_ ∧ Uv (dUe t) = Uv t ∧ faultM (dCe c) = (0:Int) ∧ List.length (Tru.sold (dUe t)) = List.length y2_ ∧ List.length (Tru.deliv (dUe t)) = List.length y2_ ∧ kmOk (dCe c) (dK y1_)) (Tr.need (DP.P (dp True)) (Tr.br (if false = true then !eqDs x7_ x8_ else eqDs x7_ x8_) (Tr.need x9_ (Tr.leaf CExit.normal y0_ [some x10_,some x11_,some x12_,some x13_])) (Tr.need ((0:Int) ≤ (0:Int) ∧ (0:Int) ≤ Int.ofNat 4 ∧ Int.ofNat 4 ≤ Int.ofNat 4 ∧ 0 + 4 * 1 ≤ List.length x7_) (Tr.need (okL eI 1 gI x14_ x15_ ∧ 0 < Int.toNat (Int.ofNat 4) - Int.toNat (0:Int) ∧ Int.toNat (Int.ofNat 4) - Int.toNat (0:Int) ≤ 1000000) (Tr.br (decide (leastL (dec 1 gI x14_ x15_) < (0:Int))) (Tr.leaf CExit.ret [(4,V.d (D.bool false))] [some x10_,some x11_,some x12_,none]) (Tr.need x9_ (Tr.leaf CExit.normal y0_ [some x10_,some x11_,some x13_,none])))))))) (Tr.leaf (CExit.exit 0) [(0,V.ptr 1 0 0),(3,V.rptr (Uds t) 0),(5,V.ptr 2 0 0),(8,V.d (D.int .i64 (Int.ofNat k))),(9,V.d (D.bool x1_))] [some (Blk.map y1_),some x11_,some x12_]) := by kernel_rfl
theorem x93 (u x y v w:V) (h:Heap):sS X15 (doneK r93) [Fr.blk 0,Fr.seq (CCode.at c93 [1,1,1])] (.exit 0) [(0,x),(3,y),(5,u),(8,v),(9,w)] [] h =
  Tr.done (V.d (D.bool true)) h := by kernel_rfl
theorem t93 (b:Bool) (h:Heap):sS X15 (doneK r93) [Fr.blk 0,Fr.seq (CCode.at c93 [1,1,1])] .ret [(4,vb b)] [] h =
  Tr.done (V.d (D.bool b)) h := by kernel_rfl
def fitsB (c:Cmp) (t:Tru):Bool := @decide (∀ j:Nat,j < 12 → ∀ i,i < 4 → 0 ≤ heldF c t j i) (Classical.propDecidable _)
def kmF (c:Cmp) (t:Tru) (km:List (Int × Int × Int)):Nat → List (Int × Int × Int)
 | 0 => km
 | k + 1 => kmT c t (k:Nat) (kmF c t km k) c.trades.length
theorem kmF_ok {c:Cmp} {km:List (Int × Int × Int)} (h:kmOk c km) (t:Tru):∀ k,kmOk c (kmF c t km k)
 | 0 => h
 | k + 1 => kmT_ok (kmF_ok h t k) t _ _
def bef (c:Cmp) (t:Tru):Nat → Nat → Int
 | 0 => fun _ => 0
 | k + 1 => heldF c t (k:Nat)
theorem least4 (a b c d:Int):leastL (dec 1 gI (Int.toNat (Int.ofNat 4) - Int.toNat 0) (List.take ((Int.toNat (Int.ofNat 4) - Int.toNat 0) * 1) (List.drop (0 + Int.toNat 0 * 1) [D.int .i64 a,D.int .i64 b,D.int .i64 c,D.int .i64 d]))) = min2 (min2 (min2 a b) c) d := rfl
theorem okL4 (a b c d:Int):okL eI 1 gI (Int.toNat (Int.ofNat 4) - Int.toNat 0) (List.take ((Int.toNat (Int.ofNat 4) - Int.toNat 0) * 1) (List.drop (0 + Int.toNat 0 * 1) [D.int .i64 a,D.int .i64 b,D.int .i64 c,D.int .i64 d])) := ⟨rfl,by decide⟩
theorem min2_le (a b:Int):min2 a b ≤ a ∧ min2 a b ≤ b := by unfold min2; split <;> omega
theorem lt4 {p:Nat → Prop} (h0:p 0) (h1:p 1) (h2:p 2) (h3:p 3):∀ i,i < 4 → p i := fun i h => by
 match i,h with
 | 0,_ => exact h0
 | 1,_ => exact h1
 | 2,_ => exact h2
 | 3,_ => exact h3
theorem a93 (c:Cmp) (t:Tru) (km:List (Int × Int × Int)) (hf:faultM c = 0) (hs:t.sold.length = c.trades.length) (hd:t.deliv.length = c.trades.length) (hkm:kmOk c km) :
  ACalls Try.prog 93 [.ptr 1 0 0,Uv t] (Wk c km []) fun v h' => v = vb (fitsB c t) ∧ ∃ k J,(fitsB c t = true → k = 12) ∧ h' = Wk c (kmF c t km k) J := by
 refine q93.calls X15_ok (h := Wk c km []) rfl (w93 c t km) ?_
 simp only [holds]
 refine lp_count X15_ok 12 (fun k => ∀ j,j < k → ∀ i,i < 4 → 0 ≤ heldF c t (j:Nat) i) (E93 t) (fun k => Wk c (kmF c t km k) [some (.box (cells4 (bef c t k)))]) rfl rfl (fun j hj => by omega) (fun k _ => ⟨rfl,rfl,Wk_belr _ _ _ 3 (by decide) rfl⟩) ?_
 intro k hk hA Q' hn he hr
 rw [b93]
 simp only [holds,least4,Int.ofNat_eq_natCast,dCe,dC_enc,dUe,dU_enc,dK_map,true_and]
 refine ⟨fun h1 => ?_,fun h1 => ?_⟩
 ·have hlt:k < 12 := by have := of_decide_eq_true h1; omega
  refine ⟨⟨hf,hs,hd,kmF_ok hkm t k⟩,fun h2 => ⟨by omega, ?_⟩,fun h2 => ⟨by simp,⟨okL4 _ _ _ _,by decide,by decide⟩,fun h3 => ?_,fun h3 => ⟨by omega, ?_⟩⟩⟩
  ·have h2' : eqDs [D.int .i64 (heldF c t (k:Nat) 0),D.int .i64 (heldF c t (k:Nat) 1),D.int .i64 (heldF c t (k:Nat) 2),D.int .i64 (heldF c t (k:Nat) 3)] [D.int .i64 (bef c t k 0),D.int .i64 (bef c t k 1),D.int .i64 (bef c t k 2),D.int .i64 (bef c t k 3)] = true := h2
   simp only [eqDs,eqD,Bool.and_eq_true,beq_iff_eq,true_and,and_true] at h2'
   obtain ⟨e0,e1,e2,e3⟩ := h2'
   have hb:∀ i,i < 4 → 0 ≤ bef c t k i := by
    cases k with
    | zero => intro i _; exact Int.le_refl _
    | succ k => exact hA k (by omega)
   have hnn:∀ i,i < 4 → 0 ≤ heldF c t (k:Nat) i := lt4 (p := fun i => 0 ≤ heldF c t (k:Nat) i) (e0 ▸ hb 0 (by decide)) (e1 ▸ hb 1 (by decide)) (e2 ▸ hb 2 (by decide)) (e3 ▸ hb 3 (by decide))
   have hc:cells4 (bef c t k) = cells4 (heldF c t (k:Nat)) := by simp only [cells4,e0,e1,e2,e3]
   have := hn [some (.box (cells4 (heldF c t (k:Nat))))] hlt (step_all hA hnn)
   simp only [kmF,bef] at this
   rw [← hc] at this
   rw [e0,e1,e2,e3]
   exact this
  ·refine hr _ _ (ret_tree X15_ok (doneK_ok rfl) (t93 false _) ?_)
   simp only [holds]
   have hfb:fitsB c t = false := by
    simp only [fitsB,decide_eq_false_iff_not]
    intro h
    have hm:min2 (min2 (min2 (heldF c t (k:Nat) 0) (heldF c t (k:Nat) 1)) (heldF c t (k:Nat) 2)) (heldF c t (k:Nat) 3) < 0 := of_decide_eq_true h3
    have g := h k hlt
    have g0 := g 0 (by decide); have g1 := g 1 (by decide); have g2 := g 2 (by decide); have g3 := g 3 (by decide)
    unfold min2 at hm
    split at hm <;> split at hm <;> split at hm <;> omega
   refine ⟨by rw [hfb]; rfl,k + 1,_,fun h => ?_,rfl⟩
   rw [hfb] at h; cases h
  ·have hm:¬ min2 (min2 (min2 (heldF c t (k:Nat) 0) (heldF c t (k:Nat) 1)) (heldF c t (k:Nat) 2)) (heldF c t (k:Nat) 3) < 0 := of_decide_eq_false h3
   have m1 := min2_le (min2 (min2 (heldF c t (k:Nat) 0) (heldF c t (k:Nat) 1)) (heldF c t (k:Nat) 2)) (heldF c t (k:Nat) 3)
   have m2 := min2_le (min2 (heldF c t (k:Nat) 0) (heldF c t (k:Nat) 1)) (heldF c t (k:Nat) 2)
   have m3 := min2_le (heldF c t (k:Nat) 0) (heldF c t (k:Nat) 1)
   exact hn [none] hlt (step_all hA (lt4 (p := fun i => 0 ≤ heldF c t (k:Nat) i) (by omega) (by omega) (by omega) (by omega)))
 ·have hge:k = 12 := by have := of_decide_eq_false h1; omega
  subst hge
  refine he _ _ _ (ret_tree X15_ok (doneK_ok rfl) (x93 _ _ _ _ _ _) ?_)
  simp only [holds]
  have hfb:fitsB c t = true := by
   simp only [fitsB,decide_eq_true_eq]
   exact hA
  exact ⟨by rw [hfb]; rfl,12,_,fun _ => rfl,rfl⟩
theorem dated_len {c:Cmp} {t:Tru} (h:datedB c t = true):t.sold.length = c.trades.length ∧ t.deliv.length = c.trades.length := by
 have := of_decide_eq_true h
 exact ⟨this.1,this.2.1⟩
def askE (c:Cmp) (t:Tru):Int := if faultM c ≠ 0 then faultM c else if datedB c t = false then 2 else if fitsB c t = false then 11 else 0
def ent72:Ent := fun args h => match args,h with
 | [x],[] => match asC x with
  | some c => some (Cv c = x,.ptr 1 0 0,some (Wk c [] []))
  | none => none
 | _,_ => none
theorem ent72_ok:EntOk Try.prog 72 ent72 := by
 intro args h p v h' he hp
 unfold ent72 at he
 split at he
 ·split at he
  ·cases he; rw [← hp]; exact a72 _
  ·cases he
 ·cases he
def tab16:Spec := (spAdd 72 ent72 tab15)
theorem tab16_ok:SpOk Try.prog tab16 := (spAdd_ok ent72_ok tab15_ok)
def X58:Sx := { sp := tab16,md := fun k => bif Nat.beq k 23 then 1 else 0,sh := shI }
theorem X58_ok:SpOk Try.prog X58.sp := tab16_ok
theorem w58 (c:Cmp) (t:Tru):sx X58 c58 [] (doneK r58) (envOf [Cv c,Uv t]) [] [] =
  let y1_ := (Cmp.trades (dCe c))
  let y0_ := [some (Blk.map []),some (Blk.box [V.d (D.int .i64 (Cmp.houses (dCe c))),V.d (D.sl false (List.length (Cmp.held (dCe c))) (enc eI (Cmp.held (dCe c)))),V.d (D.sl false (List.length y1_) (enc eT y1_)),V.d (D.sl false (List.length (Cmp.divs (dCe c))) (enc eV (Cmp.divs (dCe c)))),V.d (D.sl false (List.length (Cmp.splits (dCe c))) (enc eS (Cmp.splits (dCe c)))),V.d (D.sl false (List.length (Cmp.closed (dCe c))) (enc eR (Cmp.closed (dCe c)))),V.mp 0])]
  Tr.need (Cv (dCe c) = Cv c ∧ True) (Tr.br (faultM (dCe c) != (0:Int)) (Tr.done (V.tup [V.d D.nilp,V.d (D.int .i64 (faultM (dCe c)))]) []) (Tr.need (Cv (dCe c) = Cv c) (Tr.need (Cv (dCe c) = Cv c ∧ Uv (dUe t) = Uv t ∧ List.length y1_ ≤ 1000000) (Tr.br (!datedB (dCe c) (dUe t)) (Tr.done (V.tup [V.d D.nilp,V.d (D.int .i64 (2:Int))]) y0_) (Tr.clB false (V.d (D.fn (Fn.func 93))) [V.ptr 1 0 0,Uv t] y0_ fun b h' => Tr.br (!b) (Tr.done (V.tup [V.d D.nilp,V.d (D.int .i64 (11:Int))]) h') (Tr.done (V.tup [V.ptr 1 0 0,V.d (D.int .i64 0)]) h')))))) := by kernel_rfl
def Asked (c:Cmp) (t:Tru) (v:V) (h' : Heap):Prop := (askE c t ≠ 0 ∧ v = .tup [.d .nilp,vi (askE c t)] ∧ h' = []) ∨ (askE c t = 0 ∧ v = .tup [.ptr 1 0 0,vi 0] ∧ h' = Wk c (kmF c t [] 12) [])
theorem a58 (c:Cmp) (t:Tru):ACalls Try.prog 58 [Cv c,Uv t] [] (Asked c t) := by
 refine ACalls.cutAt (ACalls.mono (R := fun v h' => (askE c t ≠ 0 ∧ v = .tup [.d .nilp,vi (askE c t)]) ∨ (askE c t = 0 ∧ v = .tup [.ptr 1 0 0,vi 0] ∧ ∃ J,h' = Wk c (kmF c t [] 12) J)) ?_ ?_)
 ·refine q58.calls X58_ok (h := []) rfl (w58 c t) ?_
  simp only [holds,dCe,dC_enc,dUe,dU_enc,true_and,and_true]
  refine ⟨fun h1 => ?_,fun h1 => ?_⟩
  ·have h1:faultM c ≠ 0 := by simpa using h1
   have e:askE c t = faultM c := by simp [askE,h1]
   rw [e]
   exact .inl ⟨h1,rfl⟩
  ·have h1:faultM c = 0 := by simpa using h1
   have hb := (fault_ok h1).1
   refine ⟨by omega,fun h2 => ?_,fun h2 => ?_⟩
   ·have h2:datedB c t = false := by simpa using h2
    have e:askE c t = 2 := by simp [askE,h1,h2]
    rw [e]
    exact .inl ⟨by decide,rfl⟩
   ·have h2:datedB c t = true := by simpa using h2
    obtain ⟨l1,l2⟩ := dated_len h2
    refine callV_holds ?_ (a93 c t [] h1 l1 l2 (kmOk_nil c))
    rintro v h' ⟨rfl,k,J,hk,rfl⟩
    refine ⟨fitsB c t,rfl,fun e => (by cases e),fun h3 => ?_,fun h3 => ?_⟩
    ·have h3:fitsB c t = false := by simpa using h3
     have e:askE c t = 11 := by simp [askE,h1,h2,h3]
     rw [e]
     exact .inl ⟨by decide,rfl⟩
    ·have h3:fitsB c t = true := by simpa using h3
     have e:askE c t = 0 := by simp [askE,h1,h2,h3]
     rw [hk h3]
     exact .inr ⟨e,rfl,J,rfl⟩
 ·rintro v h' (⟨h1,rfl⟩ | ⟨h1,rfl,J,rfl⟩)
  ·exact ⟨0,Nat.le_refl _,Nat.zero_le _,rfl,by simp,.inl ⟨h1,rfl,by simp⟩⟩
  ·refine ⟨2,by decide,by simp [Wk],rfl, ?_,.inr ⟨h1,rfl,rfl⟩⟩
   exact Wk_bel c _ 2 (by decide)
def alt58:FuncId → List V → Heap → Option ((V × Heap) × (V × Heap)) := fun f args h => bif Nat.beq f 58 then match args,h with
 | [x,y],[] => match asC x,asU y with
  | some c,some t => some ((.tup [.d .nilp,vi (askE c t)],[]),(.tup [.ptr 1 0 0,vi 0],Wk c (kmF c t [] 12) []))
  | _,_ => none
 | _,_ => none else none
def X51:Sx := { sp := tab16,md := fun k => bif Nat.beq k 10 then 4 else 0,sh := shI,alt := alt58 }
theorem X51_ok:SpOk Try.prog X51.sp := tab16_ok
theorem w51 (c:Cmp) (t:Tru):sx X51 c51 [] (doneK r51) (envOf [Cv c,Uv t]) [] [] =
  let y0_ := [some (Blk.map (List.map entE (kmF (dCe c) (dUe t) [] 12))),some (Blk.box [V.d (D.int .i64 (Cmp.houses (dCe c))),V.d (D.sl false (List.length (Cmp.held (dCe c))) (enc eI (Cmp.held (dCe c)))),V.d (D.sl false (List.length (Cmp.trades (dCe c))) (enc eT (Cmp.trades (dCe c)))),V.d (D.sl false (List.length (Cmp.divs (dCe c))) (enc eV (Cmp.divs (dCe c)))),V.d (D.sl false (List.length (Cmp.splits (dCe c))) (enc eS (Cmp.splits (dCe c)))),V.d (D.sl false (List.length (Cmp.closed (dCe c))) (enc eR (Cmp.closed (dCe c)))),V.mp 0])]
  Tr.alt false 58 [Cv c,Uv t] [] (V.tup [V.d D.nilp,V.d (D.int .i64 (askE (dCe c) (dUe t)))]) [] (V.tup [V.ptr 1 0 0,V.d (D.int .i64 0)]) y0_ (Tr.done (V.d (D.bool (askE (dCe c) (dUe t) == (0:Int)))) []) (Tr.done (V.d (D.bool ((0:Int) == (0:Int)))) y0_) := by kernel_rfl
theorem y51 (c:Cmp) (t:Tru):Yields Try.prog 51 [Cv c,Uv t] (vb (askE c t == 0)) := by
 refine q51.yieldsK X51_ok rfl rfl rfl (w51 c t) ?_
 simp only [holds,dCe,dC_enc,dUe,dU_enc]
 refine (a58 c t).mono ?_
 rintro v h' (⟨h1,rfl,rfl⟩ | ⟨h1,rfl,rfl⟩)
 ·exact .inl ⟨rfl,rfl,fun e => (by cases e),.refl _⟩
 ·exact .inr ⟨rfl,rfl,fun e => (by cases e),by rw [h1]; exact .refl _⟩
end
end Go.Proofs.Ytdnefcjbcieecaa
namespace Go.Proofs.Ytdnefcjbcieecaa
open Go Go.Proofs
noncomputable section
theorem q62:FunIs Try.prog 62 G62 c62 r62 := ⟨Try.f62,Try.func62,k62,e62,by kernel_rfl,by kernel_rfl⟩
theorem q63:FunIs Try.prog 63 G63 c63 r63 := ⟨Try.f63,Try.func63,k63,e63,by kernel_rfl,by kernel_rfl⟩
def E62 (c:Cmp) (t:Tru) (k:Nat):Env := [(2,.rptr (Cds c) 0),(3,.rptr (Uds t) 0),(5,vi k)]
theorem w62 (c:Cmp) (t:Tru):sx X13 c62 [] (doneK r62) (envOf [Cv c,Uv t]) [] [] =
  Tr.br (Int.ofNat (List.length (Tru.sold t)) != Int.ofNat (List.length (Cmp.trades c))) (Tr.done (V.d (D.bool false)) []) (Tr.br (Int.ofNat (List.length (Tru.deliv t)) != Int.ofNat (List.length (Cmp.trades c))) (Tr.done (V.d (D.bool false)) []) (Tr.lp (CCode.at c62 [1,1,0,1,0,0]) [Fr.blk 0,Fr.seq (CCode.at c62 [1,1,1])] [(2,V.rptr (Cds c) 0),(3,V.rptr (Uds t) 0),(5,V.d (D.int .i64 0))] [])) := by kernel_rfl
theorem b62 (c:Cmp) (t:Tru) (k:Nat):sx X13 (CCode.at c62 [1,1,0,1,0,0]) [] (bodyK r62) (E62 c t k) [] [] =
  let x1_ := (List.length (Cmp.trades c))
  let x2_ := (decide (Int.ofNat k < Int.ofNat x1_))
  let y3_ := (enc eI (Tru.sold t))
  let x3_ := ((0:Int) ≤ Int.ofNat k ∧ Int.ofNat k < Int.ofNat (List.length (Tru.sold t)) ∧ okEl [0] y3_ 1 (Int.ofNat k))
  let y0_ := (enc eT (Cmp.trades c))
  let x4_ := (cI y0_ 7 (Int.ofNat k) 3)
  let x5_ := (cI y0_ 7 (Int.ofNat k) 4)
  let y2_ := (enc eI (Tru.deliv t))
  let x6_ := ((0:Int) ≤ Int.ofNat k ∧ Int.ofNat k < Int.ofNat (List.length (Tru.deliv t)) ∧ okEl [0] y2_ 1 (Int.ofNat k))
  let x7_ := (cI y0_ 7 (Int.ofNat k) 5)
  let x8_ := (cI y0_ 7 (Int.ofNat k) 6)
  let y1_ := (Tr.done (V.d (D.bool false)) [])
  Tr.br x2_ (Tr.need ((0:Int) ≤ Int.ofNat k ∧ Int.ofNat k < Int.ofNat x1_ ∧ okEl [0,0,0,0,0,0,0] y0_ 7 (Int.ofNat k)) (Tr.need x3_ (Tr.need True (Tr.br (!inR (cI y3_ 1 (Int.ofNat k) 0) x4_ x5_) y1_ (Tr.need x6_ (Tr.need True (Tr.br (!inR (cI y2_ 1 (Int.ofNat k) 0) x7_ x8_) y1_ (Tr.need x6_ (Tr.need x3_ (Tr.br (decide (cI y2_ 1 (Int.ofNat k) 0 < cI y3_ 1 (Int.ofNat k) 0)) y1_ (Tr.need (-9223372036854775808 ≤ Int.ofNat k + (1:Int) ∧ Int.ofNat k + (1:Int) ≤ 9223372036854775807) (Tr.leaf CExit.normal [(2,V.rptr (Cds c) 0),(3,V.rptr (Uds t) 0),(5,V.d (D.int .i64 (Int.ofNat k + (1:Int))))] [some (Blk.box [V.d (D.int .i64 (cI y0_ 7 (Int.ofNat k) 0)),V.d (D.int .i64 (cI y0_ 7 (Int.ofNat k) 1)),V.d (D.int .i64 (cI y0_ 7 (Int.ofNat k) 2)),V.d (D.int .i64 x4_),V.d (D.int .i64 x5_),V.d (D.int .i64 x7_),V.d (D.int .i64 x8_)])])))))))))))) (Tr.leaf (CExit.exit 0) [(2,V.rptr (Cds c) 0),(3,V.rptr (Uds t) 0),(5,V.d (D.int .i64 (Int.ofNat k))),(27,V.d (D.bool x2_))] []) := by kernel_rfl
theorem x62 (u v x y:V):sS X13 (doneK r62) [Fr.blk 0,Fr.seq (CCode.at c62 [1,1,1])] (.exit 0) [(2,u),(3,v),(5,x),(27,y)] [] [] =
  Tr.done (V.d (D.bool true)) [] := by kernel_rfl
theorem y62 (c:Cmp) (t:Tru) (hl:c.trades.length ≤ 1000000):Yields Try.prog 62 [Cv c,Uv t] (vb (datedB c t)) := by
 refine q62.yieldsK X13_ok rfl rfl rfl (w62 c t) ?_
 simp only [holds,Int.ofNat_eq_natCast]
 have hno:datedB c t = false → VLe (V.d (.bool false)) (vb (datedB c t)) := fun h => .of_eq (congrArg vb h.symm)
 refine ⟨fun h => hno ?_,fun h1 => ⟨fun h => hno ?_,fun h2 => ?_⟩⟩
 ·simp [datedB]; intro h2; simp [h2] at h
 ·simp [datedB]; intro _ h2; simp [h2] at h
 have l1:t.sold.length = c.trades.length := by simp at h1; omega
 have l2:t.deliv.length = c.trades.length := by simp at h2; omega
 refine lp_countK X13_ok rfl c.trades.length (fun k => ∀ j,j < k → datK c t j = true) (E62 c t) (fun _ => []) rfl rfl (fun j hj => by omega) (fun k _ => ⟨rfl,rfl,rfl⟩) ?_
 intro k hk hA Q' hn he
 rw [b62]
 simp only [holds,Int.ofNat_eq_natCast,cI_I,cI_T3,cI_T4,cI_T5,cI_T6,true_and]
 refine ⟨fun h1 => ?_,fun h1 => ?_⟩
 ·have hlt:k < c.trades.length := by have := of_decide_eq_true h1; omega
  have hf1:datK c t k = false → VLe (V.d (.bool false)) (vb (datedB c t)) := fun h => hno (by
   simp only [datedB,decide_eq_false_iff_not]
   intro ⟨_,_,h4⟩
   rw [h4 k hlt] at h; cases h)
  have hn1:datK c t k = true → ∀ J,_ := fun h J => hn J hlt (step_all hA h)
  have o1:okEl [0,0,0,0,0,0,0] (enc eT c.trades) 7 (k:Nat) := ok_T (by simpa using hlt)
  have o2:okEl [0] (enc eI t.deliv) 1 (k:Nat) := ok_I (by simp; omega)
  have o3:okEl [0] (enc eI t.sold) 1 (k:Nat) := ok_I (by simp; omega)
  repeat' (first | (refine And.intro ?_ ?_) | (refine fun (_:_ = _) => ?_))
  all_goals first
   | omega
   | assumption
   | exact hf1 (by simp_all [datK,Rng.has])
   | exact hn1 (by simp_all [datK,Rng.has]) _
 ·have hge:k = c.trades.length := by have := of_decide_eq_false h1; omega
  refine he _ _ _ (ret_tree X13_ok (doneK_ok rfl) (x62 _ _ _ _) ?_)
  simp only [holds]
  refine .of_eq (congrArg vb ?_)
  simp only [datedB]
  exact (decide_eq_true ⟨l1,l2,fun j hj => hA j (by omega)⟩).symm
def innK (l:List Spl) (d n:Int):Nat → Int
 | 0 => n
 | k + 1 => if (lat l (k:Nat)).day = d then (innK l d n k * (lat l (k:Nat)).num).tdiv (lat l (k:Nat)).den else innK l d n k
theorem tdiv_mul {a d s:Int} (hd:d ≠ 0) (h:d ∣ a):(s * a).tdiv d = s * a.tdiv d := by
 obtain ⟨k,rfl⟩ := h
 have e:s * (d * k) = d * (s * k) := by rw [← Int.mul_assoc, ← Int.mul_assoc,Int.mul_comm s d]
 rw [e,Int.mul_tdiv_cancel_left _ hd,Int.mul_tdiv_cancel_left _ hd]
theorem split_dvd1 {x:Spl} (h:1 ≤ x.den ∧ x.den ≤ 4):x.den ∣ 720 * x.num ∧ x.den ∣ 720 := by
 have h2:x.den ∣ 720 := by
  have:x.den = 1 ∨ x.den = 2 ∨ x.den = 3 ∨ x.den = 4 := by omega
  rcases this with e | e | e | e <;> rw [e] <;> decide
 exact ⟨Int.dvd_trans h2 ⟨x.num,rfl⟩,h2⟩
theorem split_dvd2 {x:Spl} {y:Spl} (h:1 ≤ x.den ∧ x.den ≤ 4) (hy:1 ≤ y.den ∧ y.den ≤ 4):y.den ∣ (720 * x.num).tdiv x.den * y.num := by
 have hx:∃ q,(720 * x.num).tdiv x.den = q * x.num ∧ y.den ∣ q := by
  have h1:x.den = 1 ∨ x.den = 2 ∨ x.den = 3 ∨ x.den = 4 := by omega
  have h2:y.den = 1 ∨ y.den = 2 ∨ y.den = 3 ∨ y.den = 4 := by omega
  have key:∀ (q d:Int),d ≠ 0 → (720:Int) = d * q → (720 * x.num).tdiv d = q * x.num := fun q d hd he => by
   rw [he,Int.mul_assoc,Int.mul_tdiv_cancel_left _ hd]
  rcases h1 with e | e | e | e
  ·exact ⟨720,by rw [e]; exact key 720 1 (by decide) (by decide),by rcases h2 with e | e | e | e <;> rw [e] <;> decide⟩
  ·exact ⟨360,by rw [e]; exact key 360 2 (by decide) (by decide),by rcases h2 with e | e | e | e <;> rw [e] <;> decide⟩
  ·exact ⟨240,by rw [e]; exact key 240 3 (by decide) (by decide),by rcases h2 with e | e | e | e <;> rw [e] <;> decide⟩
  ·exact ⟨180,by rw [e]; exact key 180 4 (by decide) (by decide),by rcases h2 with e | e | e | e <;> rw [e] <;> decide⟩
 obtain ⟨q,hq,hd⟩ := hx
 rw [hq]
 exact Int.dvd_trans hd ⟨x.num * y.num,by rw [Int.mul_assoc]⟩
theorem inn_fac {l:List Spl} (hv:okSs (-1) l = true) (hl:l.length ≤ 2) (s a d:Int) (ha:a < d):innK l d (s * facM l a (d - 1)) l.length = s * facM l a d := by
 match l,hl with
 | [],_ => rfl
 | [x],_ =>
  have hx := split_ok _ _ hv x (by simp)
  simp only [List.length_cons,List.length_nil,innK,facM,List.foldl_cons,List.foldl_nil,facS,lat,Int.toNat_natCast,List.getD_cons_zero]
  have h1 := tdiv_mul (s := s) (show x.den ≠ 0 by omega) (split_dvd1 ⟨hx.2.2.1,hx.2.2.2⟩).1
  by_cases e1:x.day = d
  ·rw [if_pos e1,if_neg (by omega),if_pos (by omega),Int.mul_assoc,h1]
  ·rw [if_neg e1]
   by_cases e2:a < x.day ∧ x.day ≤ d - 1
   ·rw [if_pos e2,if_pos (by omega)]
   ·rw [if_neg e2,if_neg (by omega)]
 | [x,y],_ =>
  have hx := split_ok _ _ hv x (by simp)
  have hy := split_ok _ _ hv y (by simp)
  have hxy:x.day < y.day := by
   simp only [okSs,okSp,Bool.and_eq_true,decide_eq_true_eq] at hv
   omega
  have h1 := tdiv_mul (s := s) (show x.den ≠ 0 by omega) (split_dvd1 ⟨hx.2.2.1,hx.2.2.2⟩).1
  have h2 := tdiv_mul (s := s) (show y.den ≠ 0 by omega) (split_dvd1 ⟨hy.2.2.1,hy.2.2.2⟩).1
  have h3 := tdiv_mul (s := s) (show y.den ≠ 0 by omega) (split_dvd2 (x := x) (y := y) ⟨hx.2.2.1,hx.2.2.2⟩ ⟨hy.2.2.1,hy.2.2.2⟩)
  have l0:lat [x,y] ((0:Nat):Int) = x := rfl
  have l1:lat [x,y] ((1:Nat):Int) = y := rfl
  simp only [List.length_cons,List.length_nil,innK,facM,List.foldl_cons,List.foldl_nil,facS,l0,l1,Nat.zero_add]
  by_cases e1:x.day = d
  ·rw [if_neg (show ¬ y.day = d by omega),if_pos e1,if_neg (show ¬ (a < x.day ∧ x.day ≤ d - 1) by omega),if_neg (show ¬ (a < y.day ∧ y.day ≤ d - 1) by omega),if_pos (show a < x.day ∧ x.day ≤ d by omega),if_neg (show ¬ (a < y.day ∧ y.day ≤ d) by omega),Int.mul_assoc,h1]
  ·rw [if_neg e1]
   by_cases e2:y.day = d
   ·rw [if_pos e2,if_neg (show ¬ (a < y.day ∧ y.day ≤ d - 1) by omega),if_pos (show a < y.day ∧ y.day ≤ d by omega)]
    by_cases e3:a < x.day
    ·rw [if_pos (show a < x.day ∧ x.day ≤ d - 1 by omega),if_pos (show a < x.day ∧ x.day ≤ d by omega),Int.mul_assoc,h3]
    ·rw [if_neg (show ¬ (a < x.day ∧ x.day ≤ d - 1) by omega),if_neg (show ¬ (a < x.day ∧ x.day ≤ d) by omega),Int.mul_assoc,h2]
   ·rw [if_neg e2]
    have ex:(a < x.day ∧ x.day ≤ d - 1) ↔ (a < x.day ∧ x.day ≤ d) := by omega
    have ey:(a < y.day ∧ y.day ≤ d - 1) ↔ (a < y.day ∧ y.day ≤ d) := by omega
    simp only [ex,ey]
theorem inn_in {l:List Spl} (hv:okSs (-1) l = true) (d:Int) {n m:Int} (h0:0 ≤ n) (h1:n ≤ m):∀ k,k ≤ l.length → 0 ≤ innK l d n k ∧ innK l d n k ≤ m * 6 ^ k
 | 0,_ => by simp [innK]; omega
 | k + 1,hk => by
  have ih := inn_in hv d h0 h1 k (by omega)
  have hx := split_ok _ _ hv _ (lat_mem (show k < l.length by omega))
  have hf := facS_in (a := (lat l (k:Nat)).day - 1) (b := (lat l (k:Nat)).day) hx ih.1 ih.2
  have hp:(0:Int) ≤ m * 6 ^ k := Int.le_trans ih.1 ih.2
  rw [Int.pow_succ,innK, ← Int.mul_assoc]
  split <;> omega
theorem facM_none {l:List Spl} (a b:Int) (h:b ≤ a):facM l a b = 720 := by
 unfold facM
 induction l with
 | nil => rfl
 | cons x l ih => rw [List.foldl_cons,facS,if_neg (by omega)]; exact ih
def E63 (c:Cmp) (b n d:Int):Env := [(3,vi b),(4,.rptr (Cds c) 0),(9,vi n),(10,vi d)]
def E63i (c:Cmp) (b n d:Int) (k:Nat):Env := [(3,vi b),(4,.rptr (Cds c) 0),(9,vi n),(10,vi d),(11,vi k)]
theorem w63 (c:Cmp) (s a b:Int):sx X13 c63 [] (doneK r63) (envOf [Cv c,vi s,vi a,vi b]) [] [] =
  Tr.need (-9223372036854775808 ≤ (720:Int) * s ∧ (720:Int) * s ≤ 9223372036854775807) (Tr.need (-9223372036854775808 ≤ a + (1:Int) ∧ a + (1:Int) ≤ 9223372036854775807) (Tr.lp (CCode.at c63 [1,1,0,1,0,0]) [Fr.blk 0,Fr.seq (CCode.at c63 [1,1,1])] [(3,V.d (D.int .i64 b)),(4,V.rptr (Cds c) 0),(9,V.d (D.int .i64 ((720:Int) * s))),(10,V.d (D.int .i64 (a + (1:Int))))] [])) := by kernel_rfl
theorem b63 (c:Cmp) (b n d:Int):sx X13 (CCode.at c63 [1,1,0,1,0,0]) [] leafK (E63 c b n d) [] [] =
  Tr.br (decide (d ≤ b)) (Tr.lp (CCode.at c63 [1,1,0,1,0,0,1,0,0,1,0,0]) [Fr.blk 2,Fr.blk 1,Fr.seq (CCode.at c63 [1,1,0,1,0,0,1,1])] [(3,V.d (D.int .i64 b)),(4,V.rptr (Cds c) 0),(9,V.d (D.int .i64 n)),(10,V.d (D.int .i64 d)),(11,V.d (D.int .i64 0))] []) (Tr.leaf (CExit.exit 0) [(3,V.d (D.int .i64 b)),(4,V.rptr (Cds c) 0),(9,V.d (D.int .i64 n)),(10,V.d (D.int .i64 d)),(19,V.d (D.bool (decide (d ≤ b))))] []) := by kernel_rfl
theorem b63i (c:Cmp) (b n d:Int) (k:Nat):sx X13 (CCode.at c63 [1,1,0,1,0,0,1,0,0,1,0,0]) [] leafK (E63i c b n d k) [] [] =
  let x1_ := (List.length (Cmp.splits c))
  let x2_ := (decide (Int.ofNat k < Int.ofNat x1_))
  let y0_ := (enc eS (Cmp.splits c))
  let x3_ := (n * cI y0_ 3 (Int.ofNat k) 1)
  let x4_ := (cI y0_ 3 (Int.ofNat k) 2)
  let x5_ := (-9223372036854775808 ≤ Int.ofNat k + (1:Int) ∧ Int.ofNat k + (1:Int) ≤ 9223372036854775807)
  let x6_ := [some (Blk.box [V.d (D.int .i64 (cI y0_ 3 (Int.ofNat k) 0)),V.d (D.int .i64 (cI y0_ 3 (Int.ofNat k) 1)),V.d (D.int .i64 x4_)])]
  let y1_ := (11,V.d (D.int .i64 (Int.ofNat k + (1:Int))))
  let y2_ := (10,V.d (D.int .i64 d))
  let y3_ := (3,V.d (D.int .i64 b))
  let y4_ := (4,V.rptr (Cds c) 0)
  Tr.br x2_ (Tr.need ((0:Int) ≤ Int.ofNat k ∧ Int.ofNat k < Int.ofNat x1_ ∧ okEl [0,0,0] y0_ 3 (Int.ofNat k)) (Tr.br (cI y0_ 3 (Int.ofNat k) 0 == d) (Tr.need (-9223372036854775808 ≤ n * cI y0_ 3 (Int.ofNat k) 1 ∧ n * cI y0_ 3 (Int.ofNat k) 1 ≤ 9223372036854775807) (Tr.need (cI y0_ 3 (Int.ofNat k) 2 ≠ (0:Int)) (Tr.need (-9223372036854775808 ≤ Int.tdiv x3_ x4_ ∧ Int.tdiv x3_ x4_ ≤ 9223372036854775807) (Tr.need x5_ (Tr.leaf CExit.normal [y3_,y4_,(9,V.d (D.int .i64 (Int.tdiv x3_ x4_))),y2_,y1_] x6_))))) (Tr.need x5_ (Tr.leaf CExit.normal [y3_,y4_,(9,V.d (D.int .i64 n)),y2_,y1_] x6_)))) (Tr.leaf (CExit.exit 2) [y3_,y4_,(9,V.d (D.int .i64 n)),y2_,(11,V.d (D.int .i64 (Int.ofNat k))),(26,V.d (D.bool x2_))] []) := by kernel_rfl
theorem x63i (c:Cmp) (b n d:Int) (u v:V):sS X13 leafK [Fr.blk 2,Fr.blk 1,Fr.seq (CCode.at c63 [1,1,0,1,0,0,1,1])] (.exit 2) [(3,vi b),(4,.rptr (Cds c) 0),(9,vi n),(10,vi d),(11,u),(26,v)] [] [] =
  Tr.need (-9223372036854775808 ≤ d + (1:Int) ∧ d + (1:Int) ≤ 9223372036854775807) (Tr.leaf CExit.normal [(3,V.d (D.int .i64 b)),(4,V.rptr (Cds c) 0),(9,V.d (D.int .i64 n)),(10,V.d (D.int .i64 (d + (1:Int))))] []) := by kernel_rfl
theorem x63 (c:Cmp) (n:Int) (u v w:V):sS X13 (doneK r63) [Fr.blk 0,Fr.seq (CCode.at c63 [1,1,1])] (.exit 0) [(3,u),(4,.rptr (Cds c) 0),(9,vi n),(10,v),(19,w)] [] [] =
  Tr.done (V.d (D.int .i64 n)) [] := by kernel_rfl
theorem y63 (c:Cmp) (s a b:Int) (hv:okSs (-1) c.splits = true) (hl:c.splits.length ≤ 2) (h0:0 ≤ s) (h1:s ≤ 100) (ha : -1000 ≤ a) (ha2:a ≤ 1000) (hb:b ≤ 1000) :
  Yields Try.prog 63 [Cv c,vi s,vi a,vi b] (vi (s * facM c.splits a b)) := by
 refine q63.yieldsK X13_ok rfl rfl rfl (w63 c s a b) ?_
 simp only [holds]
 refine ⟨⟨by omega,by omega⟩,⟨by omega,by omega⟩, ?_⟩
 refine lp_count X13_ok (b - a).toNat (fun _ => True) (fun k => E63 c b (s * facM c.splits a (a + k)) (a + 1 + k)) (fun _ => []) ?_ rfl trivial (fun k _ => ⟨rfl,rfl,rfl⟩) ?_
 ·have e:s * facM c.splits a (a + ((0:Nat):Int)) = 720 * s := by rw [facM_none _ _ (by omega),Int.mul_comm]
  rw [e]; simp [E63,vi]
 intro k hk _ Q' hn he hr
 rw [b63]
 simp only [holds,Int.ofNat_eq_natCast]
 have hfi := facM_in hv hl a (a + k)
 have hmi := mul_in h0 h1 hfi.1 hfi.2
 refine ⟨fun g1 => ?_,fun g1 => ?_⟩
 ·have hlt:k < (b - a).toNat := by have := of_decide_eq_true g1; omega
  have hn1 := hn [] hlt trivial
  clear hn hr he
  refine lp_count X13_ok c.splits.length (fun _ => True) (fun j => E63i c b (innK c.splits (a + 1 + k) (s * facM c.splits a (a + k)) j) (a + 1 + k) j) (fun _ => []) rfl rfl trivial (fun k _ => ⟨rfl,rfl,rfl⟩) ?_
  intro j hj _ Q2 hn he hr
  rw [b63i]
  have hin := inn_in hv (a + 1 + k) hmi.1 hmi.2 j hj
  have hp:(2592000:Int) * 6 ^ j ≤ 2592000 * 36 := by
   have:j = 0 ∨ j = 1 ∨ j = 2 := by omega
   rcases this with rfl | rfl | rfl <;> decide
  simp only [holds,Int.ofNat_eq_natCast,cI_S0,cI_S1,cI_S2]
  refine ⟨fun g2 => ?_,fun g2 => ?_⟩
  ·have hlt2:j < c.splits.length := by have := of_decide_eq_true g2; omega
   have hx := split_ok _ _ hv _ (lat_mem hlt2)
   have hf := facS_in (a := 0) (b := 0) hx hin.1 hin.2
   have hn2 := fun J => hn J hlt2 trivial
   refine ⟨⟨by omega,by omega,ok_S (by simpa using hlt2)⟩,fun g3 => ?_,fun g3 => ?_⟩
   ·simp only [innK,if_pos (show (lat c.splits (j:Nat)).day = a + 1 + k by simpa using g3)] at hn2
    exact ⟨⟨by omega,by omega⟩,by omega,⟨by omega,by omega⟩,⟨by omega,by omega⟩,hn2 _⟩
   ·simp only [innK,if_neg (show ¬ (lat c.splits (j:Nat)).day = a + 1 + k by simpa using g3)] at hn2
    exact ⟨⟨by omega,by omega⟩,hn2 _⟩
  ·have hge:j = c.splits.length := by have := of_decide_eq_false g2; omega
   subst hge
   have e := inn_fac hv hl s a (a + 1 + k) (by omega)
   have e2:a + 1 + (k:Int) - 1 = a + k := by omega
   rw [e2] at e
   rw [e]
   refine he _ _ _ (ret_tree (R := fun _ _ => True) X13_ok leafK_ok (x63i _ _ _ _ _ _) ?_)
   simp only [holds]
   refine ⟨⟨by omega,by omega⟩, ?_⟩
   have e3:a + ((k + 1:Nat):Int) = a + 1 + k := by omega
   have e4:a + 1 + ((k + 1:Nat):Int) = a + 1 + k + 1 := by omega
   simp only [e3,e4] at hn1
   exact hn1
 ·have hge:k = (b - a).toNat := by have := of_decide_eq_false g1; omega
  refine he _ _ _ (ret_tree X13_ok (doneK_ok rfl) (x63 _ _ _ _ _) ?_)
  simp only [holds]
  refine .of_eq (congrArg vi ?_)
  by_cases hab:a ≤ b
  ·have:a + (k:Int) = b := by omega
   rw [this]
  ·have:k = 0 := by omega
   subst this
   rw [facM_none _ _ (by omega),facM_none _ _ (by omega)]
end
end Go.Proofs.Ytdnefcjbcieecaa
namespace Go.Proofs.Ytdnefcjbcieecaa
open Go Go.Proofs
noncomputable section
theorem q24:FunIs Try.prog 24 G24 c24 r24 := ⟨Try.f24,Try.func24,k24,e24,by kernel_rfl,by kernel_rfl⟩
theorem q44:FunIs Try.prog 44 G44 c44 r44 := ⟨Try.f44,Try.func44,k44,e44,by kernel_rfl,by kernel_rfl⟩
def entCIII (q:Cmp → Int → Int → Int → Prop) (m:Cmp → Int → Int → Int → V):Ent := fun args h => match args with
 | [x,.d (.int .i64 s),.d (.int .i64 a),.d (.int .i64 b)] => match asC x with
  | some c => some (Cv c = x ∧ q c s a b,m c s a b,none)
  | none => none
 | _ => none
theorem entCIII_ok {P:Program} {f:Nat} {q:Cmp → Int → Int → Int → Prop} {m:Cmp → Int → Int → Int → V} (hy:∀ c s a b,q c s a b → Yields P f [Cv c,vi s,vi a,vi b] (m c s a b)):EntOk P f (entCIII q m) := by
 intro args h p v h' he hp
 unfold entCIII at he
 split at he
 ·split at he
  ·cases he; rw [← hp.1]; exact hy _ _ _ _ hp.2 h
  ·cases he
 ·cases he
def ent63 := entCIII (fun c s a b => okSs (-1) c.splits = true ∧ c.splits.length ≤ 2 ∧ 0 ≤ s ∧ s ≤ 100 ∧ -1000 ≤ a ∧ a ≤ 1000 ∧ b ≤ 1000) (fun c s a b => vi (s * facM c.splits a b))
theorem ent63_ok:EntOk Try.prog 63 ent63 := entCIII_ok fun c s a b h => y63 c s a b h.1 h.2.1 h.2.2.1 h.2.2.2.1 h.2.2.2.2.1 h.2.2.2.2.2.1 h.2.2.2.2.2.2
def ent62 := entCU (fun c _ => c.trades.length ≤ 1000000) (fun c t => vb (datedB c t))
theorem ent62_ok:EntOk Try.prog 62 ent62 := entCU_ok fun c t h => y62 c t h
def tab17:Spec := (spAdd 63 ent63 (spAdd 62 ent62 tab16))
theorem tab17_ok:SpOk Try.prog tab17 := (spAdd_ok ent63_ok (spAdd_ok ent62_ok tab16_ok))
def X17:Sx := mkX tab17
theorem X17_ok:SpOk Try.prog X17.sp := tab17_ok
theorem w24 (c:Cmp) (t:Tru) (d:Int):sx X17 c24 [] (doneK r24) (envOf [Cv c,Uv t,vi d]) [] [] =
  Tr.lp (CCode.at c24 [1,1,0,1,0,0]) [Fr.blk 0,Fr.seq (CCode.at c24 [1,1,1])] [(2,V.d (D.int .i64 d)),(3,V.rptr (Cds c) 0),(4,V.rptr (Uds t) 0),(7,V.d D.nils),(8,V.d (D.int .i64 0))] [] := by kernel_rfl
def E24 (c:Cmp) (t:Tru) (d:Int) (l:List Int) (h:Nat):Env := [(2,vi d),(3,.rptr (Cds c) 0),(4,.rptr (Uds t) 0),(7,.own 0 l.length l.length),(8,vi h)]
def E24i (c:Cmp) (t:Tru) (d:Int) (l:List Int) (h:Nat) (n:Int) (k:Nat):Env := [(2,vi d),(3,.rptr (Cds c) 0),(4,.rptr (Uds t) 0),(7,.own 0 l.length l.length),(8,vi h),(9,vi n),(10,vi k)]
def H24 (l:List Int):Heap := [some (.row 3 1 l.length (enc eI l))]
theorem b24 (c:Cmp) (t:Tru) (d:Int) (l:List Int) (h:Nat):sx X17 (CCode.at c24 [1,1,0,1,0,0]) [] leafK (E24 c t d l h) [] (H24 l) =
  let x1_ := (decide (Int.ofNat h < Cmp.houses c))
  let y1_ := (List.length l)
  let x2_ := [some (Blk.row 3 1 y1_ (enc eI l))]
  let y0_ := (enc eI (Cmp.held c))
  let y2_ := (Cmp.splits (dCe c))
  let y3_ := (8,V.d (D.int .i64 (Int.ofNat h)))
  Tr.br x1_ (Tr.need ((0:Int) ≤ Int.ofNat h ∧ Int.ofNat h < Int.ofNat (List.length (Cmp.held c)) ∧ okEl [0] y0_ 1 (Int.ofNat h)) (Tr.need (Cv (dCe c) = Cv c ∧ okSs (-1:Int) y2_ = true ∧ List.length y2_ ≤ 2 ∧ (0:Int) ≤ cI y0_ 1 (Int.ofNat h) 0 ∧ cI y0_ 1 (Int.ofNat h) 0 ≤ (100:Int) ∧ (-1000:Int) ≤ (-1:Int) ∧ (-1:Int) ≤ (1000:Int) ∧ d ≤ (1000:Int)) (Tr.lp (CCode.at c24 [1,1,0,1,0,0,1,0,0,1,0,1,0,0]) [Fr.blk 2,Fr.seq (CCode.at c24 [1,1,0,1,0,0,1,0,0,1,1]),Fr.blk 1,Fr.seq (CCode.at c24 [1,1,0,1,0,0,1,1])] [(2,V.d (D.int .i64 d)),(3,V.rptr (Cds c) 0),(4,V.rptr (Uds t) 0),(7,V.own 0 y1_ y1_),y3_,(9,V.d (D.int .i64 (cI y0_ 1 (Int.ofNat h) 0 * facM y2_ (-1:Int) d))),(10,V.d (D.int .i64 0))] x2_))) (Tr.leaf (CExit.exit 0) [(2,V.d (D.int .i64 d)),(3,V.rptr (Cds c) 0),(4,V.rptr (Uds t) 0),(7,V.own 0 y1_ y1_),y3_,(16,V.d (D.bool x1_))] x2_) := by kernel_rfl
theorem b24i (c:Cmp) (t:Tru) (d:Int) (l:List Int) (h:Nat) (n:Int) (k:Nat):sx X17 (CCode.at c24 [1,1,0,1,0,0,1,0,0,1,0,1,0,0]) [] leafK (E24i c t d l h n k) [] (H24 l) =
  let x1_ := (List.length (Cmp.trades c))
  let x2_ := (decide (Int.ofNat k < Int.ofNat x1_))
  let x3_ := (-9223372036854775808 ≤ Int.ofNat k + (1:Int) ∧ Int.ofNat k + (1:Int) ≤ 9223372036854775807)
  let x4_ := (Blk.row 3 1 (List.length l) (enc eI l))
  let y0_ := (enc eT (Cmp.trades c))
  let x5_ := [some x4_,some (Blk.box [V.d (D.int .i64 (cI y0_ 7 (Int.ofNat k) 0)),V.d (D.int .i64 (cI y0_ 7 (Int.ofNat k) 1)),V.d (D.int .i64 (cI y0_ 7 (Int.ofNat k) 2)),V.d (D.int .i64 (cI y0_ 7 (Int.ofNat k) 3)),V.d (D.int .i64 (cI y0_ 7 (Int.ofNat k) 4)),V.d (D.int .i64 (cI y0_ 7 (Int.ofNat k) 5)),V.d (D.int .i64 (cI y0_ 7 (Int.ofNat k) 6))])]
  let y9_ := (enc eI (Tru.sold t))
  let x6_ := ((0:Int) ≤ Int.ofNat k ∧ Int.ofNat k < Int.ofNat (List.length (Tru.sold t)) ∧ okEl [0] y9_ 1 (Int.ofNat k))
  let y2_ := (Cmp.splits (dCe c))
  let x7_ := (Cv (dCe c) = Cv c ∧ okSs (-1:Int) y2_ = true ∧ List.length y2_ ≤ 2 ∧ (0:Int) ≤ cI y0_ 7 (Int.ofNat k) 2 ∧ cI y0_ 7 (Int.ofNat k) 2 ≤ (100:Int) ∧ (-1000:Int) ≤ cI y9_ 1 (Int.ofNat k) 0 ∧ cI y9_ 1 (Int.ofNat k) 0 ≤ (1000:Int) ∧ d ≤ (1000:Int))
  let x8_ := (cI y9_ 1 (Int.ofNat k) 0)
  let x9_ := (cI y0_ 7 (Int.ofNat k) 0 == Int.ofNat h)
  let y3_ := (7,V.own 0 (List.length l) (List.length l))
  let y4_ := (10,V.d (D.int .i64 (Int.ofNat k + (1:Int))))
  let y5_ := (8,V.d (D.int .i64 (Int.ofNat h)))
  let y6_ := (2,V.d (D.int .i64 d))
  let y7_ := (3,V.rptr (Cds c) 0)
  let y8_ := (4,V.rptr (Uds t) 0)
  let y1_ := (Tr.need x3_ (Tr.leaf CExit.normal [y6_,y7_,y8_,y3_,y5_,(9,V.d (D.int .i64 n)),y4_] x5_))
  let y10_ := (enc eI (Tru.deliv t))
  Tr.br x2_ (Tr.need ((0:Int) ≤ Int.ofNat k ∧ Int.ofNat k < Int.ofNat x1_ ∧ okEl [0,0,0,0,0,0,0] y0_ 7 (Int.ofNat k)) (Tr.need ((0:Int) ≤ Int.ofNat k ∧ Int.ofNat k < Int.ofNat (List.length (Tru.deliv t)) ∧ okEl [0] y10_ 1 (Int.ofNat k)) (Tr.need (Cv (dCe c) = Cv c ∧ -9223372036854775808 ≤ cI y10_ 1 (Int.ofNat k) 0 ∧ List.length (Cmp.closed (dCe c)) ≤ 140737488355328) (Tr.need True (Tr.br (!inR (regR (Cmp.closed (dCe c)) (cI y10_ 1 (Int.ofNat k) 0)) (0:Int) d) y1_ (Tr.br (cI y0_ 7 (Int.ofNat k) 1 == Int.ofNat h) (Tr.need x6_ (Tr.need x7_ (Tr.need (-9223372036854775808 ≤ n + cI y0_ 7 (Int.ofNat k) 2 * facM y2_ x8_ d ∧ n + cI y0_ 7 (Int.ofNat k) 2 * facM y2_ x8_ d ≤ 9223372036854775807) (Tr.br x9_ (Tr.need x6_ (Tr.need x7_ (Tr.need (-9223372036854775808 ≤ n + cI y0_ 7 (Int.ofNat k) 2 * facM y2_ x8_ d - cI y0_ 7 (Int.ofNat k) 2 * facM y2_ x8_ d ∧ n + cI y0_ 7 (Int.ofNat k) 2 * facM y2_ x8_ d - cI y0_ 7 (Int.ofNat k) 2 * facM y2_ x8_ d ≤ 9223372036854775807) (Tr.need x3_ (Tr.leaf CExit.normal [y6_,y7_,y8_,y3_,y5_,(9,V.d (D.int .i64 (n + cI y0_ 7 (Int.ofNat k) 2 * facM y2_ x8_ d - cI y0_ 7 (Int.ofNat k) 2 * facM y2_ x8_ d))),y4_] x5_))))) (Tr.need x3_ (Tr.leaf CExit.normal [y6_,y7_,y8_,y3_,y5_,(9,V.d (D.int .i64 (n + cI y0_ 7 (Int.ofNat k) 2 * facM y2_ x8_ d))),y4_] x5_)))))) (Tr.br x9_ (Tr.need x6_ (Tr.need x7_ (Tr.need (-9223372036854775808 ≤ n - cI y0_ 7 (Int.ofNat k) 2 * facM y2_ x8_ d ∧ n - cI y0_ 7 (Int.ofNat k) 2 * facM y2_ x8_ d ≤ 9223372036854775807) (Tr.need x3_ (Tr.leaf CExit.normal [y6_,y7_,y8_,y3_,y5_,(9,V.d (D.int .i64 (n - cI y0_ 7 (Int.ofNat k) 2 * facM y2_ x8_ d))),y4_] x5_))))) y1_))))))) (Tr.leaf (CExit.exit 2) [y6_,y7_,y8_,y3_,y5_,(9,V.d (D.int .i64 n)),(10,V.d (D.int .i64 (Int.ofNat k))),(31,V.d (D.bool x2_))] [some x4_]) := by kernel_rfl
theorem x24i (c:Cmp) (t:Tru) (d:Int) (l:List Int) (h:Nat) (n:Int) (u v:V):sS X17 leafK [Fr.blk 2,Fr.seq (CCode.at c24 [1,1,0,1,0,0,1,0,0,1,1]),Fr.blk 1,Fr.seq (CCode.at c24 [1,1,0,1,0,0,1,1])] (.exit 2) [(2,vi d),(3,.rptr (Cds c) 0),(4,.rptr (Uds t) 0),(7,.own 0 l.length l.length),(8,vi h),(9,vi n),(10,u),(31,v)] [] (H24 l) =
  Tr.need (List.length l = List.length l ∧ 3 = 3 ∧ 1 = 1 ∧ List.length (enc eI l) = List.length l * 1 ∧ List.length [D.int .i64 n] = 1 * 1 ∧ List.length l + 1 ≤ 140737488355328 ∧ (List.length l + 1) * 8 ≤ 140737488355328) (Tr.need (-9223372036854775808 ≤ Int.ofNat h + (1:Int) ∧ Int.ofNat h + (1:Int) ≤ 9223372036854775807) (Tr.leaf CExit.normal [(2,V.d (D.int .i64 d)),(3,V.rptr (Cds c) 0),(4,V.rptr (Uds t) 0),(7,V.own 0 (Nat.add (List.length l) 1) (List.length l + 1)),(8,V.d (D.int .i64 (Int.ofNat h + (1:Int))))] [some (Blk.row 3 1 (Nat.add (List.length l) 1) (enc eI l ++ [D.int .i64 n]))])) := by kernel_rfl
theorem x24 (l:List Int) (u v w x y:V):sS X17 (doneK r24) [Fr.blk 0,Fr.seq (CCode.at c24 [1,1,1])] (.exit 0) [(2,u),(3,v),(4,w),(7,.own 0 l.length l.length),(8,x),(16,y)] [] (H24 l) =
  Tr.done (V.own 0 (List.length l) (List.length l)) [some (Blk.row 3 1 (List.length l) (enc eI l))] := by kernel_rfl
theorem dat_in {c:Cmp} {t:Tru} (hf:faultM c = 0) (hd:datedB c t = true) {k:Nat} (hk:k < c.trades.length):0 ≤ lat t.sold (k:Nat) ∧ lat t.sold (k:Nat) ≤ 11 ∧ 0 ≤ lat t.deliv (k:Nat) ∧ lat t.deliv (k:Nat) ≤ 11 ∧ lat t.sold (k:Nat) ≤ lat t.deliv (k:Nat) := by
 have h1 := (of_decide_eq_true hd).2.2 k hk
 have h2 := trade_in hf hk
 simp only [datK,okTr,Rng.has,Rng.short,inR,Bool.and_eq_true,decide_eq_true_eq] at h1 h2
 omega
theorem isReg_ref {c:Cmp} {t:Tru} (hf:faultM c = 0) (hd:datedB c t = true) {k:Nat} (hk:k < c.trades.length) (d:Int):inR (regR c.closed (lat t.deliv (k:Nat))) 0 d = true ↔ isReg c t d k := by
 have h1 := dat_in hf hd hk
 have h2 := regF_in c.closed (12 - lat t.deliv (k:Nat)).toNat (lat t.deliv (k:Nat))
 have e:regM c.closed (lat t.deliv (k:Nat)) = regR c.closed (lat t.deliv (k:Nat)) := by unfold regM regR; rw [if_pos h1.2.2.1]
 have h3:regR c.closed (lat t.deliv (k:Nat)) = -1 ∨ 0 ≤ regR c.closed (lat t.deliv (k:Nat)) := by unfold regR; omega
 simp only [inR,decide_eq_true_eq]
 unfold isReg
 rw [e]
 constructor
 ·intro h; omega
 ·intro h; omega
theorem moveF_at (f:Nat → Int) {s b u:Int} (hs:0 ≤ s) (hb:0 ≤ b) (hsb:s ≠ b) (h:Nat):moveF f s.toNat b.toNat u h = if b = h then f h + u else if s = h then f h - u else f h := by
 simp only [moveF,setF]
 by_cases e1:b = h
 ·have:h = b.toNat := by omega
  rw [if_pos this,if_pos e1,if_neg (by omega), ← this]
 ·rw [if_neg (by omega),if_neg e1]
  by_cases e2:s = h
  ·have:h = s.toNat := by omega
   rw [if_pos this,if_pos e2, ← this]
  ·rw [if_neg (by omega),if_neg e2]
theorem fin_own (e:Nat) (l:List Int):VLe (finX 0 (.own 0 l.length l.length) [some (.row e 1 l.length (enc eI l))]).1 (vsl eI l) := by
 simp [finX,rowsIn,rowsIn1,rowIn,frzRows,frzB,blkDs,fzV,fz2,fz1,bel2,bel1,bel0]
 exact .slx
def refK (c:Cmp) (t:Tru) (d:Int) (h:Nat):List Int := (List.range h).map (heldF c t d)
theorem refK_succ (c:Cmp) (t:Tru) (d:Int) (h:Nat):refK c t d (h + 1) = refK c t d h ++ [heldF c t d h] := by simp [refK,List.range_succ]
@[simp] theorem refK_len (c:Cmp) (t:Tru) (d:Int) (h:Nat):(refK c t d h).length = h := by simp [refK]
def refH (c:Cmp) (t:Tru) (d:Int):List Int := refK c t d c.held.length
theorem heldA_at (c:Cmp) (n:Int):∀ (k h:Nat),h < k → heldA c n k h = lat c.held (h:Nat) * fac c (-1) n
 | 0,h,hh => by omega
 | k + 1,h,hh => by
  simp only [heldA,setF]
  by_cases e:h = k
  ·rw [if_pos e,e]
  ·rw [if_neg e]; exact heldA_at c n k h (by omega)
theorem l24 (c:Cmp) (t:Tru) (d:Int) (hf:faultM c = 0) (hd:datedB c t = true) (hd0:d ≤ 1000) (R:V → Heap → Prop) (hR:R (.own 0 (refH c t d).length (refH c t d).length) (H24 (refH c t d))) :
  lpS Try.prog G24 0 (CCode.at c24 [1,1,0,1,0,0]) [Fr.blk 0,Fr.seq (CCode.at c24 [1,1,1])] (retQ r24 R) (E24 c t d [] 0) (H24 []) := by
 obtain ⟨⟨g1,g2,g3,g4,g5,g6,g7⟩,g8,g9,g10,g11,g12⟩ := fault_ok hf
 obtain ⟨l1,l2⟩ := dated_len hd
 refine lp_count X17_ok c.held.length (fun _ => True) (fun h => E24 c t d (refK c t d h) h) (fun h => H24 (refK c t d h)) rfl rfl trivial (fun k _ => ⟨rfl,rfl,rfl⟩) ?_
 intro h hh _ Q' hn he hr
 rw [b24]
 simp only [holds,Int.ofNat_eq_natCast,cI_I,dCe,dC_enc,true_and]
 refine ⟨fun e1 => ?_,fun e1 => ?_⟩
 ·have hlt:h < c.held.length := by have := of_decide_eq_true e1; omega
  have hi := held_in hf hlt
  have hn1 := fun J => hn J hlt trivial
  refine ⟨⟨by omega,by omega,ok_I (by simpa using hlt)⟩,⟨g11,g6,by omega,by omega,by omega,by omega,hd0⟩, ?_⟩
  clear hn he hr
  have e0:lat c.held (h:Nat) * facM c.splits (-1) d = heldT c t d 0 h := (heldA_at c d _ h hlt).symm
  rw [e0]
  refine lp_count X17_ok c.trades.length (fun _ => True) (fun k => E24i c t d (refK c t d h) h (heldT c t d k h) k) (fun _ => H24 (refK c t d h)) rfl rfl trivial (fun k _ => ⟨rfl,rfl,rfl⟩) ?_
  intro k hk _ Q2 hn he hr
  rw [b24i]
  simp only [holds,Int.ofNat_eq_natCast,cI_I,cI_T0,cI_T1,cI_T2,dCe,dC_enc,true_and]
  refine ⟨fun e2 => ?_,fun e2 => ?_⟩
  ·have hlt2:k < c.trades.length := by have := of_decide_eq_true e2; omega
   have ht := trade_in hf hlt2
   simp only [okTr,Bool.and_eq_true,decide_eq_true_eq] at ht
   have hdi := dat_in hf hd hlt2
   have hu := unitsT_in hf t d hlt2
   have hb := heldT_in hf t d k hk h
   have o1:okEl [0,0,0,0,0,0,0] (enc eT c.trades) 7 (k:Nat) := ok_T (by simpa using hlt2)
   have o2:okEl [0] (enc eI t.deliv) 1 (k:Nat) := ok_I (by simp; omega)
   have o3:okEl [0] (enc eI t.sold) 1 (k:Nat) := ok_I (by simp; omega)
   have hreg := isReg_ref hf hd hlt2 d
   have hn2 := fun J => hn J hlt2 trivial
   have eu:(lat c.trades (k:Nat)).shares * facM c.splits (lat t.sold (k:Nat)) d = unitsT c t d k := rfl
   have hmv := moveF_at (heldT c t d k) (s := (lat c.trades (k:Nat)).seller) (b := (lat c.trades (k:Nat)).buyer) (u := unitsT c t d k) (by omega) (by omega) (by omega) h
   have hk4:(k:Int) ≤ 3 := by omega
   have hhr:(c.houses:Int) ≤ 4 := g2
   simp only [eu]
   refine ⟨⟨by omega,by omega,o1⟩,⟨by omega,by omega,o2⟩,⟨by omega,by omega⟩,fun e3 => ?_,fun e3 => ?_⟩
   ·have hx:¬ isReg c t d k := fun h => by rw [hreg.2 h] at e3; cases e3
    simp only [heldT,if_neg hx] at hn2
    exact ⟨⟨by omega,by omega⟩,hn2 _⟩
   ·have hx:isReg c t d k := hreg.1 (by simpa using e3)
    simp only [heldT,if_pos hx,hmv] at hn2
    have nd:(-1000:Int) ≤ lat t.sold (k:Nat) ∧ lat t.sold (k:Nat) ≤ 1000 := by omega
    refine ⟨fun e4 => ⟨⟨by omega,by omega,o3⟩,⟨g11,g6,by omega,by omega,nd.1,nd.2,hd0⟩,⟨by omega,by omega⟩,fun e5 => ?_,fun e5 => ?_⟩,fun e4 => ⟨fun e5 => ?_,fun e5 => ?_⟩⟩
    ·have e4 := eq_of_beq e4
     have e5 := eq_of_beq e5
     exact (ht.1.1.2.2.2.2.1 (by omega)).elim
    ·rw [if_pos (eq_of_beq e4)] at hn2
     exact ⟨⟨by omega,by omega⟩,hn2 _⟩
    ·rw [if_neg (by simpa using e4),if_pos (eq_of_beq e5)] at hn2
     exact ⟨⟨by omega,by omega,o3⟩,⟨g11,g6,by omega,by omega,nd.1,nd.2,hd0⟩,⟨by omega,by omega⟩,⟨by omega,by omega⟩,hn2 _⟩
    ·rw [if_neg (by simpa using e4),if_neg (by simpa using e5)] at hn2
     exact ⟨⟨by omega,by omega⟩,hn2 _⟩
  ·have hge:k = c.trades.length := by have := of_decide_eq_false e2; omega
   subst hge
   refine he _ _ _ (ret_tree (R := fun _ _ => True) X17_ok leafK_ok (x24i _ _ _ _ _ _ _ _) ?_)
   simp only [holds,Int.ofNat_eq_natCast]
   refine ⟨⟨trivial,trivial,trivial,by simp,rfl,by rw [refK_len]; omega,by rw [refK_len]; omega⟩,⟨by omega,by omega⟩, ?_⟩
   simp only [E24,H24,refK_succ,enc_append,enc_one,List.length_append,List.length_cons,List.length_nil] at hn1
   exact hn1 []
 ·have hge:h = c.held.length := by have := of_decide_eq_false e1; omega
  subst hge
  refine he _ _ _ (ret_tree (R := R) X17_ok (doneK_ok rfl) (x24 _ _ _ _ _ _) ?_)
  simp only [holds]
  exact hR
theorem y24 (c:Cmp) (t:Tru) (d:Int) (hf:faultM c = 0) (hd:datedB c t = true) (hd0:d ≤ 1000):Yields Try.prog 24 [Cv c,Uv t,vi d] (vsl eI (refH c t d)) := by
 refine q24.yieldsX X17_ok rfl rfl ?_ (w24 c t d) ?_
 ·rfl
 simp only [holds]
 exact LoopP.state (StLe.ghostTmp (t := 7) 3 1 rfl) (l24 c t d hf hd hd0 _ (fin_own 3 (refH c t d)))
def entCUI (q:Cmp → Tru → Int → Prop) (m:Cmp → Tru → Int → V):Ent := fun args _ => match args with
 | [x,y,.d (.int .i64 n)] => match asC x,asU y with
  | some c,some t => some (Cv c = x ∧ Uv t = y ∧ q c t n,m c t n,none)
  | _,_ => none
 | _ => none
theorem entCUI_ok {P:Program} {f:Nat} {q:Cmp → Tru → Int → Prop} {m:Cmp → Tru → Int → V} (hy:∀ c t n,q c t n → Yields P f [Cv c,Uv t,vi n] (m c t n)):EntOk P f (entCUI q m) := by
 intro args h p v h' he hp
 unfold entCUI at he
 split at he
 ·split at he
  ·cases he; rw [← hp.1, ← hp.2.1]; exact hy _ _ _ hp.2.2 h
  ·cases he
 ·cases he
def ent24 := entCUI (fun c t d => faultM c = 0 ∧ datedB c t = true ∧ d ≤ 1000) (fun c t d => vsl eI (refH c t d))
theorem ent24_ok:EntOk Try.prog 24 ent24 := entCUI_ok fun c t d h => y24 c t d h.1 h.2.1 h.2.2
def tab18:Spec := (spAdd 24 ent24 tab17)
theorem tab18_ok:SpOk Try.prog tab18 := (spAdd_ok ent24_ok tab17_ok)
def X18:Sx := mkX tab18
theorem X18_ok:SpOk Try.prog X18.sp := tab18_ok
theorem held_out {c:Cmp} (hf:faultM c = 0) (t:Tru) (n:Int) {i:Nat} (hi:c.held.length ≤ i):∀ k,k ≤ c.trades.length → heldT c t n k i = 0
 | 0,_ => by
  have:∀ k,k ≤ c.held.length → heldA c n k i = 0 := by
   intro k
   induction k with
   | zero => intro _; rfl
   | succ k ih => intro hk; simp only [heldA,setF]; rw [if_neg (by omega)]; exact ih (by omega)
  exact this _ (Nat.le_refl _)
 | k + 1,hk => by
  have ht := trade_in hf (show k < c.trades.length by omega)
  simp only [okTr,Bool.and_eq_true,decide_eq_true_eq] at ht
  have hl := (fault_ok hf).1.2.2.1
  rw [heldT]
  have ih := held_out hf t n hi k (by omega)
  split
  ·rw [moveF_at _ (by omega) (by omega) (by omega),if_neg (by omega),if_neg (by omega)]; exact ih
  ·exact ih
theorem refH_at {c:Cmp} {t:Tru} {d:Int} {h:Nat} (hh:h < c.held.length):lat (refH c t d) (h:Nat) = heldF c t d h := by
 simp [lat,refH,refK,hh]
@[simp] theorem refH_len (c:Cmp) (t:Tru) (d:Int):(refH c t d).length = c.held.length := by simp [refH]
def E44 (c:Cmp) (t:Tru) (d:Nat):Env := [(2,.rptr (Cds c) 0),(3,.rptr (Uds t) 0),(5,vi d)]
def E44i (c:Cmp) (t:Tru) (d:Nat) (k:Nat):Env := [(2,.rptr (Cds c) 0),(3,.rptr (Uds t) 0),(5,vi d),(6,vsl eI (refH c t d)),(7,vi k)]
theorem w44 (c:Cmp) (t:Tru):sx X18 c44 [] (doneK r44) (envOf [Cv c,Uv t]) [] [] =
  Tr.need (Cv (dCe c) = Cv c ∧ Uv (dUe t) = Uv t ∧ List.length (Cmp.trades (dCe c)) ≤ 1000000) (Tr.br (!datedB (dCe c) (dUe t)) (Tr.done (V.d (D.bool false)) []) (Tr.lp (CCode.at c44 [1,1,0,1,0,0]) [Fr.blk 0,Fr.seq (CCode.at c44 [1,1,1])] [(2,V.rptr (Cds c) 0),(3,V.rptr (Uds t) 0),(5,V.d (D.int .i64 0))] [])) := by kernel_rfl
theorem b44 (c:Cmp) (t:Tru) (d:Nat):sx X18 (CCode.at c44 [1,1,0,1,0,0]) [] leafK (E44 c t d) [] [] =
  let y0_ := (decide (Int.ofNat d ≤ (11:Int)))
  let y1_ := (refH (dCe c) (dUe t) (Int.ofNat d))
  let y2_ := (5,V.d (D.int .i64 (Int.ofNat d)))
  Tr.br y0_ (Tr.need (Cv (dCe c) = Cv c ∧ Uv (dUe t) = Uv t ∧ faultM (dCe c) = (0:Int) ∧ datedB (dCe c) (dUe t) = true ∧ Int.ofNat d ≤ (1000:Int)) (Tr.lp (CCode.at c44 [1,1,0,1,0,0,1,0,0,1,1,0,0]) [Fr.blk 2,Fr.blk 1,Fr.seq (CCode.at c44 [1,1,0,1,0,0,1,1])] [(2,V.rptr (Cds c) 0),(3,V.rptr (Uds t) 0),y2_,(6,V.d (D.sl false (List.length y1_) (enc eI y1_))),(7,V.d (D.int .i64 0))] [])) (Tr.leaf (CExit.exit 0) [(2,V.rptr (Cds c) 0),(3,V.rptr (Uds t) 0),y2_,(13,V.d (D.bool y0_))] []) := by kernel_rfl
theorem b44i (c:Cmp) (t:Tru) (d:Nat) (k:Nat):sx X18 (CCode.at c44 [1,1,0,1,0,0,1,0,0,1,1,0,0]) [] leafK (E44i c t d k) [] [] =
  let y0_ := (refH c t (Int.ofNat d))
  let y1_ := (List.length y0_)
  let y2_ := (decide (Int.ofNat k < Int.ofNat y1_))
  let y3_ := (6,V.d (D.sl false y1_ (enc eI y0_)))
  let y4_ := (5,V.d (D.int .i64 (Int.ofNat d)))
  Tr.br y2_ (Tr.need ((0:Int) ≤ Int.ofNat k ∧ Int.ofNat k < Int.ofNat y1_ ∧ okEl [0] (enc eI y0_) 1 (Int.ofNat k)) (Tr.br (decide (cI (enc eI y0_) 1 (Int.ofNat k) 0 < (0:Int))) (Tr.leaf CExit.ret [(4,V.d (D.bool false))] []) (Tr.need (-9223372036854775808 ≤ Int.ofNat k + (1:Int) ∧ Int.ofNat k + (1:Int) ≤ 9223372036854775807) (Tr.leaf CExit.normal [(2,V.rptr (Cds c) 0),(3,V.rptr (Uds t) 0),y4_,y3_,(7,V.d (D.int .i64 (Int.ofNat k + (1:Int))))] [])))) (Tr.leaf (CExit.exit 2) [(2,V.rptr (Cds c) 0),(3,V.rptr (Uds t) 0),y4_,y3_,(7,V.d (D.int .i64 (Int.ofNat k))),(23,V.d (D.bool y2_))] []) := by kernel_rfl
theorem x44i (c:Cmp) (t:Tru) (w x:V) (d:Nat) (l:List Int):sS X18 leafK [Fr.blk 2,Fr.blk 1,Fr.seq (CCode.at c44 [1,1,0,1,0,0,1,1])] (.exit 2) [(2,.rptr (Cds c) 0),(3,.rptr (Uds t) 0),(5,vi d),(6,vsl eI l),(7,w),(23,x)] [] [] =
  Tr.need (-9223372036854775808 ≤ Int.ofNat d + (1:Int) ∧ Int.ofNat d + (1:Int) ≤ 9223372036854775807) (Tr.leaf CExit.normal [(2,V.rptr (Cds c) 0),(3,V.rptr (Uds t) 0),(5,V.d (D.int .i64 (Int.ofNat d + (1:Int))))] []) := by kernel_rfl
theorem x44 (u v w x:V):sS X18 (doneK r44) [Fr.blk 0,Fr.seq (CCode.at c44 [1,1,1])] (.exit 0) [(2,u),(3,v),(5,w),(13,x)] [] [] =
  Tr.done (V.d (D.bool true)) [] := by kernel_rfl
theorem t44 (b:Bool):sS X18 (doneK r44) [Fr.blk 0,Fr.seq (CCode.at c44 [1,1,1])] .ret [(4,vb b)] [] [] =
  Tr.done (V.d (D.bool b)) [] := by kernel_rfl
def truthB (c:Cmp) (t:Tru):Bool := datedB c t && fitsB c t
theorem y44 (c:Cmp) (t:Tru) (hf:faultM c = 0):Yields Try.prog 44 [Cv c,Uv t] (vb (truthB c t)) := by
 have hbs := fault_ok hf
 refine q44.yieldsK X18_ok rfl rfl rfl (w44 c t) ?_
 simp only [holds,dCe,dC_enc,dUe,dU_enc,true_and]
 refine ⟨by omega,fun g1 => ?_,fun g1 => ?_⟩
 ·have g1:datedB c t = false := by simpa using g1
  refine .of_eq (congrArg vb ?_)
  simp [truthB,g1]
 have hd:datedB c t = true := by simpa using g1
 refine lp_count X18_ok 12 (fun d => ∀ j,j < d → ∀ i,i < 4 → 0 ≤ heldF c t (j:Nat) i) (E44 c t) (fun _ => []) rfl rfl (fun j hj => by omega) (fun k _ => ⟨rfl,rfl,rfl⟩) ?_
 intro d hdd hA Q' hn he hr
 rw [b44]
 simp only [holds,Int.ofNat_eq_natCast,dCe,dC_enc,dUe,dU_enc,true_and]
 refine ⟨fun g2 => ⟨⟨hf,hd,by omega⟩, ?_⟩,fun g2 => ?_⟩
 ·have hlt:d < 12 := by have := of_decide_eq_true g2; omega
  have hn1 := hn [] hlt
  refine lp_count X18_ok c.held.length (fun k => ∀ j,j < k → 0 ≤ heldF c t (d:Nat) j) (E44i c t d) (fun _ => []) rfl rfl (fun j hj => by omega) (fun k _ => ⟨rfl,rfl,rfl⟩) ?_
  intro k hk hB Q2 hn2 he2 hr2
  rw [b44i]
  simp only [holds,Int.ofNat_eq_natCast,cI_I,refH_len]
  refine ⟨fun g3 => ?_,fun g3 => ?_⟩
  ·have hlt2:k < c.held.length := by have := of_decide_eq_true g3; omega
   rw [refH_at hlt2]
   refine ⟨⟨by omega,by omega,ok_I (by simp; omega)⟩,fun g4 => ?_,fun g4 => ⟨⟨by omega,by omega⟩, ?_⟩⟩
   ·refine hr2 _ _ (retS_ret (hr _ _ (ret_tree X18_ok (doneK_ok rfl) (t44 false) ?_)))
    simp only [holds]
    refine .of_eq (congrArg vb ?_)
    have g4 := of_decide_eq_true g4
    have:fitsB c t = false := by
     simp only [fitsB,decide_eq_false_iff_not]
     intro h
     have := h d hlt k (by omega)
     omega
    simp [truthB,this]
   ·have g4 := of_decide_eq_false g4
    have := hn2 [] hlt2 (step_all hB (by omega))
    simp only [E44i,vsl,dsl,refH_len] at this
    exact this
  ·have hge:k = c.held.length := by have := of_decide_eq_false g3; omega
   subst hge
   have hx := x44i c t (vi c.held.length) (vb (decide ((c.held.length:Int) < c.held.length))) d (refH c t (d:Nat))
   simp only [vsl,dsl,refH_len] at hx
   refine he2 _ _ _ (ret_tree (R := fun _ _ => True) X18_ok leafK_ok hx ?_)
   simp only [holds,Int.ofNat_eq_natCast]
   refine ⟨⟨by omega,by omega⟩, ?_⟩
   refine hn1 (step_all hA fun i hi => ?_)
   rcases Nat.lt_or_ge i c.held.length with h | h
   ·exact hB i h
   ·have := held_out hf t (d:Nat) h c.trades.length (Nat.le_refl _)
    have e:heldF c t (d:Nat) i = 0 := this
    omega
 ·have hge:d = 12 := by have := of_decide_eq_false g2; omega
  subst hge
  refine he _ _ _ (ret_tree X18_ok (doneK_ok rfl) (x44 _ _ _ _) ?_)
  simp only [holds]
  refine .of_eq (congrArg vb ?_)
  have:fitsB c t = true := by simp only [fitsB,decide_eq_true_eq]; exact hA
  simp [truthB,this,hd]
end
end Go.Proofs.Ytdnefcjbcieecaa
namespace Go.Proofs.Ytdnefcjbcieecaa
noncomputable section
open Go
theorem plain0_rep {M M' : Mem} (hr:∀ b o v,M.ro b o = some v → M'.ro b o = some v) {v:V} (hp:plain0 v = true) {c:Value} (h:RepV M v c):RepV M' v c := by
 cases h with
 | any v => exact .any _
 | d x v h => exact .d _ _ (h.mono hr)
 | rptr cs off b o vals h1 h2 => exact .rptr _ _ b o vals (fun k hk => hr _ _ _ (h1 k hk)) (fun k c hk => (h2 k c hk).mono hr)
 | _ => cases hp
theorem plain1_rep {M M' : Mem} (hr:∀ b o v,M.ro b o = some v → M'.ro b o = some v) {v:V} (hp:plain1 v = true) {c:Value} (h:RepV M v c):RepV M' v c := by
 cases h with
 | any v => exact .any _
 | d x v h => exact .d _ _ (h.mono hr)
 | rptr cs off b o vals h1 h2 => exact .rptr _ _ b o vals (fun k hk => hr _ _ _ (h1 k hk)) (fun k c hk => (h2 k c hk).mono hr)
 | agg cs arr hl h h1 =>
  have hp:allZ plain0 cs = true := hp
  rw [allZ_eq] at hp
  exact .agg cs arr hl (fun k v c hv hc => plain0_rep hr (all_get hp hv) (h k v c hv hc)) h1
 | _ => cases hp
theorem plain2_rep {M M' : Mem} (hr:∀ b o v,M.ro b o = some v → M'.ro b o = some v) {v:V} (hp:plain2 v = true) {c:Value} (h:RepV M v c):RepV M' v c := by
 cases h with
 | any v => exact .any _
 | d x v h => exact .d _ _ (h.mono hr)
 | rptr cs off b o vals h1 h2 => exact .rptr _ _ b o vals (fun k hk => hr _ _ _ (h1 k hk)) (fun k c hk => (h2 k c hk).mono hr)
 | agg cs arr hl h h1 => exact plain1_rep hr (v := .agg cs) hp (.agg cs arr hl h h1)
 | tup cs arr hl h =>
  have hp:allZ plain1 cs = true := hp
  rw [allZ_eq] at hp
  exact .tup cs arr hl (fun k v c hv hc => plain1_rep hr (all_get hp hv) (h k v c hv hc))
 | _ => cases hp
theorem ACalls.frame {P:Program} {g:Nat} {args:List V} {v:V} (ha:allZ plain1 args = true) (hv:plain2 v = true) (hc:ACalls P g args [] fun v1 h1 => v1 = v ∧ h1 = []) (h:Heap) :
  ACalls P g args h fun v1 h1 => v1 = v ∧ h1 = h := by
 refine ⟨hc.1,fun M w us hm hs hu => ?_⟩
 rw [allZ_eq] at ha
 let M0:Mem := { M with mu := fun _ => none }
 have hs0:Sim M0 [] w := ⟨fun i blk hi => by simp at hi,fun i j bi bj ri rj b hi => by simp at hi,fun b o u hu => ⟨(hs.ro b o u hu).1,fun ⟨i,blk,r,hi,_⟩ => by simp at hi⟩,fun _ _ => rfl,
  fun b hb => ⟨(hs.df b hb).1,fun ⟨i,blk,r,hi,_⟩ => by simp at hi⟩⟩
 have hu0:RepL M0 args us := ⟨hu.1,fun k x c hx hc => plain1_rep (M := M) (M' := M0) (fun _ _ _ h => h) (all_get ha hx) (hu.2 k x c hx hc)⟩
 refine (hc.2 M0 w us hm hs0 hu0).mono ?_
 rintro e w' ⟨cv,v1,h1,M1,rfl,p,hrv,rfl,rfl⟩
 have hnl:∀ b, ¬ liveBlk M0 [] b := fun b ⟨i,blk,r,hi,_⟩ => by simp at hi
 let M' : Mem := { M1 with mu := M.mu }
 have hro:∀ b o u,M.ro b o = some u → M'.ro b o = some u := fun b o u hu => p.ro b o u hu
 have hle:MuLe M M' := fun i r hr => ⟨r,hr,Nat.le_refl _,fun _ => rfl⟩
 have hlive:∀ b,liveBlk M' h b → liveBlk M h b := fun b hl => hl
 refine ⟨cv,v1,h,M',rfl,⟨hro,⟨⟨p.dc.1.1,p.dc.1.2.1,fun b o u hb hu => ?_⟩,p.dc.2⟩,hle,Nat.le_refl _,⟨fun i blk hi => ?_,hs.inj,fun b o u hu => ⟨(p.sim.ro b o u hu).1,fun hl => ?_⟩,hs.dom,fun b hb => ⟨(p.sim.df b hb).1,fun hl => ?_⟩⟩,
  p.os,p.tape,p.output,p.size,fun b hb _ => p.keep b hb (hnl b),fun b _ hl => hl⟩,plain2_rep (M := M1) (M' := M') (fun _ _ _ h => h) hv hrv,rfl,rfl⟩
 ·exact (p.dc.1.2.2 b o u hb hu).elim .inl fun hl => (hnl b hl).elim
 ·obtain ⟨r,hr,hat⟩ := hs.blks i blk hi
  exact ⟨r,hr,BlkAt.of_same (M := M) (M' := M') (w := w) p.dc.2 hro (fun x v hx => hx.mono hro hle) (fun b hb => p.keep b (hs.live_lt ⟨i,blk,r,hi,hr,hb⟩) (hnl b)) hat⟩
 ·have hlt := hs.live_lt hl
  rcases p.dc.1.2.2 b o u hlt hu with h0 | h0
  ·exact (hs.ro b o u h0).2 hl
  ·exact hnl b h0
 ·have hlt := hs.live_lt hl
  exact (hs.df b (p.dc.1.2.1 b hlt hb)).2 hl
abbrev MemoX := Nat → List V → Option V
def MemoOk (P:Program) (memo:MemoX):Prop := ∀ g args v,memo g args = some v → ∀ h,ACalls P g args h fun v1 h1 => v1 = v ∧ h1 = h
def memo0:MemoX := fun _ _ => none
def memoC (g:Nat) (args:List V) (v:V) (rest:MemoX):MemoX := fun g' a => @Bool.rec (fun _ => Option V) (rest g' a) (@Bool.rec (fun _ => Option V) (rest g' a) (some v) (eqVLF args a)) (Nat.beq g' g)
theorem memo0_ok {P:Program}:MemoOk P memo0 := fun _ _ _ h => by cases h
theorem memoC_ok {P:Program} {g:Nat} {args:List V} {v:V} {rest:MemoX} (hc:∀ h,ACalls P g args h fun v1 h1 => v1 = v ∧ h1 = h) (hr:MemoOk P rest):MemoOk P (memoC g args v rest) := by
 intro g' a v' he
 unfold memoC at he
 cases hg:Nat.beq g' g with
 | false => rw [hg] at he; exact hr g' a v' he
 | true =>
  rw [hg] at he
  cases ha:eqVLF args a with
  | false => rw [ha] at he; exact hr g' a v' he
  | true =>
   rw [ha] at he
   cases he
   rw [Nat.eq_of_beq_eq_true hg, ← eqVLF_sound _ _ ha]
   exact hc
def tabM (tab:TabX) (memo:MemoX) (ih:XCall) (k:Nat) (g:Nat) (args:List V) (d:Wd) (h:Heap):RQ :=
 @Option.rec V (fun _ => RQ) (tabQ tab ih k g args d h) (fun v => some (v,d,h)) (memo g args)
def dispM (f:V) (tab:TabX) (memo:MemoX) (ih:XCall) (k:Nat) (args:List V) (d:Wd) (h:Heap):RQ := @V.rec (fun _ => TabX → MemoX → XCall → Nat → List V → Wd → Heap → RQ) (fun _ => Unit) (fun _ _ _ _ _ _ _ => none) (@D.rec (fun _ => TabX → MemoX → XCall → Nat → List V → Wd → Heap → RQ) (fun _ => Unit) (fun _ _ _ _ _ _ _ => none) (fun _ _ => (fun _ _ _ _ _ _ _ => none)) (fun _ => (fun _ _ _ _ _ _ _ => none)) (fun _ => (fun _ _ _ _ _ _ _ => none)) (fun _ _ _ _ _ _ _ => none) (fun _ _ _ _ _ _ _ => none) (fun _ _ _ _ _ _ _ => none) (fun _ _ _ _ _ _ _ => none) (@Fn.rec (fun _ => TabX → MemoX → XCall → Nat → List V → Wd → Heap → RQ) (fun g tab memo ih k args d h => tabM tab memo ih k g args d h) (fun _ => (fun _ _ _ _ _ _ _ => none)) (fun _ _ => (fun _ _ _ _ _ _ _ => none)) (fun _ _ _ _ => (fun _ _ _ _ _ _ _ => none)) (fun _ => (fun _ _ _ _ _ _ _ => none))) (fun _ _ _ _ => (fun _ _ _ _ _ _ _ => none)) () (fun _ _ _ _ => ())) (fun _ _ => (fun _ _ _ _ _ _ _ => none)) (fun _ _ => (fun _ _ _ _ _ _ _ => none)) (fun _ _ _ => (fun _ _ _ _ _ _ _ => none)) (fun _ _ _ => (fun _ _ _ _ _ _ _ => none)) (fun _ _ => (fun _ _ _ _ _ _ _ => none)) (fun f first caps _ _ => @Fn.rec (fun _ => List V → List V → TabX → MemoX → XCall → Nat → List V → Wd → Heap → RQ) (fun g first caps tab memo ih k args d h => tabM tab memo ih k g (appZ first (appZ args caps)) d h) (fun _ _ _ => (fun _ _ _ _ _ _ _ => none)) (fun _ _ _ _ => (fun _ _ _ _ _ _ _ => none)) (fun _ _ _ _ _ _ => (fun _ _ _ _ _ _ _ => none)) (fun _ _ _ => (fun _ _ _ _ _ _ _ => none)) f first caps) (fun _ => (fun _ _ _ _ _ _ _ => none)) (fun id tab memo ih k args d h => yieldZ ih k id args d h) () (fun _ _ _ _ => ()) f tab memo ih k args d h
def callM (tab:TabX) (memo:MemoX) (k:Nat):XCall := Nat.rec (motive := fun _ => XCall) (fun _ _ _ _ => none) (fun k ih f args d h => dispM f tab memo ih k args d h) k
theorem tabM_sound {P:Program} {tab:TabX} {memo:MemoX} (ht:TabOk P tab) (hm:MemoOk P memo) {ih:XCall} (hi:CallOk P ih) {k g:Nat} {args:List V} {d d' : Wd} {h h' : Heap} {v:V}
  (he:tabM tab memo ih k g args d h = some (v,d',h')):ACalls P g args h (fun v1 h1 => v1 = v ∧ h1 = h') ∧ Low d d' h h' := by
 unfold tabM at he
 cases hq:memo g args with
 | some v0 => rw [hq] at he; cases he; exact ⟨hm g args _ hq h,Low.refl _ _⟩
 | none =>
  rw [hq] at he
  have he:tabQ tab ih k g args d h = some (v,d',h') := he
  rw [tabQ_eq] at he
  split at he
  ·rename_i F hF; exact funZ_sound hi (ht g F hF) he
  ·cases he
theorem callM_sound {P:Program} {tab:TabX} {memo:MemoX} (ht:TabOk P tab) (hm:MemoOk P memo):∀ k,CallOk P (callM tab memo k)
 | 0,_,_,_,_,_,_,_,he => by cases he
 | k + 1,f,args,d,h,v,d',h',he => by
  have he2:dispM f tab memo (callM tab memo k) k args d h = some (v,d',h') := he
  clear he
  cases f with
  | d y => cases y with
   | fn f => cases f with
    | func g => exact tabM_sound ht hm (callM_sound ht hm k) he2
    | _ => cases he2
   | _ => cases he2
  | fn f first caps => cases f with
   | func g =>
    have he3:tabM tab memo (callM tab memo k) k g (appZ first (appZ args caps)) d h = some (v,d',h') := he2
    rw [appZ_eq,appZ_eq, ← List.append_assoc] at he3
    exact tabM_sound ht hm (callM_sound ht hm k) he3
   | _ => cases he2
  | yl id =>
   have he3:yieldZ (callM tab memo k) k id args d h = some (v,d',h') := he2
   rw [yieldZ_eq] at he3
   exact yieldX_sound (callM_sound ht hm k) he3
  | _ => cases he2
def chkM (tab:TabX) (memo:MemoX) (k g:Nat) (args:List V) (v:V):Bool :=
 andQ (allZ plain1 args) (andQ (plain2 v) (@Option.rec (V × Wd × Heap) (fun _ => Bool) false (fun q => andQ (eqVF q.1 v) (@List.rec (Option Blk) (fun _ => Bool) true (fun _ _ _ => false) q.2.2)) (callM tab memo k (.d (.fn (.func g))) args .all [])))
theorem chkM_sound {P:Program} {tab:TabX} {memo:MemoX} (ht:TabOk P tab) (hm:MemoOk P memo) {k g:Nat} {args:List V} {v:V} (he:chkM tab memo k g args v = true) :
  ∀ h,ACalls P g args h fun v1 h1 => v1 = v ∧ h1 = h := by
 unfold chkM at he
 simp only [andQ_eq,Bool.and_eq_true] at he
 obtain ⟨h1,h2,h3⟩ := he
 cases hc:callM tab memo k (.d (.fn (.func g))) args .all [] with
 | none => rw [hc] at h3; cases h3
 | some q =>
  obtain ⟨v',d',h'⟩ := q
  rw [hc] at h3
  have h3:(eqVF v' v && @List.rec (Option Blk) (fun _ => Bool) true (fun _ _ _ => false) h') = true := h3
  simp only [Bool.and_eq_true] at h3
  obtain ⟨e1,e2⟩ := h3
  have e1 := eqVF_sound _ _ e1
  subst e1
  cases h' with
  | cons b r => cases e2
  | nil => exact ACalls.frame h1 h2 (callM_sound ht hm k _ _ _ _ _ _ _ hc).1
end
end Go.Proofs.Ytdnefcjbcieecaa
namespace Go.Proofs.Ytdnefcjbcieecaa
open Go Go.Proofs
def lf (i:Nat) (F:FunX):TabX := fun n => bif Nat.beq n i then some F else none
def nd (k:Nat) (a b:TabX):TabX := fun n => bif Nat.ble n k then a n else b n
theorem lf_ok {P:Program} {i:Nat} {F:FunX} (h:FunOk P i F):TabOk P (lf i F) := by
 intro f F' he
 unfold lf at he
 cases hb:Nat.beq f i with
 | true => rw [hb] at he; cases he; rw [Nat.eq_of_beq_eq_true hb]; exact h
 | false => rw [hb] at he; cases he
theorem nd_ok {P:Program} {k:Nat} {a b:TabX} (ha:TabOk P a) (hb:TabOk P b):TabOk P (nd k a b) := by
 intro f F' he
 unfold nd at he
 cases hc:Nat.ble f k with
 | true => rw [hc] at he; exact ha f F' he
 | false => rw [hc] at he; exact hb f F' he
def tab:TabX := (nd 86 (nd 60 (nd 38 (nd 26 (nd 19 (nd 18 (lf 18 F18) (lf 19 F19)) (nd 25 (lf 25 F25) (lf 26 F26))) (nd 28 (nd 27 (lf 27 F27) (lf 28 F28)) (nd 33 (lf 33 F33) (lf 38 F38)))) (nd 54 (nd 52 (nd 50 (lf 50 F50) (lf 52 F52)) (nd 53 (lf 53 F53) (lf 54 F54))) (nd 58 (nd 55 (lf 55 F55) (lf 58 F58)) (nd 59 (lf 59 F59) (lf 60 F60))))) (nd 73 (nd 67 (nd 65 (nd 64 (lf 64 F64) (lf 65 F65)) (nd 66 (lf 66 F66) (lf 67 F67))) (nd 71 (nd 68 (lf 68 F68) (lf 71 F71)) (nd 72 (lf 72 F72) (lf 73 F73)))) (nd 78 (nd 76 (nd 75 (lf 75 F75) (lf 76 F76)) (nd 77 (lf 77 F77) (lf 78 F78))) (nd 83 (nd 82 (lf 82 F82) (lf 83 F83)) (nd 84 (lf 84 F84) (nd 85 (lf 85 F85) (lf 86 F86))))))) (nd 103 (nd 94 (nd 90 (nd 88 (nd 87 (lf 87 F87) (lf 88 F88)) (nd 89 (lf 89 F89) (lf 90 F90))) (nd 92 (nd 91 (lf 91 F91) (lf 92 F92)) (nd 93 (lf 93 F93) (lf 94 F94)))) (nd 98 (nd 96 (nd 95 (lf 95 F95) (lf 96 F96)) (nd 97 (lf 97 F97) (lf 98 F98))) (nd 100 (nd 99 (lf 99 F99) (lf 100 F100)) (nd 101 (lf 101 F101) (nd 102 (lf 102 F102) (lf 103 F103)))))) (nd 111 (nd 107 (nd 105 (nd 104 (lf 104 F104) (lf 105 F105)) (nd 106 (lf 106 F106) (lf 107 F107))) (nd 109 (nd 108 (lf 108 F108) (lf 109 F109)) (nd 110 (lf 110 F110) (lf 111 F111)))) (nd 115 (nd 113 (nd 112 (lf 112 F112) (lf 113 F113)) (nd 114 (lf 114 F114) (lf 115 F115))) (nd 117 (nd 116 (lf 116 F116) (lf 117 F117)) (nd 118 (lf 118 F118) (nd 119 (lf 119 F119) (lf 120 F120))))))))
theorem tab_ok:TabOk Try.prog tab := (nd_ok (nd_ok (nd_ok (nd_ok (nd_ok (nd_ok (lf_ok o18) (lf_ok o19)) (nd_ok (lf_ok o25) (lf_ok o26))) (nd_ok (nd_ok (lf_ok o27) (lf_ok o28)) (nd_ok (lf_ok o33) (lf_ok o38)))) (nd_ok (nd_ok (nd_ok (lf_ok o50) (lf_ok o52)) (nd_ok (lf_ok o53) (lf_ok o54))) (nd_ok (nd_ok (lf_ok o55) (lf_ok o58)) (nd_ok (lf_ok o59) (lf_ok o60))))) (nd_ok (nd_ok (nd_ok (nd_ok (lf_ok o64) (lf_ok o65)) (nd_ok (lf_ok o66) (lf_ok o67))) (nd_ok (nd_ok (lf_ok o68) (lf_ok o71)) (nd_ok (lf_ok o72) (lf_ok o73)))) (nd_ok (nd_ok (nd_ok (lf_ok o75) (lf_ok o76)) (nd_ok (lf_ok o77) (lf_ok o78))) (nd_ok (nd_ok (lf_ok o82) (lf_ok o83)) (nd_ok (lf_ok o84) (nd_ok (lf_ok o85) (lf_ok o86))))))) (nd_ok (nd_ok (nd_ok (nd_ok (nd_ok (lf_ok o87) (lf_ok o88)) (nd_ok (lf_ok o89) (lf_ok o90))) (nd_ok (nd_ok (lf_ok o91) (lf_ok o92)) (nd_ok (lf_ok o93) (lf_ok o94)))) (nd_ok (nd_ok (nd_ok (lf_ok o95) (lf_ok o96)) (nd_ok (lf_ok o97) (lf_ok o98))) (nd_ok (nd_ok (lf_ok o99) (lf_ok o100)) (nd_ok (lf_ok o101) (nd_ok (lf_ok o102) (lf_ok o103)))))) (nd_ok (nd_ok (nd_ok (nd_ok (lf_ok o104) (lf_ok o105)) (nd_ok (lf_ok o106) (lf_ok o107))) (nd_ok (nd_ok (lf_ok o108) (lf_ok o109)) (nd_ok (lf_ok o110) (lf_ok o111)))) (nd_ok (nd_ok (nd_ok (lf_ok o112) (lf_ok o113)) (nd_ok (lf_ok o114) (lf_ok o115))) (nd_ok (nd_ok (lf_ok o116) (lf_ok o117)) (nd_ok (lf_ok o118) (nd_ok (lf_ok o119) (lf_ok o120))))))))
end Go.Proofs.Ytdnefcjbcieecaa
namespace Go.Proofs.Ytdnefcjbcieecaa
noncomputable section
open Go Go.Proofs
set_option maxRecDepth 100000
def aAw0:List V := [(.agg [(.d (.int .i64 (.ofNat (nat_lit 2)))),(.d (.sl true (nat_lit 2) [(.int .i64 (.ofNat (nat_lit 10))),(.int .i64 (.ofNat (nat_lit 0)))])),(.d (.sl true (nat_lit 1) [(.int .i64 (.ofNat (nat_lit 0))),(.int .i64 (.ofNat (nat_lit 1))),(.int .i64 (.ofNat (nat_lit 4))),(.int .i64 (.ofNat (nat_lit 2))),(.int .i64 (.ofNat (nat_lit 3))),(.int .i64 (.ofNat (nat_lit 4))),(.int .i64 (.ofNat (nat_lit 5)))])),(.d (.sl true (nat_lit 1) [(.int .i64 (.ofNat (nat_lit 3))),(.int .i64 (.ofNat (nat_lit 4))),(.int .i64 (.ofNat (nat_lit 5)))])),(.d (.sl true (nat_lit 1) [(.int .i64 (.ofNat (nat_lit 4))),(.int .i64 (.ofNat (nat_lit 3))),(.int .i64 (.ofNat (nat_lit 2)))])),(.d (.sl true (nat_lit 1) [(.int .i64 (.ofNat (nat_lit 5))),(.int .i64 (.ofNat (nat_lit 6)))]))]),(.agg [(.d (.sl true (nat_lit 1) [(.int .i64 (.ofNat (nat_lit 2)))])),(.d (.sl true (nat_lit 1) [(.int .i64 (.ofNat (nat_lit 4)))]))]),(.d (.int .i64 (.ofNat (nat_lit 4))))]
def vAw0:V := (.tup [(.d (.sl false (nat_lit 2) [(.int .i64 (.ofNat (nat_lit 9))),(.int .i64 (.ofNat (nat_lit 6)))])),(.d (.sl false (nat_lit 2) [(.int .i64 (.ofNat (nat_lit 0))),(.int .i64 (.ofNat (nat_lit 0)))])),(.d (.int .i64 (.ofNat (nat_lit 0))))])
theorem hAw0:chkM tab memo0 (nat_lit 60) (nat_lit 19) aAw0 vAw0 = true := by kernel_rfl
def Aw0:MemoX := memoC (nat_lit 19) aAw0 vAw0 memo0
theorem Aw0_ok:MemoOk Try.prog Aw0 := memoC_ok (chkM_sound tab_ok memo0_ok hAw0) memo0_ok
def aAw1:List V := [(.agg [(.d (.fn (.func (nat_lit 64))))]),(.agg [(.d (.int .i64 (.ofNat (nat_lit 2)))),(.d (.sl true (nat_lit 2) [(.int .i64 (.ofNat (nat_lit 10))),(.int .i64 (.ofNat (nat_lit 0)))])),(.d (.sl true (nat_lit 1) [(.int .i64 (.ofNat (nat_lit 0))),(.int .i64 (.ofNat (nat_lit 1))),(.int .i64 (.ofNat (nat_lit 4))),(.int .i64 (.ofNat (nat_lit 2))),(.int .i64 (.ofNat (nat_lit 3))),(.int .i64 (.ofNat (nat_lit 4))),(.int .i64 (.ofNat (nat_lit 5)))])),(.d (.sl true (nat_lit 1) [(.int .i64 (.ofNat (nat_lit 3))),(.int .i64 (.ofNat (nat_lit 4))),(.int .i64 (.ofNat (nat_lit 5)))])),(.d (.sl true (nat_lit 1) [(.int .i64 (.ofNat (nat_lit 4))),(.int .i64 (.ofNat (nat_lit 3))),(.int .i64 (.ofNat (nat_lit 2)))])),(.d (.sl true (nat_lit 1) [(.int .i64 (.ofNat (nat_lit 5))),(.int .i64 (.ofNat (nat_lit 6)))]))]),(.agg [(.d (.sl true (nat_lit 1) [(.int .i64 (.ofNat (nat_lit 2)))])),(.d (.sl true (nat_lit 1) [(.int .i64 (.ofNat (nat_lit 5)))]))]),(.d (.int .i64 (.ofNat (nat_lit 0))))]
def vAw1:V := (.tup [(.d (.sl false (nat_lit 2) [(.int .i64 (.ofNat (nat_lit 54000))),(.int .i64 (.ofNat (nat_lit 0)))])),(.d (.int .i64 (.ofNat (nat_lit 0))))])
theorem hAw1:chkM tab Aw0 (nat_lit 60) (nat_lit 65) aAw1 vAw1 = true := by kernel_rfl
def Aw1:MemoX := memoC (nat_lit 65) aAw1 vAw1 Aw0
theorem Aw1_ok:MemoOk Try.prog Aw1 := memoC_ok (chkM_sound tab_ok Aw0_ok hAw1) Aw0_ok
def aAw2:List V := [(.agg [(.d (.fn (.func (nat_lit 66))))]),(.agg [(.d (.int .i64 (.ofNat (nat_lit 2)))),(.d (.sl true (nat_lit 2) [(.int .i64 (.ofNat (nat_lit 10))),(.int .i64 (.ofNat (nat_lit 0)))])),(.d (.sl true (nat_lit 1) [(.int .i64 (.ofNat (nat_lit 0))),(.int .i64 (.ofNat (nat_lit 1))),(.int .i64 (.ofNat (nat_lit 4))),(.int .i64 (.ofNat (nat_lit 2))),(.int .i64 (.ofNat (nat_lit 3))),(.int .i64 (.ofNat (nat_lit 4))),(.int .i64 (.ofNat (nat_lit 5)))])),(.d (.sl true (nat_lit 1) [(.int .i64 (.ofNat (nat_lit 3))),(.int .i64 (.ofNat (nat_lit 4))),(.int .i64 (.ofNat (nat_lit 5)))])),(.d (.sl true (nat_lit 1) [(.int .i64 (.ofNat (nat_lit 4))),(.int .i64 (.ofNat (nat_lit 3))),(.int .i64 (.ofNat (nat_lit 2)))])),(.d (.sl true (nat_lit 1) [(.int .i64 (.ofNat (nat_lit 5))),(.int .i64 (.ofNat (nat_lit 6)))]))]),(.agg [(.d (.sl true (nat_lit 1) [(.int .i64 (.ofNat (nat_lit 3)))])),(.d (.sl true (nat_lit 1) [(.int .i64 (.ofNat (nat_lit 4)))]))]),(.d (.int .i64 (.ofNat (nat_lit 0))))]
def vAw2:V := (.tup [(.d (.sl false (nat_lit 1) [(.int .i64 (.negSucc (nat_lit 21599)))])),(.d (.int .i64 (.ofNat (nat_lit 0))))])
theorem hAw2:chkM tab Aw1 (nat_lit 60) (nat_lit 65) aAw2 vAw2 = true := by kernel_rfl
def Aw2:MemoX := memoC (nat_lit 65) aAw2 vAw2 Aw1
theorem Aw2_ok:MemoOk Try.prog Aw2 := memoC_ok (chkM_sound tab_ok Aw1_ok hAw2) Aw1_ok
def aAw3:List V := [(.agg [(.d (.fn (.func (nat_lit 67))))]),(.agg [(.d (.int .i64 (.ofNat (nat_lit 2)))),(.d (.sl true (nat_lit 2) [(.int .i64 (.ofNat (nat_lit 10))),(.int .i64 (.ofNat (nat_lit 0)))])),(.d (.sl true (nat_lit 1) [(.int .i64 (.ofNat (nat_lit 0))),(.int .i64 (.ofNat (nat_lit 1))),(.int .i64 (.ofNat (nat_lit 4))),(.int .i64 (.ofNat (nat_lit 2))),(.int .i64 (.ofNat (nat_lit 3))),(.int .i64 (.ofNat (nat_lit 4))),(.int .i64 (.ofNat (nat_lit 5)))])),(.d (.sl true (nat_lit 1) [(.int .i64 (.ofNat (nat_lit 3))),(.int .i64 (.ofNat (nat_lit 4))),(.int .i64 (.ofNat (nat_lit 5)))])),(.d (.sl true (nat_lit 1) [(.int .i64 (.ofNat (nat_lit 4))),(.int .i64 (.ofNat (nat_lit 3))),(.int .i64 (.ofNat (nat_lit 2)))])),(.d (.sl true (nat_lit 1) [(.int .i64 (.ofNat (nat_lit 5))),(.int .i64 (.ofNat (nat_lit 6)))]))]),(.agg [(.d (.sl true (nat_lit 1) [(.int .i64 (.ofNat (nat_lit 2)))])),(.d (.sl true (nat_lit 1) [(.int .i64 (.ofNat (nat_lit 5)))]))]),(.d (.int .i64 (.ofNat (nat_lit 0))))]
def vAw3:V := (.tup [(.d (.sl false (nat_lit 2) [(.int .i64 (.ofNat (nat_lit 32400))),(.int .i64 (.ofNat (nat_lit 21600)))])),(.d (.int .i64 (.ofNat (nat_lit 0))))])
theorem hAw3:chkM tab Aw2 (nat_lit 60) (nat_lit 65) aAw3 vAw3 = true := by kernel_rfl
def Aw3:MemoX := memoC (nat_lit 65) aAw3 vAw3 Aw2
theorem Aw3_ok:MemoOk Try.prog Aw3 := memoC_ok (chkM_sound tab_ok Aw2_ok hAw3) Aw2_ok
end
end Go.Proofs.Ytdnefcjbcieecaa
namespace Go.Proofs.Ytdnefcjbcieecaa
noncomputable section
open Go Go.Proofs
set_option maxRecDepth 100000
def aAw4:List V := [(.agg [(.d (.int .i64 (.ofNat (nat_lit 2)))),(.d (.sl true (nat_lit 2) [(.int .i64 (.ofNat (nat_lit 10))),(.int .i64 (.ofNat (nat_lit 0)))])),(.d (.sl true (nat_lit 1) [(.int .i64 (.ofNat (nat_lit 0))),(.int .i64 (.ofNat (nat_lit 1))),(.int .i64 (.ofNat (nat_lit 4))),(.int .i64 (.ofNat (nat_lit 2))),(.int .i64 (.ofNat (nat_lit 3))),(.int .i64 (.ofNat (nat_lit 4))),(.int .i64 (.ofNat (nat_lit 5)))])),(.d (.sl true (nat_lit 1) [(.int .i64 (.ofNat (nat_lit 3))),(.int .i64 (.ofNat (nat_lit 4))),(.int .i64 (.ofNat (nat_lit 5)))])),(.d (.sl true (nat_lit 1) [(.int .i64 (.ofNat (nat_lit 4))),(.int .i64 (.ofNat (nat_lit 3))),(.int .i64 (.ofNat (nat_lit 2)))])),(.d (.sl true (nat_lit 1) [(.int .i64 (.ofNat (nat_lit 5))),(.int .i64 (.ofNat (nat_lit 6)))]))]),(.d (.int .i64 (.ofNat (nat_lit 0))))]
def vAw4:V := (.tup [(.d (.sl false (nat_lit 2) [(.int .i64 (.ofNat (nat_lit 32400))),(.int .i64 (.ofNat (nat_lit 54000))),(.int .i64 (.ofNat (nat_lit 0))),(.int .i64 (.ofNat (nat_lit 21600)))])),(.d (.sl false (nat_lit 1) [(.int .i64 (.negSucc (nat_lit 21599))),(.int .i64 (.ofNat (nat_lit 21600)))])),(.d (.sl false (nat_lit 2) [(.int .i64 (.ofNat (nat_lit 32400))),(.int .i64 (.ofNat (nat_lit 54000))),(.int .i64 (.ofNat (nat_lit 0))),(.int .i64 (.ofNat (nat_lit 21600)))])),(.d (.int .i64 (.ofNat (nat_lit 0))))])
theorem hAw4:chkM tab Aw3 (nat_lit 60) (nat_lit 33) aAw4 vAw4 = true := by kernel_rfl
def Aw4:MemoX := memoC (nat_lit 33) aAw4 vAw4 Aw3
theorem Aw4_ok:MemoOk Try.prog Aw4 := memoC_ok (chkM_sound tab_ok Aw3_ok hAw4) Aw3_ok
end
end Go.Proofs.Ytdnefcjbcieecaa
namespace Go.Proofs.Ytdnefcjbcieecaa
noncomputable section
open Go Go.Proofs
set_option maxRecDepth 100000
def aAw5:List V := [(.agg [(.d (.int .i64 (.ofNat (nat_lit 2)))),(.d (.sl true (nat_lit 2) [(.int .i64 (.ofNat (nat_lit 10))),(.int .i64 (.ofNat (nat_lit 0)))])),(.d (.sl false (nat_lit 1) [(.int .i64 (.ofNat (nat_lit 0))),(.int .i64 (.ofNat (nat_lit 1))),(.int .i64 (.ofNat (nat_lit 11))),(.int .i64 (.ofNat (nat_lit 2))),(.int .i64 (.ofNat (nat_lit 3))),(.int .i64 (.ofNat (nat_lit 4))),(.int .i64 (.ofNat (nat_lit 5)))])),(.d (.sl true (nat_lit 1) [(.int .i64 (.ofNat (nat_lit 3))),(.int .i64 (.ofNat (nat_lit 4))),(.int .i64 (.ofNat (nat_lit 5)))])),(.d (.sl true (nat_lit 1) [(.int .i64 (.ofNat (nat_lit 4))),(.int .i64 (.ofNat (nat_lit 3))),(.int .i64 (.ofNat (nat_lit 2)))])),(.d (.sl true (nat_lit 1) [(.int .i64 (.ofNat (nat_lit 5))),(.int .i64 (.ofNat (nat_lit 6)))]))])]
def vAw5:V := (.d (.bool false))
theorem hAw5:chkM tab Aw4 (nat_lit 60) (nat_lit 77) aAw5 vAw5 = true := by kernel_rfl
def Aw5:MemoX := memoC (nat_lit 77) aAw5 vAw5 Aw4
theorem Aw5_ok:MemoOk Try.prog Aw5 := memoC_ok (chkM_sound tab_ok Aw4_ok hAw5) Aw4_ok
def aAw6:List V := [(.agg [(.d (.int .i64 (.ofNat (nat_lit 2)))),(.d (.sl true (nat_lit 2) [(.int .i64 (.ofNat (nat_lit 10))),(.int .i64 (.ofNat (nat_lit 0)))])),(.d .nils),(.d (.sl true (nat_lit 1) [(.int .i64 (.ofNat (nat_lit 3))),(.int .i64 (.ofNat (nat_lit 4))),(.int .i64 (.ofNat (nat_lit 5)))])),(.d (.sl true (nat_lit 1) [(.int .i64 (.ofNat (nat_lit 4))),(.int .i64 (.ofNat (nat_lit 3))),(.int .i64 (.ofNat (nat_lit 2)))])),(.d (.sl true (nat_lit 1) [(.int .i64 (.ofNat (nat_lit 5))),(.int .i64 (.ofNat (nat_lit 6)))]))])]
def vAw6:V := (.d (.bool true))
theorem hAw6:chkM tab Aw5 (nat_lit 60) (nat_lit 77) aAw6 vAw6 = true := by kernel_rfl
def Aw6:MemoX := memoC (nat_lit 77) aAw6 vAw6 Aw5
theorem Aw6_ok:MemoOk Try.prog Aw6 := memoC_ok (chkM_sound tab_ok Aw5_ok hAw6) Aw5_ok
def aAw7:List V := []
def vAw7:V := (.d (.bool true))
theorem hAw7:chkM tab Aw6 (nat_lit 60) (nat_lit 18) aAw7 vAw7 = true := by kernel_rfl
def Aw7:MemoX := memoC (nat_lit 18) aAw7 vAw7 Aw6
theorem Aw7_ok:MemoOk Try.prog Aw7 := memoC_ok (chkM_sound tab_ok Aw6_ok hAw7) Aw6_ok
end
end Go.Proofs.Ytdnefcjbcieecaa
namespace Go.Proofs.Ytdnefcjbcieecaa
open Go Go.Proofs
noncomputable section
theorem q21:FunIs Try.prog 21 G21 c21 r21 := ⟨Try.f21,Try.func21,k21,e21,by kernel_rfl,by kernel_rfl⟩
theorem q22:FunIs Try.prog 22 G22 c22 r22 := ⟨Try.f22,Try.func22,k22,e22,by kernel_rfl,by kernel_rfl⟩
theorem y18:Yields Try.prog 18 [] (vb true) := Aw7_ok 18 [] (vb true) (by kernel_rfl)
def ent18:Ent := fun args _ => match args with
 | [] => some (True,vb true,none)
 | _ => none
theorem ent18_ok:EntOk Try.prog 18 ent18 := by
 intro args h p v h' he hp
 unfold ent18 at he
 split at he
 ·cases he; exact y18 h
 ·cases he
def ent17 := entCU (fun _ _ => True) (fun c t => vb (thin c t))
theorem ent17_ok:EntOk Try.prog 17 ent17 := entCU_ok fun c t _ => y17 c t
def small (c:Cmp):Prop := c.held.length ≤ 1000000 ∧ c.trades.length ≤ 1000000 ∧ c.divs.length ≤ 1000000 ∧ c.splits.length ≤ 1000000 ∧ c.closed.length ≤ 1000000
def ent20 := entC small (fun c => Cv c)
theorem ent20_ok:EntOk Try.prog 20 ent20 := entC_ok fun c h => y20 c h.1 h.2.1 h.2.2.1 h.2.2.2.1 h.2.2.2.2
def ent51 := entCU (fun _ _ => True) (fun c t => vb (askE c t == 0))
theorem ent51_ok:EntOk Try.prog 51 ent51 := entCU_ok fun c t _ => y51 c t
def ent44 := entCU (fun c _ => faultM c = 0) (fun c t => vb (truthB c t))
theorem ent44_ok:EntOk Try.prog 44 ent44 := entCU_ok fun c t h => y44 c t h
def tab19:Spec := (spAdd 51 ent51 (spAdd 44 ent44 (spAdd 20 ent20 (spAdd 18 ent18 (spAdd 17 ent17 tab18)))))
theorem tab19_ok:SpOk Try.prog tab19 := (spAdd_ok ent51_ok (spAdd_ok ent44_ok (spAdd_ok ent20_ok (spAdd_ok ent18_ok (spAdd_ok ent17_ok tab18_ok)))))
def X19:Sx := mkX tab19
theorem X19_ok:SpOk Try.prog X19.sp := tab19_ok
theorem w21 (t:Tru) (h1:t.sold.length ≤ 1000000) (h2:t.deliv.length ≤ 1000000):sx X19 c21 [] (doneF 0 r21) (envOf [Uv t]) [] [] =
  Tr.need (okL eI 1 gI (List.length (Tru.sold t)) (enc eI (Tru.sold t)) ∧ List.length (Tru.sold t) ≤ 1000000) (Tr.need (okL eI 1 gI (List.length (Tru.deliv t)) (enc eI (Tru.deliv t)) ∧ List.length (Tru.deliv t) ≤ 1000000) (Tr.done (Uv t) [])) := by kernel_rfl
theorem y21 (t:Tru) (h1:t.sold.length ≤ 1000000) (h2:t.deliv.length ≤ 1000000):Yields Try.prog 21 [Uv t] (Uv t) := by
 refine q21.yields X19_ok rfl rfl rfl (w21 t h1 h2) ?_
 simp only [holds]
 simp only [okL_I]
 exact ⟨⟨by omega,h1⟩,⟨by omega,h2⟩,.refl _⟩
theorem w22 (c:Cmp) (t:Tru) (hl:c.trades.length ≤ 1000000):sx X19 c22 [] (doneF 0 r22) (envOf [Cv c,Uv t]) [] [] =
  Tr.need (Cv (dCe c) = Cv c ∧ True) (Tr.br (faultM (dCe c) != (0:Int)) (Tr.done (V.d (D.int .i64 (faultM (dCe c)))) []) (Tr.need (Cv (dCe c) = Cv c ∧ Uv (dUe t) = Uv t ∧ List.length (Cmp.trades (dCe c)) ≤ 1000000) (Tr.br (!datedB (dCe c) (dUe t)) (Tr.done (V.d (D.int .i64 (2:Int))) []) (Tr.need (Cv (dCe c) = Cv c ∧ Uv (dUe t) = Uv t ∧ faultM (dCe c) = (0:Int)) (Tr.br (!truthB (dCe c) (dUe t)) (Tr.done (V.d (D.int .i64 (11:Int))) []) (Tr.done (V.d (D.int .i64 0)) [])))))) := by kernel_rfl
theorem y22 (c:Cmp) (t:Tru) (hl:c.trades.length ≤ 1000000):Yields Try.prog 22 [Cv c,Uv t] (vi (askE c t)) := by
 refine q22.yields X19_ok rfl rfl rfl (w22 c t hl) ?_
 simp only [holds]
 simp only [dCe,dC_enc,dUe,dU_enc,true_and]
 refine ⟨fun g1 => ?_,fun g1 => ⟨hl,fun g2 => ?_,fun g2 => ⟨by simpa using g1,fun g3 => ?_,fun g3 => ?_⟩⟩⟩
 ·refine .of_eq (congrArg vi ?_)
  have g1:faultM c ≠ 0 := by simpa using g1
  simp [askE,g1]
 ·refine .of_eq (congrArg vi ?_)
  have g1:faultM c = 0 := by simpa using g1
  have g2:datedB c t = false := by simpa using g2
  simp [askE,g1,g2]
 ·refine .of_eq (congrArg vi ?_)
  have g1:faultM c = 0 := by simpa using g1
  have g2:datedB c t = true := by simpa using g2
  have g3:fitsB c t = false := by simpa [truthB,g2] using g3
  simp [askE,g1,g2,g3]
 ·refine .of_eq (congrArg vi ?_)
  have g1:faultM c = 0 := by simpa using g1
  have g2:datedB c t = true := by simpa using g2
  have g3:fitsB c t = true := by simpa [truthB,g2] using g3
  simp [askE,g1,g2,g3]
def entU (q:Tru → Prop) (m:Tru → V):Ent := fun args _ => match args with
 | [x] => match asU x with
  | some t => some (Uv t = x ∧ q t,m t,none)
  | none => none
 | _ => none
theorem entU_ok {P:Program} {f:Nat} {q:Tru → Prop} {m:Tru → V} (hy:∀ t,q t → Yields P f [Uv t] (m t)):EntOk P f (entU q m) := by
 intro args h p v h' he hp
 unfold entU at he
 split at he
 ·split at he
  ·cases he; rw [← hp.1]; exact hy _ hp.2 h
  ·cases he
 ·cases he
def ent21 := entU (fun t => t.sold.length ≤ 1000000 ∧ t.deliv.length ≤ 1000000) (fun t => Uv t)
theorem ent21_ok:EntOk Try.prog 21 ent21 := entU_ok fun t h => y21 t h.1 h.2
def ent22 := entCU (fun c _ => c.trades.length ≤ 1000000) (fun c t => vi (askE c t))
theorem ent22_ok:EntOk Try.prog 22 ent22 := entCU_ok fun c t h => y22 c t h
def tab20:Spec := (spAdd 22 ent22 (spAdd 21 ent21 tab19))
theorem tab20_ok:SpOk Try.prog tab20 := (spAdd_ok ent22_ok (spAdd_ok ent21_ok tab19_ok))
end
end Go.Proofs.Ytdnefcjbcieecaa
namespace Go.Proofs.Ytdnefcjbcieecaa
open Go Go.Proofs
noncomputable section
theorem sl4 (f:Nat → Int) (n:Nat) (hn:n ≤ 4):List.take ((Int.toNat (n:Int) - Int.toNat 0) * 1) (List.drop (0 + Int.toNat 0 * 1) [D.int .i64 (f 0),D.int .i64 (f 1),D.int .i64 (f 2),D.int .i64 (f 3)]) = enc eI ((List.range n).map f) := by
 match n,hn with
 | 0,_ => rfl
 | 1,_ => rfl
 | 2,_ => rfl
 | 3,_ => rfl
 | 4,_ => rfl
theorem askE_ok {c:Cmp} {t:Tru} (h:askE c t = 0):faultM c = 0 ∧ datedB c t = true ∧ fitsB c t = true := by
 unfold askE at h
 split at h
 ·rename_i h1; exact (h1 h).elim
 ·rename_i h1
  split at h
  ·cases h
  ·rename_i h2
   split at h
   ·cases h
   ·rename_i h3
    exact ⟨Classical.not_not.1 h1,by simpa using h2,by simpa using h3⟩
theorem refH_in {c:Cmp} (hf:faultM c = 0) (t:Tru) (d:Int):∀ n ∈ refH c t d, -1000000000 ≤ n ∧ n ≤ 1000000000 := by
 intro n hn
 simp only [refH,refK,List.mem_map,List.mem_range] at hn
 obtain ⟨i,_,rfl⟩ := hn
 have h1 := heldT_in hf t d c.trades.length (Nat.le_refl _) i
 have h2 := (fault_ok hf).1.2.2.2.1
 have e:heldF c t d i = heldT c t d c.trades.length i := rfl
 rw [e]; omega
end
end Go.Proofs.Ytdnefcjbcieecaa
namespace Go.Proofs.Ytdnefcjbcieecaa
open Go Go.Proofs
noncomputable section
theorem q64:FunIs Try.prog 64 G64 c64 r64 := ⟨Try.f64,Try.func64,k64,e64,by kernel_rfl,by kernel_rfl⟩
theorem q66:FunIs Try.prog 66 G66 c66 r66 := ⟨Try.f66,Try.func66,k66,e66,by kernel_rfl,by kernel_rfl⟩
theorem q67:FunIs Try.prog 67 G67 c67 r67 := ⟨Try.f67,Try.func67,k67,e67,by kernel_rfl,by kernel_rfl⟩
def Dds (d:Dvd):List D := [.int .i64 d.ex,.int .i64 d.record,.int .i64 d.pence]
theorem w64 (c:Cmp) (t:Tru) (d:Dvd) (km:List (Int × Int × Int)):sx X18 c64 [] (doneK r64) (envOf [.ptr 1 0 0,Uv t,Dv d]) [] (Wk c km []) =
  let y0_ := (Dvd.record d)
  let x1_ := [D.int .i64 (heldF (dCe c) (dUe t) y0_ 0),D.int .i64 (heldF (dCe c) (dUe t) y0_ 1),D.int .i64 (heldF (dCe c) (dUe t) y0_ 2),D.int .i64 (heldF (dCe c) (dUe t) y0_ 3)]
  let x2_ := (Int.toNat (Cmp.houses c) - Int.toNat (0:Int))
  let y1_ := (dK (List.map entE km))
  let y2_ := (Cmp.trades (dCe c))
  Tr.need (Wk c km [] = Wk (dCe c) y1_ [] ∧ Uv (dUe t) = Uv t ∧ faultM (dCe c) = (0:Int) ∧ List.length (Tru.sold (dUe t)) = List.length y2_ ∧ List.length (Tru.deliv (dUe t)) = List.length y2_ ∧ kmOk (dCe c) y1_) (Tr.need ((0:Int) ≤ (0:Int) ∧ (0:Int) ≤ Cmp.houses c ∧ Cmp.houses c ≤ Int.ofNat 4 ∧ 0 + 4 * 1 ≤ List.length x1_) (Tr.lp (CCode.at c64 [1,1,0,1,0,0]) [Fr.blk 0,Fr.seq (CCode.at c64 [1,1,1])] [(5,V.rptr [D.int .i64 (Dvd.ex d),D.int .i64 y0_,D.int .i64 (Dvd.pence d)] (0)),(6,V.d D.nils),(20,V.d (D.sl false x2_ (List.take (x2_ * 1) (List.drop (0 + Int.toNat (0:Int) * 1) x1_)))),(21,V.d (D.int .i64 (Int.ofNat x2_))),(22,V.d (D.int .i64 0))] [some (Blk.map (List.map entE (kmT (dCe c) (dUe t) y0_ y1_ (List.length y2_)))),some (Blk.box [V.d (D.int .i64 (Cmp.houses c)),V.d (D.sl false (List.length (Cmp.held c)) (enc eI (Cmp.held c))),V.d (D.sl false (List.length (Cmp.trades c)) (enc eT (Cmp.trades c))),V.d (D.sl false (List.length (Cmp.divs c)) (enc eV (Cmp.divs c))),V.d (D.sl false (List.length (Cmp.splits c)) (enc eS (Cmp.splits c))),V.d (D.sl false (List.length (Cmp.closed c)) (enc eR (Cmp.closed c))),V.mp 0]),none])) := by kernel_rfl
def E64 (d:Dvd) (l a:List Int) (k:Nat):Env := [(5,.rptr (Dds d) 0),(6,.own 3 a.length a.length),(20,vsl eI l),(21,vi l.length),(22,vi k)]
def H64 (x y:Option Blk) (a:List Int):Heap := [x,y,none,some (.row 3 1 a.length (enc eI a))]
theorem b64 (d:Dvd) (l a:List Int) (k:Nat) (x y:Option Blk):sx X18 (CCode.at c64 [1,1,0,1,0,0]) [] leafK (E64 d l a k) [] (H64 x y a) =
  let y1_ := (List.length l)
  let x1_ := (decide (Int.ofNat k < Int.ofNat y1_))
  let x2_ := [D.int .i64 (Dvd.pence d * cI (enc eI l) 1 (Int.ofNat k) 0)]
  let x3_ := (List.length a + 1)
  let y3_ := (List.length a)
  let x4_ := (Nat.add y3_ 1)
  let y0_ := (5,V.rptr [D.int .i64 (Dvd.ex d),D.int .i64 (Dvd.record d),D.int .i64 (Dvd.pence d)] (0))
  let y2_ := (21,V.d (D.int .i64 (Int.ofNat y1_)))
  let y4_ := (20,V.d (D.sl false y1_ (enc eI l)))
  Tr.br x1_ (Tr.need ((0:Int) ≤ Int.ofNat k ∧ Int.ofNat k < Int.ofNat y1_ ∧ okEl [0] (enc eI l) 1 (Int.ofNat k)) (Tr.need (-9223372036854775808 ≤ Dvd.pence d * cI (enc eI l) 1 (Int.ofNat k) 0 ∧ Dvd.pence d * cI (enc eI l) 1 (Int.ofNat k) 0 ≤ 9223372036854775807) (Tr.need (List.length a = List.length a ∧ 3 = 3 ∧ 1 = 1 ∧ List.length (enc eI a) = List.length a * 1 ∧ List.length x2_ = 1 * 1 ∧ List.length a + 1 ≤ 140737488355328 ∧ x3_ * 8 ≤ 140737488355328) (Tr.need (-9223372036854775808 ≤ Int.ofNat k + (1:Int) ∧ Int.ofNat k + (1:Int) ≤ 9223372036854775807) (Tr.leaf CExit.normal [y0_,(6,V.own 3 x4_ x3_),y4_,y2_,(22,V.d (D.int .i64 (Int.ofNat k + (1:Int))))] [x,y,none,some (Blk.row 3 1 x4_ (enc eI a ++ x2_))]))))) (Tr.leaf (CExit.exit 0) [y0_,(6,V.own 3 y3_ y3_),y4_,y2_,(22,V.d (D.int .i64 (Int.ofNat k))),(23,V.d (D.bool x1_))] [x,y,none,some (Blk.row 3 1 y3_ (enc eI a))]) := by kernel_rfl
theorem x64 (u v w z q:V) (a:List Int) (x y:Option Blk):sS X18 (doneK r64) [Fr.blk 0,Fr.seq (CCode.at c64 [1,1,1])] (.exit 0) [(5,u),(6,.own 3 a.length a.length),(20,v),(21,w),(22,z),(23,q)] [] (H64 x y a) =
  Tr.done (V.own 3 (List.length a) (List.length a)) [x,y,none,some (Blk.row 3 1 (List.length a) (enc eI a))] := by kernel_rfl
theorem w66 (c:Cmp) (t:Tru) (d:Dvd) (km:List (Int × Int × Int)):sx X18 c66 [] (doneK r66) (envOf [.ptr 1 0 0,Uv t,Dv d]) [] (Wk c km []) =
  let y0_ := (D.sl false (List.length (Cmp.trades c)) (enc eT (Cmp.trades c)))
  Tr.lp (CCode.at c66 [1,0,1,0,0]) [Fr.blk 0,Fr.seq (CCode.at c66 [1,1])] [(0,V.ptr 1 0 0),(4,V.rptr (Uds t) 0),(5,V.rptr [D.int .i64 (Dvd.ex d),D.int .i64 (Dvd.record d),D.int .i64 (Dvd.pence d)] (0)),(6,V.d D.nils),(17,V.d y0_),(18,V.d (D.int .i64 (Int.ofNat (List.length (Cmp.trades c))))),(19,V.d (D.int .i64 0))] [some (Blk.map (List.map entE km)),some (Blk.box [V.d (D.int .i64 (Cmp.houses c)),V.d (D.sl false (List.length (Cmp.held c)) (enc eI (Cmp.held c))),V.d y0_,V.d (D.sl false (List.length (Cmp.divs c)) (enc eV (Cmp.divs c))),V.d (D.sl false (List.length (Cmp.splits c)) (enc eS (Cmp.splits c))),V.d (D.sl false (List.length (Cmp.closed c)) (enc eR (Cmp.closed c))),V.mp 0])] := by kernel_rfl
def E66 (c:Cmp) (t:Tru) (d:Dvd) (a:List Int) (k:Nat):Env := [(0,.ptr 1 0 0),(4,.rptr (Uds t) 0),(5,.rptr (Dds d) 0),(6,.own 2 a.length a.length),(17,.d (dsl eT c.trades)),(18,vi c.trades.length),(19,vi k)]
theorem b66 (c:Cmp) (t:Tru) (d:Dvd) (a:List Int) (k:Nat) (km:List (Int × Int × Int)):sx X18 (CCode.at c66 [1,0,1,0,0]) [] leafK (E66 c t d a k) [] (Wk c km [some (.row 3 1 a.length (enc eI a))]) =
  let x1_ := (List.length (Cmp.trades c))
  let x2_ := (decide (Int.ofNat k < Int.ofNat x1_))
  let y8_ := (enc eI (Tru.sold t))
  let x3_ := ((0:Int) ≤ Int.ofNat k ∧ Int.ofNat k < Int.ofNat (List.length (Tru.sold t)) ∧ okEl [0] y8_ 1 (Int.ofNat k))
  let x4_ := (cI (enc eI (Tru.deliv t)) 1 (Int.ofNat k) 0)
  let x5_ := (cI y8_ 1 (Int.ofNat k) 0 < Dvd.ex d)
  let y7_ := (List.map entE km)
  let x6_ := (Blk.map y7_)
  let y4_ := (enc eT (Cmp.trades c))
  let x7_ := (D.sl false x1_ y4_)
  let x8_ := (Blk.box [V.d (D.int .i64 (Cmp.houses c)),V.d (D.sl false (List.length (Cmp.held c)) (enc eI (Cmp.held c))),V.d x7_,V.d (D.sl false (List.length (Cmp.divs c)) (enc eV (Cmp.divs c))),V.d (D.sl false (List.length (Cmp.splits c)) (enc eS (Cmp.splits c))),V.d (D.sl false (List.length (Cmp.closed c)) (enc eR (Cmp.closed c))),V.mp 0])
  let y6_ := (List.length a)
  let x9_ := (Blk.row 3 1 y6_ (enc eI a))
  let x10_ := (Blk.box [V.d (D.int .i64 (cI y4_ 7 (Int.ofNat k) 0)),V.d (D.int .i64 (cI y4_ 7 (Int.ofNat k) 1)),V.d (D.int .i64 (cI y4_ 7 (Int.ofNat k) 2)),V.d (D.int .i64 (cI y4_ 7 (Int.ofNat k) 3)),V.d (D.int .i64 (cI y4_ 7 (Int.ofNat k) 4)),V.d (D.int .i64 (cI y4_ 7 (Int.ofNat k) 5)),V.d (D.int .i64 (cI y4_ 7 (Int.ofNat k) 6))])
  let x11_ := [some x6_,some x8_,some x9_,some x10_]
  let y10_ := (Cmp.splits (dCe c))
  let x12_ := (x11_ = Wk (dCe c) (dK y7_) [some (Blk.row 3 1 y6_ (enc eI a)),some x10_] ∧ (-1000:Int) ≤ cI y4_ 7 (Int.ofNat k) 2 ∧ cI y4_ 7 (Int.ofNat k) 2 ≤ (1000:Int) ∧ okSs (-1:Int) y10_ = true ∧ List.length y10_ ≤ 2 ∧ kmOk (dCe c) (dK y7_))
  let x13_ := (cI y8_ 1 (Int.ofNat k) 0)
  let x14_ := (updK (dCe c) (dK y7_) x13_ (Dvd.record d))
  let x15_ := (HLe x11_ (putW x11_ x14_))
  let x16_ := (cI y4_ 7 (Int.ofNat k) 2 * facM y10_ x13_ (Dvd.record d))
  let x17_ := [D.int .i64 (Dvd.pence d * x16_)]
  let x18_ := (List.length a + 1)
  let x19_ := (-9223372036854775808 ≤ Int.ofNat k + (1:Int) ∧ Int.ofNat k + (1:Int) ≤ 9223372036854775807)
  let x20_ := (Nat.add y6_ 1)
  let x21_ := (Blk.map (List.map entE x14_))
  let x22_ := [D.int .i64 0]
  let y11_ := (Cmp.closed (dCe c))
  let x23_ := (Dvd.record d < regM y11_ x4_)
  let x24_ := ((0:Int) - Dvd.pence d)
  let x25_ := [D.int .i64 (x24_ * x16_)]
  let y5_ := (5,V.rptr [D.int .i64 (Dvd.ex d),D.int .i64 (Dvd.record d),D.int .i64 (Dvd.pence d)] (0))
  let y9_ := (18,V.d (D.int .i64 (Int.ofNat x1_)))
  let y1_ := [(0,V.ptr 1 0 0),(4,V.rptr (Uds t) 0),y5_,(6,V.own 2 x20_ x18_),(17,V.d x7_),y9_,(19,V.d (D.int .i64 (Int.ofNat k + (1:Int))))]
  let y0_ := (Tr.need (List.length a = List.length a ∧ 3 = 3 ∧ 1 = 1 ∧ List.length (enc eI a) = List.length a * 1 ∧ List.length x22_ = 1 * 1 ∧ List.length a + 1 ≤ 140737488355328 ∧ x18_ * 8 ≤ 140737488355328) (Tr.need x19_ (Tr.leaf CExit.normal y1_ [some x6_,some x8_,some (Blk.row 3 1 x20_ (enc eI a ++ x22_)),some x10_])))
  let y2_ := (Tr.br (!decide x5_) (Tr.br (!decide x23_) (Tr.need (DP.P (dp (-9223372036854775808 ≤ (0:Int) - Dvd.pence d ∧ (0:Int) - Dvd.pence d ≤ 9223372036854775807))) (Tr.need x3_ (Tr.need x12_ (Tr.need x15_ (Tr.need (-9223372036854775808 ≤ x24_ * x16_ ∧ x24_ * x16_ ≤ 9223372036854775807) (Tr.need (List.length a = List.length a ∧ 3 = 3 ∧ 1 = 1 ∧ List.length (enc eI a) = List.length a * 1 ∧ List.length x25_ = 1 * 1 ∧ List.length a + 1 ≤ 140737488355328 ∧ x18_ * 8 ≤ 140737488355328) (Tr.need x19_ (Tr.leaf CExit.normal y1_ [some x21_,some x8_,some (Blk.row 3 1 x20_ (enc eI a ++ x25_)),some x10_])))))))) y0_) y0_)
  let y3_ := (Tr.need x3_ (Tr.need x12_ (Tr.need x15_ (Tr.need (-9223372036854775808 ≤ Dvd.pence d * x16_ ∧ Dvd.pence d * x16_ ≤ 9223372036854775807) (Tr.need (List.length a = List.length a ∧ 3 = 3 ∧ 1 = 1 ∧ List.length (enc eI a) = List.length a * 1 ∧ List.length x17_ = 1 * 1 ∧ List.length a + 1 ≤ 140737488355328 ∧ x18_ * 8 ≤ 140737488355328) (Tr.need x19_ (Tr.leaf CExit.normal y1_ [some x21_,some x8_,some (Blk.row 3 1 x20_ (enc eI a ++ x17_)),some x10_])))))))
  Tr.br x2_ (Tr.need ((0:Int) ≤ Int.ofNat k ∧ Int.ofNat k < Int.ofNat x1_ ∧ okEl [0,0,0,0,0,0,0] y4_ 7 (Int.ofNat k)) (Tr.need ((0:Int) ≤ Int.ofNat k ∧ Int.ofNat k < Int.ofNat (List.length (Tru.deliv t)) ∧ okEl [0] (enc eI (Tru.deliv t)) 1 (Int.ofNat k)) (Tr.need (Cv (dCe c) = Cv c ∧ List.length y11_ ≤ 140737488355328) (Tr.need x3_ (Tr.br (regM y11_ x4_ == (-1:Int)) (Tr.br (decide x5_) y3_ (Tr.br (!decide x5_) y0_ y0_)) (Tr.br (decide x5_) (Tr.br (decide x23_) y3_ y2_) y2_)))))) (Tr.leaf (CExit.exit 0) [(0,V.ptr 1 0 0),(4,V.rptr (Uds t) 0),y5_,(6,V.own 2 y6_ y6_),(17,V.d x7_),y9_,(19,V.d (D.int .i64 (Int.ofNat k))),(20,V.d (D.bool x2_))] [some x6_,some x8_,some x9_]) := by kernel_rfl
theorem x66 (c:Cmp) (u v w z y q r:V) (a:List Int) (km:List (Int × Int × Int)):sS X18 (doneK r66) [Fr.blk 0,Fr.seq (CCode.at c66 [1,1])] (.exit 0) [(0,u),(4,v),(5,w),(6,.own 2 a.length a.length),(17,z),(18,y),(19,q),(20,r)] [] (Wk c km [some (.row 3 1 a.length (enc eI a))]) =
  Tr.done (V.own 2 (List.length a) (List.length a)) [some (Blk.map (List.map entE km)),some (Blk.box [V.d (D.int .i64 (Cmp.houses c)),V.d (D.sl false (List.length (Cmp.held c)) (enc eI (Cmp.held c))),V.d (D.sl false (List.length (Cmp.trades c)) (enc eT (Cmp.trades c))),V.d (D.sl false (List.length (Cmp.divs c)) (enc eV (Cmp.divs c))),V.d (D.sl false (List.length (Cmp.splits c)) (enc eS (Cmp.splits c))),V.d (D.sl false (List.length (Cmp.closed c)) (enc eR (Cmp.closed c))),V.mp 0]),some (Blk.row 3 1 (List.length a) (enc eI a))] := by kernel_rfl
theorem div_in {d:Dvd} (h:okDv d = true):0 ≤ d.ex ∧ d.ex ≤ d.record ∧ d.record ≤ 11 ∧ 0 ≤ d.pence ∧ d.pence ≤ 50 := of_decide_eq_true h
theorem pence_in {p n:Int} (h0:0 ≤ p) (h1:p ≤ 50) (h : -1000000000 ≤ n ∧ n ≤ 1000000000) : -50000000000 ≤ p * n ∧ p * n ≤ 50000000000 := by
 have e1:p * n ≤ 50 * 1000000000 := by
  rcases Int.le_total 0 n with g | g
  ·exact Int.mul_le_mul h1 h.2 g (by omega)
  ·have:p * n ≤ 0 := Int.mul_nonpos_of_nonneg_of_nonpos h0 g
   omega
 have e2:p * (-n) ≤ 50 * 1000000000 := by
  rcases Int.le_total 0 n with g | g
  ·have:p * (-n) ≤ 0 := Int.mul_nonpos_of_nonneg_of_nonpos h0 (by omega)
   omega
  ·exact Int.mul_le_mul h1 (by omega) (by omega) (by omega)
 rw [Int.mul_neg] at e2
 omega
def paidM (c:Cmp) (t:Tru) (d:Dvd):List Int := (refH c t d.record).map (d.pence * ·)
theorem l64 (d:Dvd) (l:List Int) (x y:Option Blk) (hx:blkBel 4 x = true) (hy:blkBel 4 y = true) (hl:l.length ≤ 1000) (hd:okDv d = true) (hb:∀ n ∈ l, -1000000000 ≤ n ∧ n ≤ 1000000000) (n:Nat) (R:V → Heap → Prop)
  (hR:R (.own 3 l.length l.length) (H64 x y (l.map (d.pence * ·)))) :
  lpS Try.prog G64 n (CCode.at c64 [1,1,0,1,0,0]) [Fr.blk 0,Fr.seq (CCode.at c64 [1,1,1])] (retQ r64 R) (E64 d l [] 0) (H64 x y []) := by
 have hdv := div_in hd
 refine lp_count X18_ok l.length (fun _ => True) (fun k => E64 d l ((l.take k).map (d.pence * ·)) k) (fun k => H64 x y ((l.take k).map (d.pence * ·))) rfl rfl trivial (fun k _ => ⟨rfl,rfl, ?_⟩) ?_
 ·show (blkBel 4 x && (blkBel 4 y && true)) = true
  rw [hx,hy]; rfl
 intro k hk _ Q' hn he hr
 rw [b64]
 simp only [holds,Int.ofNat_eq_natCast,cI_I]
 refine ⟨fun g1 => ?_,fun g1 => ?_⟩
 ·have hlt:k < l.length := by have := of_decide_eq_true g1; omega
  have hm := pence_in hdv.2.2.2.1 hdv.2.2.2.2 (hb _ (lat_mem hlt))
  have hn1 := fun J => hn J hlt trivial
  simp only [take_lat hlt,List.map_append,List.map_cons,List.map_nil,E64,H64,enc_append,enc_one,List.length_append,List.length_cons,List.length_nil] at hn1
  exact ⟨⟨by omega,by omega,ok_I (by simpa using hlt)⟩,⟨by omega,by omega⟩,⟨trivial,trivial,trivial,by simp,rfl,by simp; omega,by simp; omega⟩,⟨by omega,by omega⟩,hn1 []⟩
 ·have hge:k = l.length := by have := of_decide_eq_false g1; omega
  subst hge
  rw [List.take_length]
  refine he _ _ _ (ret_tree X18_ok (doneK_ok rfl) (x64 _ _ _ _ _ _ _ _) ?_)
  simp only [holds,List.length_map]
  have := hR
  simp only [H64,List.length_map] at this
  exact this
theorem a64 (c:Cmp) (t:Tru) (d:Dvd) (km:List (Int × Int × Int)) (hf:faultM c = 0) (hd:datedB c t = true) (hv:okDv d = true) (hkm:kmOk c km) :
  ACalls Try.prog 64 [.ptr 1 0 0,Uv t,Dv d] (Wk c km []) fun v h' => v = .own 3 (paidM c t d).length (paidM c t d).length ∧ h' = Wk c (kmT c t d.record km c.trades.length) [none,some (.row 3 1 (paidM c t d).length (enc eI (paidM c t d)))] := by
 obtain ⟨l1,l2⟩ := dated_len hd
 have hbs := (fault_ok hf).1
 refine q64.calls X18_ok (h := Wk c km []) rfl (w64 c t d km) ?_
 simp only [holds,dCe,dC_enc,dUe,dU_enc,dK_map,true_and]
 have e4:List.take ((Int.toNat c.houses - Int.toNat 0) * 1) (List.drop (0 + Int.toNat 0 * 1) [D.int .i64 (heldF c t d.record 0),D.int .i64 (heldF c t d.record 1),D.int .i64 (heldF c t d.record 2),D.int .i64 (heldF c t d.record 3)]) = enc eI (refH c t d.record) := by
  rw [← hbs.2.2.1]
  exact sl4 _ _ (by omega)
 have e5:Int.toNat c.houses - Int.toNat 0 = (refH c t d.record).length := by rw [refH_len]; omega
 refine ⟨⟨hf,l1,l2,hkm⟩,⟨by omega,by omega,by show c.houses ≤ 4; omega,by simp⟩, ?_⟩
 rw [e4,e5]
 have hW := Wk_bel c (kmT c t d.record km c.trades.length) 4 (by decide)
 simp only [Wk,List.all_cons,List.all_nil,Bool.and_true,Bool.and_eq_true] at hW
 refine LoopP.state (StLe.ghostTmp (t := 6) 3 1 rfl) ?_
 refine l64 d (refH c t d.record) (some (Blk.map (List.map entE (kmT c t d.record km c.trades.length)))) (some (Blk.box (Wbox c))) hW.1 hW.2 (by simp; omega) hv (refH_in hf t _) _ _ ?_
 exact ⟨by simp [paidM],by simp [paidM,H64,Wk,Wbox]⟩
def lateB (c:Cmp) (t:Tru) (d:Dvd) (k:Nat):Bool := regM c.closed (lat t.deliv (k:Nat)) == -1 || decide (d.record < regM c.closed (lat t.deliv (k:Nat)))
def earlyB (t:Tru) (d:Dvd) (k:Nat):Bool := decide (lat t.sold (k:Nat) < d.ex)
def claimK (c:Cmp) (t:Tru) (d:Dvd) (k:Nat):Int := if earlyB t d k = true then (if lateB c t d k = true then d.pence * unitsT c t d.record k else 0) else if lateB c t d k = true then 0 else (0 - d.pence) * unitsT c t d.record k
def claimsK (c:Cmp) (t:Tru) (d:Dvd) (k:Nat):List Int := (List.range k).map (claimK c t d)
def claimsM (c:Cmp) (t:Tru) (d:Dvd):List Int := claimsK c t d c.trades.length
def kmC (c:Cmp) (t:Tru) (d:Dvd) (km:List (Int × Int × Int)):Nat → List (Int × Int × Int)
 | 0 => km
 | k + 1 => if earlyB t d k = lateB c t d k then updK c (kmC c t d km k) (lat t.sold (k:Nat)) d.record else kmC c t d km k
theorem kmC_ok {c:Cmp} {km:List (Int × Int × Int)} (h:kmOk c km) (t:Tru) (d:Dvd):∀ k,kmOk c (kmC c t d km k)
 | 0 => h
 | k + 1 => by
  rw [kmC]
  split
  ·exact updK_ok (kmC_ok h t d k) _ _
  ·exact kmC_ok h t d k
theorem claimsK_succ (c:Cmp) (t:Tru) (d:Dvd) (k:Nat):claimsK c t d (k + 1) = claimsK c t d k ++ [claimK c t d k] := by simp [claimsK,List.range_succ]
@[simp] theorem claimsK_len (c:Cmp) (t:Tru) (d:Dvd) (k:Nat):(claimsK c t d k).length = k := by simp [claimsK]
theorem HLe_W (c:Cmp) (km km' : List (Int × Int × Int)) (rest:Heap):HLe (Wk c km rest) (Wk c km' rest) := by
 intro i b hb hp
 cases i with
 | zero => simp only [Wk,List.getElem?_cons_zero,Option.some.injEq] at hb; subst hb; cases hp
 | succ i => exact hb
theorem a66 (c:Cmp) (t:Tru) (d:Dvd) (km:List (Int × Int × Int)) (hf:faultM c = 0) (hd:datedB c t = true) (hv:okDv d = true) (hkm:kmOk c km) :
  ACalls Try.prog 66 [.ptr 1 0 0,Uv t,Dv d] (Wk c km []) fun v h' => v = .own 2 c.trades.length c.trades.length ∧ h' = Wk c (kmC c t d km c.trades.length) [some (.row 3 1 c.trades.length (enc eI (claimsM c t d)))] := by
 obtain ⟨⟨g1,g2,g3,g4,g5,g6,g7⟩,g8,g9,g10,g11,g12⟩ := fault_ok hf
 obtain ⟨l1,l2⟩ := dated_len hd
 have hdv := div_in hv
 refine q66.calls X18_ok (h := Wk c km []) rfl (w66 c t d km) ?_
 simp only [holds]
 refine LoopP.state (StLe.ghostTmp (t := 6) 3 1 rfl) ?_
 refine lp_count X18_ok c.trades.length (fun _ => True) (fun k => E66 c t d (claimsK c t d k) k) (fun k => Wk c (kmC c t d km k) [some (.row 3 1 (claimsK c t d k).length (enc eI (claimsK c t d k)))]) rfl rfl trivial (fun k _ => ⟨rfl,rfl,Wk_belr _ _ _ 3 (by decide) rfl⟩) ?_
 intro k hk _ Q' hn he hr
 rw [b66]
 simp only [holds,Int.ofNat_eq_natCast,cI_I,cI_T0,cI_T1,cI_T2,cI_T3,cI_T4,cI_T5,cI_T6,dCe,dC_enc,dK_map,true_and]
 refine ⟨fun e1 => ?_,fun e1 => ?_⟩
 ·have hlt:k < c.trades.length := by have := of_decide_eq_true e1; omega
  have ht := trade_in hf hlt
  simp only [okTr,Bool.and_eq_true,decide_eq_true_eq] at ht
  have hu := unitsT_in hf t d.record hlt
  have o1:okEl [0,0,0,0,0,0,0] (enc eT c.trades) 7 (k:Nat) := ok_T (by simpa using hlt)
  have o2:okEl [0] (enc eI t.deliv) 1 (k:Nat) := ok_I (by simp; omega)
  have o3:okEl [0] (enc eI t.sold) 1 (k:Nat) := ok_I (by simp; omega)
  have k0 := kmC_ok hkm t d k
  have eu:(lat c.trades (k:Nat)).shares * facM c.splits (lat t.sold (k:Nat)) d.record = unitsT c t d.record k := rfl
  simp only [eu]
  have hp := pence_in hdv.2.2.2.1 hdv.2.2.2.2 (n := unitsT c t d.record k) (by omega)
  have hp2:(0 - d.pence) * unitsT c t d.record k = -(d.pence * unitsT c t d.record k) := by rw [Int.zero_sub,Int.neg_mul]
  have hn1 := fun J => hn J hlt trivial
  simp only [E66,claimsK_succ,enc_append,enc_one,List.length_append,List.length_cons,List.length_nil] at hn1
  have hA:earlyB t d k = true → lateB c t d k = true → ∀ J,_ := fun a b J => by
   have h := hn1 J
   simp only [kmC,claimK,a,b,if_true] at h
   exact h
  have hB:earlyB t d k = false → lateB c t d k = false → ∀ J,_ := fun a b J => by
   have h := hn1 J
   simp only [kmC,claimK,a,b,if_true,Bool.false_eq_true,if_false] at h
   exact h
  have hC:earlyB t d k = true → lateB c t d k = false → ∀ J,_ := fun a b J => by
   have h := hn1 J
   simp only [kmC,claimK,a,b,if_true,Bool.false_eq_true,Bool.true_eq_false,if_false] at h
   exact h
  have hD:earlyB t d k = false → lateB c t d k = true → ∀ J,_ := fun a b J => by
   have h := hn1 J
   simp only [kmC,claimK,a,b,if_true,Bool.false_eq_true,Bool.true_eq_false,if_false] at h
   exact h
  clear hn hn1 he hr
  repeat' (first | (refine And.intro ?_ ?_) | (refine fun (_:_ = _) => ?_))
  all_goals first
   | omega
   | assumption
   | rfl
   | exact HLe_W _ _ _ _
   | (simp; done)
   | exact hA (by grind [earlyB]) (by grind [lateB]) _
   | exact hB (by grind [earlyB]) (by grind [lateB]) _
   | exact hC (by grind [earlyB]) (by grind [lateB]) _
   | exact hD (by grind [earlyB]) (by grind [lateB]) _
   | (simp; omega)
   | grind
 ·have hge:k = c.trades.length := by have := of_decide_eq_false e1; omega
  subst hge
  refine he _ _ _ (ret_tree X18_ok (doneK_ok rfl) (x66 _ _ _ _ _ _ _ _ _ _) ?_)
  simp only [holds,claimsK_len]
  exact ⟨trivial,rfl⟩
end
end Go.Proofs.Ytdnefcjbcieecaa
namespace Go.Proofs.Ytdnefcjbcieecaa
open Go Go.Proofs
noncomputable section
def asDv:V → Option Dvd
 | .agg [.d (.int .i64 a),.d (.int .i64 b),.d (.int .i64 c)] => some ⟨a,b,c⟩
 | _ => none
def okCTD (c:Cmp) (t:Tru) (d:Dvd) (km:List (Int × Int × Int)):Prop := faultM c = 0 ∧ datedB c t = true ∧ okDv d = true ∧ kmOk c km
def ent64:Ent := fun args h => match args,asW h with
 | [.ptr 1 0 0,x,y],some (c,km,[]) => match asU x,asDv y with
  | some t,some d => some (h = Wk c km [] ∧ Uv t = x ∧ Dv d = y ∧ okCTD c t d km,.own 3 (paidM c t d).length (paidM c t d).length,some (Wk c (kmT c t d.record km c.trades.length) [none,some (.row 3 1 (paidM c t d).length (enc eI (paidM c t d)))]))
  | _,_ => none
 | _,_ => none
theorem ent64_ok:EntOk Try.prog 64 ent64 := by
 intro args h p v h' he hp
 unfold ent64 at he
 split at he
 ·split at he
  ·cases he
   obtain ⟨h1,rfl,rfl,h2,h3,h4,h5⟩ := hp
   rw [h1]
   exact a64 _ _ _ _ h2 h3 h4 h5
  ·cases he
 ·cases he
theorem fin_W (c:Cmp) (km:List (Int × Int × Int)) (n:Nat) (ds:List D):finX 2 (.own 2 n n) (Wk c km [some (.row 3 1 n ds)]) = (.d (.sl false n ds),Wk c km []) := by
 have hW := Wk_bel c km 2 (by decide)
 simp [finX,rowsIn,rowsIn1,rowIn,frzRows,frzB,blkDs,fzV,fz2,fz1,Wk,bel2,bel1,bel0] at hW ⊢
 exact hW
theorem a66f (c:Cmp) (t:Tru) (d:Dvd) (km:List (Int × Int × Int)) (hf:faultM c = 0) (hd:datedB c t = true) (hv:okDv d = true) (hkm:kmOk c km) :
  ACalls Try.prog 66 [.ptr 1 0 0,Uv t,Dv d] (Wk c km []) fun v h' => v = vsl eI (claimsM c t d) ∧ ∃ J,h' = Wk c (kmC c t d km c.trades.length) J := by
 refine ACalls.fin ((a66 c t d km hf hd hv hkm).mono ?_)
 rintro v h' ⟨rfl,rfl⟩
 have e:(claimsM c t d).length = c.trades.length := claimsK_len c t d _
 have e2:(Wk c km []).length = 2 := rfl
 rw [e2,fin_W]
 refine ⟨?_,[],rfl⟩
 unfold vsl dsl
 rw [e]
def ent66:Ent := fun args h => match args,asW h with
 | [.ptr 1 0 0,x,y],some (c,km,rest) => match asU x,asDv y with
  | some t,some d => some (h = Wk c km rest ∧ Uv t = x ∧ Dv d = y ∧ okCTD c t d km,vsl eI (claimsM c t d),some (Wk c (kmC c t d km c.trades.length) rest))
  | _,_ => none
 | _,_ => none
theorem ent66_ok:EntOk Try.prog 66 ent66 := by
 intro args h p v h' he hp
 unfold ent66 at he
 split at he
 ·split at he
  ·cases he
   obtain ⟨h1,rfl,rfl,h2,h3,h4,h5⟩ := hp
   rw [h1]
   exact more_W rfl rfl (a66f _ _ _ _ h2 h3 h4 h5) _
  ·cases he
 ·cases he
def tab22:Spec := (spAdd 66 ent66 (spAdd 64 ent64 tab18))
theorem tab22_ok:SpOk Try.prog tab22 := (spAdd_ok ent66_ok (spAdd_ok ent64_ok tab18_ok))
def X22:Sx := mkX tab22
theorem X22_ok:SpOk Try.prog X22.sp := tab22_ok
theorem w67 (c:Cmp) (t:Tru) (d:Dvd) (km:List (Int × Int × Int)):sx X22 c67 [] (doneK r67) (envOf [.ptr 1 0 0,Uv t,Dv d]) [] (Wk c km []) =
  let x1_ := [V.d (D.int .i64 (Dvd.ex d)),V.d (D.int .i64 (Dvd.record d)),V.d (D.int .i64 (Dvd.pence d))]
  let y0_ := ({ ex := Dvd.ex d,record := Dvd.record d,pence := Dvd.pence d }:Dvd)
  let y2_ := (dK (List.map entE km))
  let x2_ := (kmT (dCe c) (dUe t) (Dvd.record y0_) y2_ (List.length (Cmp.trades (dCe c))))
  let x3_ := (paidM (dCe c) (dUe t) y0_)
  let x4_ := (dK (List.map entE x2_))
  let x5_ := (claimsM (dCe (dCe c)) (dUe t) y0_)
  let x6_ := (Cmp.trades (dCe (dCe c)))
  let x7_ := (Cmp.held (dCe (dCe c)))
  let x8_ := (Cmp.divs (dCe (dCe c)))
  let x9_ := (Cmp.splits (dCe (dCe c)))
  let x10_ := (Cmp.closed (dCe (dCe c)))
  let y1_ := (Blk.row 3 1 (List.length x3_) (enc eI x3_))
  Tr.need (Wk c km [] = Wk (dCe c) y2_ [] ∧ Uv (dUe t) = Uv t ∧ Dv y0_ = V.agg x1_ ∧ okCTD (dCe c) (dUe t) y0_ y2_) (Tr.need (Wk (dCe c) x2_ [none,some y1_] = Wk (dCe (dCe c)) x4_ [none,some y1_] ∧ Uv (dUe t) = Uv t ∧ Dv y0_ = V.agg x1_ ∧ okCTD (dCe (dCe c)) (dUe t) y0_ x4_) (Tr.lp (CCode.at c67 [1,1,0,1,0,0]) [Fr.blk 0,Fr.seq (CCode.at c67 [1,1,1])] [(0,V.ptr 1 0 0),(7,V.own 3 (List.length x3_) (List.length x3_)),(17,V.d (D.sl false (List.length x5_) (enc eI x5_))),(18,V.d (D.int .i64 (Int.ofNat (List.length x5_)))),(19,V.d (D.int .i64 0))] [some (Blk.map (List.map entE (kmC (dCe (dCe c)) (dUe t) y0_ x4_ (List.length x6_)))),some (Blk.box [V.d (D.int .i64 (Cmp.houses (dCe (dCe c)))),V.d (D.sl false (List.length x7_) (enc eI x7_)),V.d (D.sl false (List.length x6_) (enc eT x6_)),V.d (D.sl false (List.length x8_) (enc eV x8_)),V.d (D.sl false (List.length x9_) (enc eS x9_)),V.d (D.sl false (List.length x10_) (enc eR x10_)),V.mp 0]),none,some y1_])) := by kernel_rfl
def rl (f:Nat → Int) (n:Nat):List Int := (List.range n).map f
@[simp] theorem rl_len (f:Nat → Int) (n:Nat):(rl f n).length = n := by simp [rl]
def E67 (cl:List Int) (n:Nat) (k:Nat):Env := [(0,.ptr 1 0 0),(7,.own 3 n n),(17,vsl eI cl),(18,vi cl.length),(19,vi k)]
theorem b67 (c:Cmp) (cl l:List Int) (n k:Nat) (km:List (Int × Int × Int)):sx X22 (CCode.at c67 [1,1,0,1,0,0]) [] leafK (E67 cl n k) [] (Wk c km [none,some (.row 3 1 n (enc eI l))]) =
  let y1_ := (List.length cl)
  let x1_ := (decide (Int.ofNat k < Int.ofNat y1_))
  let x2_ := (List.length (Cmp.trades c))
  let y0_ := (enc eT (Cmp.trades c))
  let x3_ := ((0:Int) ≤ Int.ofNat k ∧ Int.ofNat k < Int.ofNat x2_ ∧ okEl [0,0,0,0,0,0,0] y0_ 7 (Int.ofNat k))
  let x4_ := (cI y0_ 7 (Int.ofNat k) 0)
  let x5_ := (((0:Int) ≤ cI y0_ 7 (Int.ofNat k) 0 ∧ cI y0_ 7 (Int.ofNat k) 0 < Int.ofNat n) ∧ n = n ∧ Int.toNat x4_ * 1 + 1 ≤ List.length (enc eI l))
  let x6_ := (Int.toNat x4_ * 1)
  let x7_ := (dI (enc eI l) x6_ - cI (enc eI cl) 1 (Int.ofNat k) 0)
  let x8_ := [V.d (D.int .i64 x7_)]
  let x9_ := (cI y0_ 7 (Int.ofNat k) 1)
  let x10_ := (putAt (enc eI l) x6_ [D.int .i64 x7_])
  let x11_ := (((0:Int) ≤ cI y0_ 7 (Int.ofNat k) 1 ∧ cI y0_ 7 (Int.ofNat k) 1 < Int.ofNat n) ∧ n = n ∧ Int.toNat x9_ * 1 + 1 ≤ List.length x10_)
  let x12_ := (Int.toNat x9_ * 1)
  let x13_ := (dI x10_ x12_ + cI (enc eI cl) 1 (Int.ofNat k) 0)
  let x14_ := [V.d (D.int .i64 x13_)]
  let x15_ := (Blk.map (List.map entE km))
  let x16_ := (Blk.box [V.d (D.int .i64 (Cmp.houses c)),V.d (D.sl false (List.length (Cmp.held c)) (enc eI (Cmp.held c))),V.d (D.sl false x2_ y0_),V.d (D.sl false (List.length (Cmp.divs c)) (enc eV (Cmp.divs c))),V.d (D.sl false (List.length (Cmp.splits c)) (enc eS (Cmp.splits c))),V.d (D.sl false (List.length (Cmp.closed c)) (enc eR (Cmp.closed c))),V.mp 0])
  let y2_ := (17,V.d (D.sl false y1_ (enc eI cl)))
  let y3_ := (18,V.d (D.int .i64 (Int.ofNat y1_)))
  Tr.br x1_ (Tr.need ((0:Int) ≤ Int.ofNat k ∧ Int.ofNat k < Int.ofNat y1_ ∧ okEl [0] (enc eI cl) 1 (Int.ofNat k)) (Tr.need x3_ (Tr.need x5_ (Tr.need (n = n ∧ (enc eI l)[Int.toNat x4_ * 1]? = some (D.int .i64 (dI (enc eI l) x6_))) (Tr.need (-9223372036854775808 ≤ dI (enc eI l) x6_ - cI (enc eI cl) 1 (Int.ofNat k) 0 ∧ dI (enc eI l) x6_ - cI (enc eI cl) 1 (Int.ofNat k) 0 ≤ 9223372036854775807) (Tr.need x5_ (Tr.need (n = n ∧ Int.toNat x4_ * 1 + List.length x8_ ≤ List.length (enc eI l) ∧ List.length x8_ = 1) (Tr.need x3_ (Tr.need x11_ (Tr.need (n = n ∧ x10_[Int.toNat x9_ * 1]? = some (D.int .i64 (dI x10_ x12_))) (Tr.need (-9223372036854775808 ≤ dI x10_ x12_ + cI (enc eI cl) 1 (Int.ofNat k) 0 ∧ dI x10_ x12_ + cI (enc eI cl) 1 (Int.ofNat k) 0 ≤ 9223372036854775807) (Tr.need x11_ (Tr.need (n = n ∧ Int.toNat x9_ * 1 + List.length x14_ ≤ List.length x10_ ∧ List.length x14_ = 1) (Tr.need (-9223372036854775808 ≤ Int.ofNat k + (1:Int) ∧ Int.ofNat k + (1:Int) ≤ 9223372036854775807) (Tr.leaf CExit.normal [(0,V.ptr 1 0 0),(7,V.own 3 n n),y2_,y3_,(19,V.d (D.int .i64 (Int.ofNat k + (1:Int))))] [some x15_,some x16_,none,some (Blk.row 3 1 n (putAt x10_ x12_ [D.int .i64 x13_]))]))))))))))))))) (Tr.leaf (CExit.exit 0) [(0,V.ptr 1 0 0),(7,V.own 3 n n),y2_,y3_,(19,V.d (D.int .i64 (Int.ofNat k))),(20,V.d (D.bool x1_))] [some x15_,some x16_,none,some (Blk.row 3 1 n (enc eI l))]) := by kernel_rfl
theorem x67 (u v w x y:V) (n:Nat) (h:Heap):sS X22 (doneK r67) [Fr.blk 0,Fr.seq (CCode.at c67 [1,1,1])] (.exit 0) [(0,u),(7,.own 3 n n),(17,v),(18,w),(19,x),(20,y)] [] h =
  Tr.done (V.own 3 n n) h := by kernel_rfl
theorem enc_map (l:List Int):enc eI l = l.map (D.int .i64) := by
 induction l with
 | nil => rfl
 | cons x l ih => show eI x ++ enc eI l = _; rw [ih]; rfl
theorem putAt_set {α:Type} (l:List α) (i:Nat) (x:α) (h:i < l.length):putAt l i [x] = l.set i x := by
 rw [putAt,List.set_eq_take_append_cons_drop,if_pos h]; simp
theorem rl_get (f:Nat → Int) {n:Nat} {i:Int} (h0:0 ≤ i) (h:i < n):(enc eI (rl f n))[i.toNat * 1]? = some (D.int .i64 (f i.toNat)) := by
 rw [enc_map,Nat.mul_one]
 have:i.toNat < n := by omega
 simp [rl,this]
theorem rl_dI (f:Nat → Int) {n:Nat} {i:Int} (h0:0 ≤ i) (h:i < n):dI (enc eI (rl f n)) (i.toNat * 1) = f i.toNat := by
 unfold dI; rw [rl_get f h0 h]
theorem rl_put (f:Nat → Int) {n:Nat} {i:Int} (h0:0 ≤ i) (h:i < n) (x:Int):putAt (enc eI (rl f n)) (i.toNat * 1) [D.int .i64 x] = enc eI (rl (setF f i.toNat x) n) := by
 have hi:i.toNat < n := by omega
 rw [Nat.mul_one,putAt_set _ _ _ (by simp; exact hi),enc_map,enc_map]
 apply List.ext_getElem
 ·simp [rl]
 ·intro j h1 h2
  simp only [rl,List.getElem_set,List.getElem_map,List.getElem_range,setF]
  by_cases e:i.toNat = j
  ·rw [if_pos e,if_pos e.symm]
  ·rw [if_neg e,if_neg (Ne.symm e)]
def rightT (c:Cmp) (t:Tru) (d:Dvd):Nat → Nat → Int
 | 0 => fun h => d.pence * heldF c t d.record h
 | k + 1 => moveF (rightT c t d k) (lat c.trades (k:Nat)).seller.toNat (lat c.trades (k:Nat)).buyer.toNat (claimK c t d k)
def rightsM (c:Cmp) (t:Tru) (d:Dvd):List Int := rl (rightT c t d c.trades.length) c.held.length
theorem heldF_in {c:Cmp} (hf:faultM c = 0) (t:Tru) (d:Int) (i:Nat) : -23328000 ≤ heldF c t d i ∧ heldF c t d i ≤ 23328000 := by
 have h1 := heldT_in hf t d c.trades.length (Nat.le_refl _) i
 have h2 := (fault_ok hf).1.2.2.2.1
 have e:heldF c t d i = heldT c t d c.trades.length i := rfl
 rw [e]; omega
theorem claimK_in {c:Cmp} (hf:faultM c = 0) (t:Tru) {d:Dvd} (hd:okDv d = true) {k:Nat} (hk:k < c.trades.length) : -50000000000 ≤ claimK c t d k ∧ claimK c t d k ≤ 50000000000 := by
 have hdv := div_in hd
 have hu := unitsT_in hf t d.record hk
 have hp := pence_in hdv.2.2.2.1 hdv.2.2.2.2 (n := unitsT c t d.record k) (by omega)
 have hp2:(0 - d.pence) * unitsT c t d.record k = -(d.pence * unitsT c t d.record k) := by rw [Int.zero_sub,Int.neg_mul]
 unfold claimK
 split <;> split <;> omega
theorem rightT_in {c:Cmp} (hf:faultM c = 0) (t:Tru) {d:Dvd} (hd:okDv d = true):∀ k,k ≤ c.trades.length → ∀ i, -(50000000000 * (2 * (k:Int) + 1)) ≤ rightT c t d k i ∧ rightT c t d k i ≤ 50000000000 * (2 * (k:Int) + 1)
 | 0,_,i => by
  have hdv := div_in hd
  have hh := heldF_in hf t d.record i
  have hp := pence_in hdv.2.2.2.1 hdv.2.2.2.2 (n := heldF c t d.record i) (by omega)
  simp only [rightT]; omega
 | k + 1,hk,i => by
  have ih := rightT_in hf t hd k (by omega)
  have hu := claimK_in hf t hd (k := k) (by omega)
  simp only [rightT,moveF,setF]
  have h1 := ih i
  have h2 := ih (lat c.trades (k:Nat)).seller.toNat
  have h3 := ih (lat c.trades (k:Nat)).buyer.toNat
  split <;> split <;> omega
theorem paid_rl (c:Cmp) (t:Tru) (d:Dvd):paidM c t d = rl (rightT c t d 0) c.held.length := by
 simp only [paidM,refH,refK,rl,List.map_map]; rfl
theorem claims_at {c:Cmp} {t:Tru} {d:Dvd} {k:Nat} (hk:k < c.trades.length):lat (claimsM c t d) (k:Nat) = claimK c t d k := by
 simp [lat,claimsM,claimsK,hk]
theorem a67 (c:Cmp) (t:Tru) (d:Dvd) (km:List (Int × Int × Int)) (hf:faultM c = 0) (hd:datedB c t = true) (hv:okDv d = true) (hkm:kmOk c km) :
  ACalls Try.prog 67 [.ptr 1 0 0,Uv t,Dv d] (Wk c km []) fun v h' => v = .own 3 c.held.length c.held.length ∧ h' = Wk c (kmC c t d (kmT c t d.record km c.trades.length) c.trades.length) [none,some (.row 3 1 c.held.length (enc eI (rightsM c t d)))] := by
 obtain ⟨⟨g1,g2,g3,g4,g5,g6,g7⟩,g8,g9,g10,g11,g12⟩ := fault_ok hf
 have hk1 := kmT_ok hkm t d.record c.trades.length
 have hcl:(claimsM c t d).length = c.trades.length := claimsK_len c t d _
 have hpl:(paidM c t d).length = c.held.length := by rw [paid_rl,rl_len]
 refine q67.calls X22_ok (h := Wk c km []) rfl (w67 c t d km) ?_
 simp only [holds,dCe,dC_enc,dUe,dU_enc,dK_map,true_and,hpl]
 refine ⟨⟨rfl,hf,hd,hv,hkm⟩,⟨rfl,hf,hd,hv,hk1⟩, ?_⟩
 refine lp_count X22_ok c.trades.length (fun _ => True) (fun k => E67 (claimsM c t d) c.held.length k) (fun k => Wk c (kmC c t d (kmT c t d.record km c.trades.length) c.trades.length) [none,some (.row 3 1 c.held.length (enc eI (rl (rightT c t d k) c.held.length)))]) rfl ?_ trivial (fun k _ => ⟨rfl,rfl,Wk_belr _ _ _ 4 (by decide) rfl⟩) ?_
 ·rw [← paid_rl]; rfl
 intro k hk _ Q' hn he hr
 rw [b67]
 simp only [holds,Int.ofNat_eq_natCast,cI_I,cI_T0,cI_T1,true_and,hcl]
 refine ⟨fun e1 => ?_,fun e1 => ?_⟩
 ·have hlt:k < c.trades.length := by have := of_decide_eq_true e1; omega
  have ht := trade_in hf hlt
  simp only [okTr,Bool.and_eq_true,decide_eq_true_eq] at ht
  have o1:okEl [0,0,0,0,0,0,0] (enc eT c.trades) 7 (k:Nat) := ok_T (by simpa using hlt)
  have o2:okEl [0] (enc eI (claimsM c t d)) 1 (k:Nat) := ok_I (by rw [hcl]; simpa using hlt)
  have hc := claimK_in hf t hv hlt
  have hb := fun i => rightT_in hf t hv k hk i
  have hs:0 ≤ (lat c.trades (k:Nat)).seller ∧ (lat c.trades (k:Nat)).seller < (c.held.length:Int) := by omega
  have hbu:0 ≤ (lat c.trades (k:Nat)).buyer ∧ (lat c.trades (k:Nat)).buyer < (c.held.length:Int) := by omega
  have hn1 := fun J => hn J hlt trivial
  simp only [E67,vsl,dsl,hcl] at hn1
  rw [claims_at hlt,rl_dI _ hs.1 hs.2,rl_put _ hs.1 hs.2,rl_dI _ hbu.1 hbu.2,rl_put _ hbu.1 hbu.2,rl_get _ hs.1 hs.2,rl_get _ hbu.1 hbu.2]
  have b1 := hb (lat c.trades (k:Nat)).seller.toNat
  have b2:setF (rightT c t d k) (lat c.trades (k:Nat)).seller.toNat (rightT c t d k (lat c.trades (k:Nat)).seller.toNat - claimK c t d k) (lat c.trades (k:Nat)).buyer.toNat ≤ 50000000000 * (2 * (k:Int) + 2) ∧ -(50000000000 * (2 * (k:Int) + 2)) ≤ setF (rightT c t d k) (lat c.trades (k:Nat)).seller.toNat (rightT c t d k (lat c.trades (k:Nat)).seller.toNat - claimK c t d k) (lat c.trades (k:Nat)).buyer.toNat := by
   have b2 := hb (lat c.trades (k:Nat)).buyer.toNat
   simp only [setF]
   split <;> omega
  simp only [len_I,rl_len]
  refine ⟨⟨by omega,by omega,o2⟩,⟨by omega,by omega,o1⟩,⟨hs,by omega⟩,trivial,⟨by omega,by omega⟩,⟨hs,by omega⟩,⟨by simp; omega,rfl⟩,⟨by omega,by omega,o1⟩,⟨hbu,by omega⟩,trivial,⟨by omega,by omega⟩,⟨hbu,by omega⟩,⟨by simp; omega,rfl⟩,⟨by omega,by omega⟩, ?_⟩
  exact hn1 []
 ·have hge:k = c.trades.length := by have := of_decide_eq_false e1; omega
  subst hge
  refine he _ _ _ (ret_tree X22_ok (doneK_ok rfl) (x67 _ _ _ _ _ _ _) ?_)
  simp only [holds]
  exact ⟨trivial,rfl⟩
end
end Go.Proofs.Ytdnefcjbcieecaa
namespace Go.Proofs.Ytdnefcjbcieecaa
open Go Go.Proofs
noncomputable section
def sumE (c:Cmp) (t:Tru) (n:Int):Int := if askE c t ≠ 0 then askE c t else if inR n 0 (c.divs.length - 1) = true then 0 else 2
def sumL (M:Cmp → Tru → Dvd → List Int) (c:Cmp) (t:Tru) (n:Int):List Int := if sumE c t n = 0 then M c t (lat c.divs n) else []
theorem divs_ok {c:Cmp} (hf:faultM c = 0) {n:Int} (h0:0 ≤ n) (h:n < c.divs.length):okDv (lat c.divs n) = true := by
 have := List.all_eq_true.1 (fault_ok hf).2.2.2.1 _ (lat_mem (l := c.divs) (k := n.toNat) (by omega))
 have e:((n.toNat:Nat):Int) = n := by omega
 rw [e] at this
 exact this
def ent65:Ent := fun args _ => match args with
 | [.agg [.d (.fn (.func g))],x,y,.d (.int .i64 n)] => match asC x,asU y with
  | some c,some t => some (Cv c = x ∧ Uv t = y ∧ (g = 64 ∨ g = 66 ∨ g = 67),.tup [vsl eI (sumL (match g with | 64 => paidM | 66 => claimsM | _ => rightsM) c t n),vi (sumE c t n)],none)
  | _,_ => none
 | _ => none
def tab24:Spec := (spAdd 65 ent65 tab20)
end
end Go.Proofs.Ytdnefcjbcieecaa
namespace Go.Proofs.Ytdnefcjbcieecaa
open Go Go.Proofs
noncomputable section
def befF (a b:List Int):Nat → Nat → Bool
 | 0,_ => decide (a.length < b.length)
 | n + 1,k => if lat a (k:Nat) = lat b (k:Nat) then befF a b n (k + 1) else decide (lat a (k:Nat) < lat b (k:Nat))
def beforeB (a b:List Int):Bool := befF a b (min a.length b.length) 0
def entLL (q:List Int → List Int → Prop) (m:List Int → List Int → V):Ent := fun args _ => match args with
 | [.d (.sl false n1 d1),.d (.sl false n2 d2)] => some (okL eI 1 gI n1 d1 ∧ okL eI 1 gI n2 d2 ∧ q (dec 1 gI n1 d1) (dec 1 gI n2 d2),m (dec 1 gI n1 d1) (dec 1 gI n2 d2),none)
 | _ => none
def ent68 := entLL (fun a _ => a.length ≤ 1000000) (fun a b => vb (beforeB a b))
def tab25:Spec := (spAdd 68 ent68 tab24)
end
end Go.Proofs.Ytdnefcjbcieecaa
namespace Go.Proofs.Ytdnefcjbcieecaa
open Go Go.Proofs
noncomputable section
def rightR (c:Cmp) (t:Tru) (d:Dvd) (h:Nat):Nat → Int
 | 0 => lat c.held (h:Nat) * fac c (-1) d.record
 | k + 1 => if earlyB t d k = true then (if (lat c.trades (k:Nat)).buyer = h then rightR c t d h k + unitsT c t d.record k else if (lat c.trades (k:Nat)).seller = h then rightR c t d h k - unitsT c t d.record k else rightR c t d h k) else rightR c t d h k
def refR (c:Cmp) (t:Tru) (d:Dvd) (n:Nat):List Int := rl (fun h => d.pence * rightR c t d h c.trades.length) n
@[simp] theorem refR_len (c:Cmp) (t:Tru) (d:Dvd) (h:Nat):(refR c t d h).length = h := by simp [refR]
end
end Go.Proofs.Ytdnefcjbcieecaa
namespace Go.Proofs.Ytdnefcjbcieecaa
open Go Go.Proofs
noncomputable section
theorem q4:FunIs Try.prog 4 G4 c4 r4 := ⟨Try.f4,Try.func4,k4,e4,by kernel_rfl,by kernel_rfl⟩
def entCUV (q:Cmp → Tru → Dvd → Prop) (m:Cmp → Tru → Dvd → V):Ent := fun args _ => match args with
 | [x,y,z] => match asC x,asU y,asDv z with
  | some c,some t,some d => some (Cv c = x ∧ Uv t = y ∧ Dv d = z ∧ q c t d,m c t d,none)
  | _,_,_ => none
 | _ => none
def okCUV (c:Cmp) (t:Tru) (d:Dvd):Prop := faultM c = 0 ∧ datedB c t = true ∧ okDv d = true
def ent29 := entCUV okCUV (fun c t d => vsl eI (paidM c t d))
def ent30 := entCUV okCUV (fun c t d => vsl eI (claimsM c t d))
def ent31 := entCUV okCUV (fun c t d => vsl eI (rightsM c t d))
def ent28 := entLL (fun a b => a.length ≤ 1000000 ∧ b.length ≤ 1000000) (fun a b => vb (decide (a = b)))
def ent25 := entCUI (fun _ _ _ => True) (fun c t n => .tup [vsl eI (sumL paidM c t n),vi (sumE c t n)])
def ent26 := entCUI (fun _ _ _ => True) (fun c t n => .tup [vsl eI (sumL claimsM c t n),vi (sumE c t n)])
def ent27 := entCUI (fun _ _ _ => True) (fun c t n => .tup [vsl eI (sumL rightsM c t n),vi (sumE c t n)])
def tab26:Spec := (spAdd 31 ent31 (spAdd 30 ent30 (spAdd 29 ent29 (spAdd 28 ent28 (spAdd 27 ent27 (spAdd 26 ent26 (spAdd 25 ent25 tab25)))))))
def X26:Sx := mkX tab26
theorem w4 (c:Cmp) (t:Tru) (n:Int):sx X26 c4 [] (doneP r4) (envOf [Cv c,Uv t,vi n]) [] [] =
  let x1_ := (Cv (dCe c) = Cv c ∧ small (dCe c))
  let x2_ := (Uv (dUe t) = Uv t ∧ List.length (Tru.sold (dUe t)) ≤ 1000000 ∧ List.length (Tru.deliv (dUe t)) ≤ 1000000)
  let x3_ := (Cv (dCe (dCe c)) = Cv (dCe c) ∧ Uv (dUe (dUe t)) = Uv (dUe t) ∧ True)
  let x4_ := (List.length (Cmp.divs c))
  let x5_ := (sumE (dCe (dCe c)) (dUe (dUe t)) n == (2:Int))
  let x6_ := (sumL paidM (dCe (dCe c)) (dUe (dUe t)) n)
  let x7_ := (sumL claimsM (dCe (dCe c)) (dUe (dUe t)) n)
  let x8_ := (sumL rightsM (dCe (dCe c)) (dUe (dUe t)) n)
  let x9_ := (sumE (dCe (dCe c)) (dUe (dUe t)) n == (0:Int))
  let y4_ := (enc eV (Cmp.divs c))
  let y2_ := ({ ex := cI y4_ 3 n 0,record := cI y4_ 3 n 1,pence := cI y4_ 3 n 2 }:Dvd)
  let x10_ := (Cv (dCe c) = Cv c ∧ Uv (dUe t) = Uv t ∧ Dv y2_ = V.agg [V.d (D.int .i64 (cI y4_ 3 n 0)),V.d (D.int .i64 (cI y4_ 3 n 1)),V.d (D.int .i64 (cI y4_ 3 n 2))] ∧ okCUV (dCe c) (dUe t) y2_)
  let x11_ := (paidM (dCe c) (dUe t) y2_)
  let x12_ := (claimsM (dCe c) (dUe t) y2_)
  let x13_ := (rightsM (dCe c) (dUe t) y2_)
  let x14_ := (sumE (dCe (dCe c)) (dUe (dUe t)) n == askE (dCe c) (dUe t))
  let y3_ := (Tr.done (V.d (D.bool false)) [])
  let y6_ := (List.length x6_)
  let y7_ := (List.length x7_)
  let y8_ := (Tr.need True (Tr.done (V.d (D.bool true)) []))
  let y9_ := (List.length x8_)
  let y0_ := (Tr.need ((0:Int) ≤ n ∧ n < Int.ofNat x4_ ∧ okEl [0,0,0] y4_ 3 n) (Tr.br x9_ (Tr.need x10_ (Tr.need (okL eI 1 gI y6_ (enc eI x6_) ∧ okL eI 1 gI (List.length x11_) (enc eI x11_) ∧ List.length (dec 1 gI y6_ (enc eI x6_)) ≤ 1000000 ∧ List.length (dec 1 gI (List.length x11_) (enc eI x11_)) ≤ 1000000) (Tr.br (decide (dec 1 gI y6_ (enc eI x6_) = dec 1 gI (List.length x11_) (enc eI x11_))) (Tr.br x9_ (Tr.need x10_ (Tr.need (okL eI 1 gI y7_ (enc eI x7_) ∧ okL eI 1 gI (List.length x12_) (enc eI x12_) ∧ List.length (dec 1 gI y7_ (enc eI x7_)) ≤ 1000000 ∧ List.length (dec 1 gI (List.length x12_) (enc eI x12_)) ≤ 1000000) (Tr.br (decide (dec 1 gI y7_ (enc eI x7_) = dec 1 gI (List.length x12_) (enc eI x12_))) (Tr.br x9_ (Tr.need x10_ (Tr.need (okL eI 1 gI y9_ (enc eI x8_) ∧ okL eI 1 gI (List.length x13_) (enc eI x13_) ∧ List.length (dec 1 gI y9_ (enc eI x8_)) ≤ 1000000 ∧ List.length (dec 1 gI (List.length x13_) (enc eI x13_)) ≤ 1000000) (Tr.br (decide (dec 1 gI y9_ (enc eI x8_) = dec 1 gI (List.length x13_) (enc eI x13_))) y8_ y3_))) y3_) y3_))) y3_) y3_))) y3_))
  let y1_ := (Tr.need (-9223372036854775808 ≤ Int.ofNat y6_ + Int.ofNat y7_ ∧ Int.ofNat y6_ + Int.ofNat y7_ ≤ 9223372036854775807) (Tr.need (-9223372036854775808 ≤ Int.ofNat y6_ + Int.ofNat y7_ + Int.ofNat y9_ ∧ Int.ofNat y6_ + Int.ofNat y7_ + Int.ofNat y9_ ≤ 9223372036854775807) (Tr.br (Int.ofNat y6_ + Int.ofNat y7_ + Int.ofNat y9_ == (0:Int)) y8_ y3_)))
  let y5_ := (Tr.br (askE (dCe c) (dUe t) != (0:Int)) (Tr.br x14_ (Tr.br x14_ (Tr.br x14_ y1_ y3_) y3_) y3_) y0_)
  Tr.need (Cv (dCe c) = Cv c ∧ Uv (dUe t) = Uv t ∧ True) (Tr.br (!thin (dCe c) (dUe t)) y8_ (Tr.need x1_ (Tr.need x2_ (Tr.need x3_ (Tr.need x1_ (Tr.need x2_ (Tr.need x3_ (Tr.need x1_ (Tr.need x2_ (Tr.need x3_ (Tr.need (Cv (dCe c) = Cv c ∧ Uv (dUe t) = Uv t ∧ List.length (Cmp.trades (dCe c)) ≤ 1000000) (Tr.br (askE (dCe c) (dUe t) == (0:Int)) (Tr.need (-9223372036854775808 ≤ Int.ofNat x4_ - (1:Int) ∧ Int.ofNat x4_ - (1:Int) ≤ 9223372036854775807) (Tr.need True (Tr.br (!inR n (0:Int) (Int.ofNat x4_ - (1:Int))) (Tr.br ((2:Int) != (0:Int)) (Tr.br x5_ (Tr.br x5_ (Tr.br x5_ y1_ y3_) y3_) y3_) y0_) y5_))) y5_)))))))))))) := by kernel_rfl
theorem paidM_len (c:Cmp) (t:Tru) (d:Dvd):(paidM c t d).length = c.held.length := by rw [paid_rl,rl_len]
theorem claimsM_len (c:Cmp) (t:Tru) (d:Dvd):(claimsM c t d).length = c.trades.length := claimsK_len c t d _
theorem rightsM_len (c:Cmp) (t:Tru) (d:Dvd):(rightsM c t d).length = c.held.length := rl_len _ _
end
end Go.Proofs.Ytdnefcjbcieecaa
