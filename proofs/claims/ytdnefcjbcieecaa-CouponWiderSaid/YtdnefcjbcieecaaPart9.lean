/- A part of the proof. -/
import Derived.Test.YtdnefcjbcieecaaPart8
import Derived.Test.YtdnefcjbcieecaaProg
import Derived.KernelRfl
set_option linter.unusedVariables false
set_option linter.unusedSimpArgs false
namespace Go.Proofs.Ytdnefcjbcieecaa
open Go Go.Proofs
noncomputable section
def goodD (c:Cmp) (t:Tru) (k:Nat):Prop := ∀ i,i < 4 → 0 ≤ heldF c t (k:Nat) i
def kEnd (c:Cmp) (t:Tru):Nat := open Classical in if h:∃ k,k < 12 ∧ ¬ goodD c t k ∧ ∀ j,j < k → goodD c t j then h.choose + 1 else 12
theorem kEnd_bad {c:Cmp} {t:Tru} {k:Nat} (hk:k < 12) (hb:¬ goodD c t k) (hg:∀ j,j < k → goodD c t j):kEnd c t = k + 1 := by
 have h:∃ k,k < 12 ∧ ¬ goodD c t k ∧ ∀ j,j < k → goodD c t j := ⟨k,hk,hb,hg⟩
 unfold kEnd
 rw [dif_pos h]
 obtain ⟨h1,h2,h3⟩ := h.choose_spec
 rcases Nat.lt_trichotomy h.choose k with g | g | g
 ·exact (h2 (hg _ g)).elim
 ·rw [g]
 ·exact (hb (h3 _ g)).elim
theorem kEnd_good {c:Cmp} {t:Tru} (hg:∀ j,j < 12 → goodD c t j):kEnd c t = 12 := by
 unfold kEnd
 rw [dif_neg]
 rintro ⟨k,h1,h2,_⟩
 exact h2 (hg k h1)
theorem a93k (c:Cmp) (t:Tru) (km:List (Int × Int × Int)) (hf:faultM c = 0) (hs:t.sold.length = c.trades.length) (hd:t.deliv.length = c.trades.length) (hkm:kmOk c km) :
  ACalls Try.prog 93 [.ptr 1 0 0,Uv t] (Wk c km []) fun v h' => v = vb (fitsB c t) ∧ ∃ J,h' = Wk c (kmF c t km (kEnd c t)) J := by
 refine q93.calls X15_ok (h := Wk c km []) rfl (w93 c t km) ?_
 simp only [holds]
 refine lp_count X15_ok 12 (fun k => ∀ j,j < k → ∀ i,i < 4 → 0 ≤ heldF c t (j:Nat) i) (E93 t) (fun k => Wk c (kmF c t km k) [some (.box (cells4 (bef c t k)))]) rfl rfl (fun j hj => by omega) (fun k _ => ⟨rfl,rfl,Wk_belr _ _ _ 3 (by decide) rfl⟩) ?_
 intro k hk hA Q' hn he hr
 rw [b93]
 simp only [holds,least4,Int.ofNat_eq_natCast,dCe,dC_enc,dUe,dU_enc,dK_map,true_and]
 refine ⟨fun h1 => ?_,fun h1 => ?_⟩
 ·have hlt:k < 12 := by have := of_decide_eq_true h1; omega
  refine ⟨⟨hf,hs,hd,kmF_ok hkm t k⟩,fun h2 => ⟨by omega, ?_⟩,fun h2 => ⟨by simp,⟨okL4 _ _ _ _,by decide,by decide⟩,fun h3 => ?_,fun h3 => ⟨by omega, ?_⟩⟩⟩
  ·have h2' : eqDs [D.int .i64 (heldF c t (k:Nat) 0),D.int .i64 (heldF c t (k:Nat) 1),D.int .i64 (heldF c t (k:Nat) 2),D.int .i64 (heldF c t (k:Nat) 3)] [D.int .i64 (bef c t k 0),D.int .i64 (bef c t k 1),D.int .i64 (bef c t k 2),D.int .i64 (bef c t k 3)] = true := h2
   simp only [eqDs,eqD,Bool.and_eq_true,beq_iff_eq,true_and,and_true] at h2'
   obtain ⟨e0,e1,e2,e3⟩ := h2'
   have hb:∀ i,i < 4 → 0 ≤ bef c t k i := by
    cases k with
    | zero => intro i _; exact Int.le_refl _
    | succ k => exact hA k (by omega)
   have hnn:∀ i,i < 4 → 0 ≤ heldF c t (k:Nat) i := lt4 (p := fun i => 0 ≤ heldF c t (k:Nat) i) (e0 ▸ hb 0 (by decide)) (e1 ▸ hb 1 (by decide)) (e2 ▸ hb 2 (by decide)) (e3 ▸ hb 3 (by decide))
   have hc:cells4 (bef c t k) = cells4 (heldF c t (k:Nat)) := by simp only [cells4,e0,e1,e2,e3]
   have := hn [some (.box (cells4 (heldF c t (k:Nat))))] hlt (step_all hA hnn)
   simp only [kmF,bef] at this
   rw [← hc] at this
   rw [e0,e1,e2,e3]
   exact this
  ·refine hr _ _ (ret_tree X15_ok (doneK_ok rfl) (t93 false _) ?_)
   simp only [holds]
   have hfb:fitsB c t = false := by
    simp only [fitsB,decide_eq_false_iff_not]
    intro h
    have hm:min2 (min2 (min2 (heldF c t (k:Nat) 0) (heldF c t (k:Nat) 1)) (heldF c t (k:Nat) 2)) (heldF c t (k:Nat) 3) < 0 := of_decide_eq_true h3
    have g := h k hlt
    have g0 := g 0 (by decide); have g1 := g 1 (by decide); have g2 := g 2 (by decide); have g3 := g 3 (by decide)
    unfold min2 at hm
    split at hm <;> split at hm <;> split at hm <;> omega
   have hbad:¬ goodD c t k := fun g => by
    have hm:min2 (min2 (min2 (heldF c t (k:Nat) 0) (heldF c t (k:Nat) 1)) (heldF c t (k:Nat) 2)) (heldF c t (k:Nat) 3) < 0 := of_decide_eq_true h3
    have g0 := g 0 (by decide); have g1 := g 1 (by decide); have g2 := g 2 (by decide); have g3 := g 3 (by decide)
    unfold min2 at hm
    split at hm <;> split at hm <;> split at hm <;> omega
   rw [kEnd_bad hlt hbad hA]
   exact ⟨by rw [hfb]; rfl,_,rfl⟩
  ·have hm:¬ min2 (min2 (min2 (heldF c t (k:Nat) 0) (heldF c t (k:Nat) 1)) (heldF c t (k:Nat) 2)) (heldF c t (k:Nat) 3) < 0 := of_decide_eq_false h3
   have m1 := min2_le (min2 (min2 (heldF c t (k:Nat) 0) (heldF c t (k:Nat) 1)) (heldF c t (k:Nat) 2)) (heldF c t (k:Nat) 3)
   have m2 := min2_le (min2 (heldF c t (k:Nat) 0) (heldF c t (k:Nat) 1)) (heldF c t (k:Nat) 2)
   have m3 := min2_le (heldF c t (k:Nat) 0) (heldF c t (k:Nat) 1)
   exact hn [none] hlt (step_all hA (lt4 (p := fun i => 0 ≤ heldF c t (k:Nat) i) (by omega) (by omega) (by omega) (by omega)))
 ·have hge:k = 12 := by have := of_decide_eq_false h1; omega
  subst hge
  refine he _ _ _ (ret_tree X15_ok (doneK_ok rfl) (x93 _ _ _ _ _ _) ?_)
  simp only [holds]
  have hfb:fitsB c t = true := by
   simp only [fitsB,decide_eq_true_eq]
   exact hA
  rw [kEnd_good hA]
  exact ⟨by rw [hfb]; rfl,_,rfl⟩
def Wc:Option Blk := some (.box [.ptr 1 0 0])
def Yb:Option Blk := some (.box [.yl 7])
def Cb:Option Blk := some (.box [.fn (.func 112) [] [.ptr 6 0 0,.ptr 10 0 0,.ptr 9 0 0,.ptr 11 0 0]])
def HI (c:Cmp) (km:List (Int × Int × Int)) (b2 b3 b4 b5 b7 b8:Option Blk) (t:Tru) (rest:Heap):Heap := Wk c km (b2 :: b3 :: b4 :: b5 :: Wc :: b7 :: b8 :: Yb :: some (.box [.d (.sl false t.sold.length (enc eI t.sold)),.d (.sl false t.deliv.length (enc eI t.deliv))]) :: Cb :: rest)
def ent93At (c:Cmp) (km:List (Int × Int × Int)) (t:Tru) (rest:Heap):Ent := fun args h => some (args = [.ptr 1 0 0,Uv t] ∧ h = Wk c km rest ∧ faultM c = 0 ∧ t.sold.length = c.trades.length ∧ t.deliv.length = c.trades.length ∧ kmOk c km,vb (fitsB c t),some (Wk c (kmF c t km (kEnd c t)) rest))
theorem ent93At_ok (c:Cmp) (km:List (Int × Int × Int)) (t:Tru) (rest:Heap):EntOk Try.prog 93 (ent93At c km t rest) := by
 intro args h p v ho he hp
 cases he
 obtain ⟨rfl,rfl,h1,h2,h3,h4⟩ := hp
 exact more_W rfl rfl (a93k c t km h1 h2 h3 h4) rest
theorem q95:FunIs Try.prog 95 G95 c95 r95 := ⟨Try.f95,Try.func95,k95,e95,by kernel_rfl,by kernel_rfl⟩
theorem q111:FunIs Try.prog 111 G111 c111 r111 := ⟨Try.f111,Try.func111,k111,e111,by kernel_rfl,by kernel_rfl⟩
theorem q112:FunIs Try.prog 112 G112 c112 r112 := ⟨Try.f112,Try.func112,k112,e112,by kernel_rfl,by kernel_rfl⟩
def X112 (c:Cmp) (km:List (Int × Int × Int)) (t:Tru) (rest:Heap):Sx := { sp := spAdd 93 (ent93At c km t rest) spNil,md := fun t => bif Nat.beq t 27 then 1 else bif Nat.beq t 82 then 1 else 0,sh := shI }
theorem X112_ok (c:Cmp) (km:List (Int × Int × Int)) (t:Tru) (rest:Heap):SpOk Try.prog (X112 c km t rest).sp := spAdd_ok (ent93At_ok c km t rest) (spNil_ok _)
theorem w112 (c:Cmp) (km:List (Int × Int × Int)) (b2 b3 b4 b5 b7 b8:Option Blk) (t:Tru) (i:Nat):sx (X112 c km t (b2 :: b3 :: b4 :: b5 :: Wc :: b7 :: b8 :: Yb :: some (.box [.d (.sl false t.sold.length (enc eI t.sold)),.d (.sl false t.deliv.length (enc eI t.deliv))]) :: Cb :: [])) c112 [] (doneK r112) (envOf [vi i,.ptr 6 0 0,.ptr 10 0 0,.ptr 9 0 0,.ptr 11 0 0]) [] (HI c km b2 b3 b4 b5 b7 b8 t []) =
  let y7_ := (Cmp.trades c)
  let y3_ := (enc eT y7_)
  let y0_ := (Blk.box [V.d (D.int .i64 (Cmp.houses c)),V.d (D.sl false (List.length (Cmp.held c)) (enc eI (Cmp.held c))),V.d (D.sl false (List.length y7_) y3_),V.d (D.sl false (List.length (Cmp.divs c)) (enc eV (Cmp.divs c))),V.d (D.sl false (List.length (Cmp.splits c)) (enc eS (Cmp.splits c))),V.d (D.sl false (List.length (Cmp.closed c)) (enc eR (Cmp.closed c))),V.mp 0])
  let y5_ := (D.sl false (List.length (Tru.deliv t)) (enc eI (Tru.deliv t)))
  let y6_ := (D.sl false (List.length (Tru.sold t)) (enc eI (Tru.sold t)))
  let y1_ := (Blk.box [V.d y6_,V.d y5_])
  let y4_ := (Blk.box [V.fn (Fn.func 112) [] [V.ptr 6 0 0,V.ptr 10 0 0,V.ptr 9 0 0,V.ptr 11 0 0]])
  let y2_ := [some (Blk.map (List.map entE (kmF c t km (kEnd c t)))),some y0_,b2,b3,b4,b5,some (Blk.box [V.ptr 1 0 0]),b7,b8,some (Blk.box [V.yl 7]),some y1_,some y4_]
  let y8_ := (D.int .i64 (cI y3_ 7 (Int.ofNat i) 3))
  Tr.br (Int.ofNat i == Int.ofNat (List.length y7_)) (Tr.need ([V.ptr 1 0 0,Uv t] = [V.ptr 1 0 0,Uv t] ∧ HI c km b2 b3 b4 b5 b7 b8 t [] = Wk c km [b2,b3,b4,b5,Wc,b7,b8,Yb,some y1_,Cb] ∧ faultM c = (0:Int) ∧ List.length (Tru.sold t) = List.length y7_ ∧ List.length (Tru.deliv t) = List.length y7_ ∧ kmOk c km) (Tr.br (!fitsB c t) (Tr.done (V.d (D.bool true)) y2_) (Tr.clB false (V.yl 7) [Uv t] y2_ fun b h' => Tr.done (V.d (D.bool b)) h'))) (Tr.need ((0:Int) ≤ Int.ofNat i ∧ Int.ofNat i < Int.ofNat (List.length y7_) ∧ okEl [0,0,0,0,0,0,0] y3_ 7 (Int.ofNat i)) (Tr.lp (CCode.at c112 [1,1,1,1,0,1,0,0]) [Fr.blk 0,Fr.seq (CCode.at c112 [1,1,1,1,1])] [(0,V.d (D.int .i64 (Int.ofNat i))),(2,V.ptr 10 0 0),(4,V.ptr 11 0 0),(7,V.ptr 12 0 0),(8,V.d y6_),(9,V.d y5_),(10,V.d y8_)] [some (Blk.map (List.map entE km)),some y0_,b2,b3,b4,b5,some (Blk.box [V.ptr 1 0 0]),b7,b8,some (Blk.box [V.yl 7]),some y1_,some y4_,some (Blk.box [V.d (D.int .i64 (cI y3_ 7 (Int.ofNat i) 0)),V.d (D.int .i64 (cI y3_ 7 (Int.ofNat i) 1)),V.d (D.int .i64 (cI y3_ 7 (Int.ofNat i) 2)),V.d y8_,V.d (D.int .i64 (cI y3_ 7 (Int.ofNat i) 4)),V.d (D.int .i64 (cI y3_ 7 (Int.ofNat i) 5)),V.d (D.int .i64 (cI y3_ 7 (Int.ofNat i) 6))])])) := by kernel_rfl
def XY:Sx := { sp := spNil,md := fun t => bif Nat.beq t 82 then 1 else 0,sh := shI }
theorem XY_ok:SpOk Try.prog XY.sp := spNil_ok _
def Xb (x:Trd):Option Blk := some (.box [vi x.seller,vi x.buyer,vi x.shares,vi x.sold.lo,vi x.sold.hi,vi x.deliv.lo,vi x.deliv.hi])
def E112 (i:Nat) (u:Tru) (s:Int):Env := [(0,vi i),(2,.ptr 10 0 0),(4,.ptr 11 0 0),(7,.ptr 12 0 0),(8,.d (.sl false u.sold.length (enc eI u.sold))),(9,.d (.sl false u.deliv.length (enc eI u.deliv))),(10,vi s)]
theorem b112 (c:Cmp) (km:List (Int × Int × Int)) (b2 b3 b4 b5 b7 b8:Option Blk) (u t:Tru) (x:Trd) (i:Nat) (s:Int):sx XY (CCode.at c112 [1,1,1,1,0,1,0,0]) [] leafK (E112 i u s) [] (HI c km b2 b3 b4 b5 b7 b8 t [Xb x]) =
  let x1_ := (decide (s ≤ Rng.hi (Trd.sold x)))
  let x2_ := [some (Blk.map (List.map entE km)),some (Blk.box [V.d (D.int .i64 (Cmp.houses c)),V.d (D.sl false (List.length (Cmp.held c)) (enc eI (Cmp.held c))),V.d (D.sl false (List.length (Cmp.trades c)) (enc eT (Cmp.trades c))),V.d (D.sl false (List.length (Cmp.divs c)) (enc eV (Cmp.divs c))),V.d (D.sl false (List.length (Cmp.splits c)) (enc eS (Cmp.splits c))),V.d (D.sl false (List.length (Cmp.closed c)) (enc eR (Cmp.closed c))),V.mp 0]),b2,b3,b4,b5,some (Blk.box [V.ptr 1 0 0]),b7,b8,some (Blk.box [V.yl 7]),some (Blk.box [V.d (D.sl false (List.length (Tru.sold t)) (enc eI (Tru.sold t))),V.d (D.sl false (List.length (Tru.deliv t)) (enc eI (Tru.deliv t)))]),some (Blk.box [V.fn (Fn.func 112) [] [V.ptr 6 0 0,V.ptr 10 0 0,V.ptr 9 0 0,V.ptr 11 0 0]]),some (Blk.box [V.d (D.int .i64 (Trd.seller x)),V.d (D.int .i64 (Trd.buyer x)),V.d (D.int .i64 (Trd.shares x)),V.d (D.int .i64 (Rng.lo (Trd.sold x))),V.d (D.int .i64 (Rng.hi (Trd.sold x))),V.d (D.int .i64 (Rng.lo (Trd.deliv x))),V.d (D.int .i64 (Rng.hi (Trd.deliv x)))])]
  let y0_ := (9,V.d (D.sl false (List.length (Tru.deliv u)) (enc eI (Tru.deliv u))))
  let y1_ := (8,V.d (D.sl false (List.length (Tru.sold u)) (enc eI (Tru.sold u))))
  let y2_ := (0,V.d (D.int .i64 (Int.ofNat i)))
  Tr.br x1_ (Tr.lp (CCode.at c112 [1,1,1,1,0,1,0,0,1,0,0,1,0,0]) [Fr.blk 2,Fr.blk 1,Fr.seq (CCode.at c112 [1,1,1,1,0,1,0,0,1,1])] [y2_,(2,V.ptr 10 0 0),(4,V.ptr 11 0 0),(7,V.ptr 12 0 0),y1_,y0_,(10,V.d (D.int .i64 s)),(11,V.d (D.int .i64 (max2 s (Rng.lo (Trd.deliv x)))))] x2_) (Tr.leaf (CExit.exit 0) [y2_,(2,V.ptr 10 0 0),(4,V.ptr 11 0 0),(7,V.ptr 12 0 0),y1_,y0_,(10,V.d (D.int .i64 s)),(48,V.d (D.bool x1_))] x2_) := by kernel_rfl
theorem b112i (c:Cmp) (km:List (Int × Int × Int)) (b2 b3 b4 b5 b7 b8:Option Blk) (u t:Tru) (x:Trd) (i:Nat) (s d:Int):sx XY (CCode.at c112 [1,1,1,1,0,1,0,0,1,0,0,1,0,0]) [] leafK (E112 i u s ++ [(11,vi d)]) [] (HI c km b2 b3 b4 b5 b7 b8 t [Xb x]) =
  let y0_ := (Blk.box [V.d (D.int .i64 (Cmp.houses c)),V.d (D.sl false (List.length (Cmp.held c)) (enc eI (Cmp.held c))),V.d (D.sl false (List.length (Cmp.trades c)) (enc eT (Cmp.trades c))),V.d (D.sl false (List.length (Cmp.divs c)) (enc eV (Cmp.divs c))),V.d (D.sl false (List.length (Cmp.splits c)) (enc eS (Cmp.splits c))),V.d (D.sl false (List.length (Cmp.closed c)) (enc eR (Cmp.closed c))),V.mp 0])
  let y1_ := (Blk.box [V.d (D.int .i64 (Trd.seller x)),V.d (D.int .i64 (Trd.buyer x)),V.d (D.int .i64 (Trd.shares x)),V.d (D.int .i64 (Rng.lo (Trd.sold x))),V.d (D.int .i64 (Rng.hi (Trd.sold x))),V.d (D.int .i64 (Rng.lo (Trd.deliv x))),V.d (D.int .i64 (Rng.hi (Trd.deliv x)))])
  let y2_ := (Int.toNat (Int.ofNat i) - Int.toNat (0:Int))
  let y3_ := (Int.toNat (Int.ofNat i) - Int.toNat (0:Int) + 1)
  let y4_ := [V.ptr 6 0 0,V.ptr 10 0 0,V.ptr 9 0 0,V.ptr 11 0 0]
  let y5_ := (enc eI (Tru.deliv u))
  let y6_ := (enc eI (Tru.sold u))
  let y7_ := (Int.toNat (0:Int) * 1)
  let y8_ := (9,V.d (D.sl false (List.length (Tru.deliv u)) y5_))
  let y9_ := (8,V.d (D.sl false (List.length (Tru.sold u)) y6_))
  let y10_ := (decide (d ≤ Rng.hi (Trd.deliv x)))
  let y11_ := (Blk.box [V.fn (Fn.func 112) [] y4_])
  Tr.br y10_ (Tr.need (DP.P (dp (List.length y6_ = List.length (Tru.sold u) * 1 ∧ (0:Int) ≤ (0:Int) ∧ (0:Int) ≤ Int.ofNat i ∧ Int.ofNat i = Int.ofNat i ∧ Int.ofNat i ≤ Int.ofNat (List.length (Tru.sold u)) ∧ Option.isSome (some (Operand.tmp (64:Tmp))) = true))) (Tr.need (DP.P (dp (List.length [D.int .i64 s] = 1 * 1 ∧ true = true ∧ List.length (List.take (y2_ * 1) (List.drop y7_ y6_)) = y2_ * 1 ∧ Int.toNat (Int.ofNat i) - Int.toNat (0:Int) + 1 ≤ 140737488355328 ∧ y3_ * 8 ≤ 140737488355328))) (Tr.need (DP.P (dp (List.length y5_ = List.length (Tru.deliv u) * 1 ∧ (0:Int) ≤ (0:Int) ∧ (0:Int) ≤ Int.ofNat i ∧ Int.ofNat i = Int.ofNat i ∧ Int.ofNat i ≤ Int.ofNat (List.length (Tru.deliv u)) ∧ Option.isSome (some (Operand.tmp (71:Tmp))) = true))) (Tr.need (DP.P (dp (List.length [D.int .i64 d] = 1 * 1 ∧ true = true ∧ List.length (List.take (y2_ * 1) (List.drop y7_ y5_)) = y2_ * 1 ∧ Int.toNat (Int.ofNat i) - Int.toNat (0:Int) + 1 ≤ 140737488355328 ∧ y3_ * 8 ≤ 140737488355328))) (Tr.need (-9223372036854775808 ≤ Int.ofNat i + (1:Int) ∧ Int.ofNat i + (1:Int) ≤ 9223372036854775807) (Tr.clB false (V.fn (Fn.func 112) [] y4_) [V.d (D.int .i64 (Int.ofNat i + (1:Int)))] [some (Blk.map (List.map entE km)),some y0_,b2,b3,b4,b5,some (Blk.box [V.ptr 1 0 0]),b7,b8,some (Blk.box [V.yl 7]),some (Blk.box [V.d (D.sl false y3_ (List.take (y2_ * 1) (List.drop y7_ y6_) ++ [D.int .i64 s])),V.d (D.sl false y3_ (List.take (y2_ * 1) (List.drop y7_ y5_) ++ [D.int .i64 d]))]),some y11_,some y1_] fun b h' => Tr.br (!b) (Tr.leaf CExit.ret [(6,V.d (D.bool false))] h') (Tr.need (-9223372036854775808 ≤ d + (1:Int) ∧ d + (1:Int) ≤ 9223372036854775807) (Tr.leaf CExit.normal [(0,V.d (D.int .i64 (Int.ofNat i))),(2,V.ptr 10 0 0),(4,V.ptr 11 0 0),(7,V.ptr 12 0 0),y9_,y8_,(10,V.d (D.int .i64 s)),(11,V.d (D.int .i64 (d + (1:Int))))] h')))))))) (Tr.leaf (CExit.exit 2) [(0,V.d (D.int .i64 (Int.ofNat i))),(2,V.ptr 10 0 0),(4,V.ptr 11 0 0),(7,V.ptr 12 0 0),y9_,y8_,(10,V.d (D.int .i64 s)),(11,V.d (D.int .i64 d)),(60,V.d (D.bool y10_))] [some (Blk.map (List.map entE km)),some y0_,b2,b3,b4,b5,some (Blk.box [V.ptr 1 0 0]),b7,b8,some (Blk.box [V.yl 7]),some (Blk.box [V.d (D.sl false (List.length (Tru.sold t)) (enc eI (Tru.sold t))),V.d (D.sl false (List.length (Tru.deliv t)) (enc eI (Tru.deliv t)))]),some y11_,some y1_]) := by kernel_rfl
theorem x112 (i:Nat) (u v w:V) (a b d:V) (s:Int) (z:Bool) (h:Heap):sS XY (doneK r112) [Fr.blk 0,Fr.seq (CCode.at c112 [1,1,1,1,1])] (.exit 0) [(0,a),(2,b),(4,d),(7,u),(8,v),(9,w),(10,vi s),(48,vb z)] [] h =
  Tr.done (V.d (D.bool true)) h := by kernel_rfl
theorem x112i (i:Nat) (u:Tru) (s d:Int) (z:Bool) (h:Heap):sS XY leafK [Fr.blk 2,Fr.blk 1,Fr.seq (CCode.at c112 [1,1,1,1,0,1,0,0,1,1])] (.exit 2) (E112 i u s ++ [(11,vi d),(60,vb z)]) [] h =
  Tr.need (-9223372036854775808 ≤ s + (1:Int) ∧ s + (1:Int) ≤ 9223372036854775807) (Tr.leaf CExit.normal [(0,V.d (D.int .i64 (Int.ofNat i))),(2,V.ptr 10 0 0),(4,V.ptr 11 0 0),(7,V.ptr 12 0 0),(8,V.d (D.sl false (List.length (Tru.sold u)) (enc eI (Tru.sold u)))),(9,V.d (D.sl false (List.length (Tru.deliv u)) (enc eI (Tru.deliv u)))),(10,V.d (D.int .i64 (s + (1:Int))))] h) := by kernel_rfl
theorem t112 (b:Bool) (h:Heap):sS XY (doneK r112) [Fr.blk 0,Fr.seq (CCode.at c112 [1,1,1,1,1])] .ret [(6,vb b)] [] h =
  Tr.done (V.d (D.bool b)) h := by kernel_rfl
end
end Go.Proofs.Ytdnefcjbcieecaa
namespace Go.Proofs.Ytdnefcjbcieecaa
open Go Go.Proofs
noncomputable section
def Tru.snoc (t:Tru) (s d:Int):Tru := ⟨t.sold ++ [s],t.deliv ++ [d]⟩
def upto (a b:Int):List Int := (List.range (b + 1 - a).toNat).map fun k => a + (k:Nat)
theorem upto_nil {a b:Int} (h:¬ a ≤ b):upto a b = [] := by
 have:(b + 1 - a).toNat = 0 := by omega
 simp [upto,this]
theorem upto_cons {a b:Int} (h:a ≤ b):upto a b = a :: upto (a + 1) b := by
 have e:(b + 1 - a).toNat = (b + 1 - (a + 1)).toNat + 1 := by omega
 unfold upto
 rw [e,List.range_succ_eq_map,List.map_cons,List.map_map]
 congr 1
 ·simp
 ·refine List.map_congr_left fun k _ => ?_
  show a + ((k + 1:Nat):Int) = a + 1 + (k:Nat)
  omega
def comp (c:Cmp):List Trd → Tru → List Tru
 | [],t => [t]
 | x :: xs,t => (upto x.sold.lo x.sold.hi).flatMap fun s => (upto (max2 s x.deliv.lo) x.deliv.hi).flatMap fun d => comp c xs (t.snoc s d)
section
variable {S:Type} (step:Tru → S → Bool × S)
def runY:List Tru → S → Bool × S
 | [],s => (true,s)
 | t :: l,s => if (step t s).1 = true then runY l (step t s).2 else (false,(step t s).2)
theorem runY_append (a b:List Tru) (s:S):runY step (a ++ b) s = if (runY step a s).1 = true then runY step b (runY step a s).2 else (false,(runY step a s).2) := by
 induction a generalizing s with
 | nil => simp [runY]
 | cons t a ih =>
  simp only [List.cons_append,runY]
  split
  ·exact ih _
  ·simp
end
theorem snoc_lat {l:List Int} {x:Int} {k:Nat} (h:k < l.length):lat (l ++ [x]) (k:Nat) = lat l (k:Nat) := by
 have h2:k < (l ++ [x]).length := by simp; omega
 simp [lat,List.getD,h,List.getElem?_append_left]
theorem snoc_last {l:List Int} {x:Int} {k:Nat} (h:k = l.length):lat (l ++ [x]) (k:Nat) = x := by
 subst h
 simp [lat,List.getD]
theorem datK_snoc {c:Cmp} {t:Tru} {s d:Int} {i:Nat} (hs:t.sold.length = i) (hd:t.deliv.length = i) (h:∀ k,k < i → datK c t k = true) (h1:(lat c.trades (i:Nat)).sold.has s = true) (h2:(lat c.trades (i:Nat)).deliv.has d = true) (h3:s ≤ d) :
  ∀ k,k < i + 1 → datK c (t.snoc s d) k = true := by
 intro k hk
 rcases Nat.lt_or_ge k i with g | g
 ·have := h k g
  unfold datK at this ⊢
  have e1:lat (t.snoc s d).sold (k:Nat) = lat t.sold (k:Nat) := snoc_lat (by omega)
  have e2:lat (t.snoc s d).deliv (k:Nat) = lat t.deliv (k:Nat) := snoc_lat (by omega)
  rw [e1,e2]; exact this
 ·have e:k = i := by omega
  subst e
  have e1:lat (t.snoc s d).sold (k:Nat) = s := snoc_last hs.symm
  have e2:lat (t.snoc s d).deliv (k:Nat) = d := snoc_last hd.symm
  unfold datK
  rw [e1,e2,h1,h2]
  simpa using h3
structure Cons (S:Type) where
 c:Cmp
 step:Tru → S → Bool × S
 A:Bool → S → Prop
 b2:S → Option Blk
 b3:S → Option Blk
 b4:S → Option Blk
 b5:S → Option Blk
 b7:S → Option Blk
 b8:S → Option Blk
 kmY:Tru → List (Int × Int × Int) → List (Int × Int × Int)
def Cons.H {S:Type} (K:Cons S) (km:List (Int × Int × Int)) (s:S) (t:Tru) (rest:Heap):Heap := HI K.c km (K.b2 s) (K.b3 s) (K.b4 s) (K.b5 s) (K.b7 s) (K.b8 s) t rest
def Cons.P {S:Type} (K:Cons S) (r:Bool × List (Int × Int × Int) × S) (v:V) (h:Heap):Prop := v = vb r.1 ∧ K.A r.1 r.2.2 ∧ kmOk K.c r.2.1 ∧ ∃ t J,h = K.H r.2.1 r.2.2 t J
def Cons.stepZ {S:Type} (K:Cons S) (t:Tru) (s:List (Int × Int × Int) × S):Bool × List (Int × Int × Int) × S :=
 if fitsB K.c t = true then ((K.step t s.2).1,K.kmY t (kmF K.c t s.1 (kEnd K.c t)),(K.step t s.2).2) else (true,kmF K.c t s.1 (kEnd K.c t),s.2)
structure Cons.Ok {S:Type} (K:Cons S):Prop where
 fault:faultM K.c = 0
 bel:∀ b s,K.A b s → [K.b2 s,K.b3 s,K.b4 s,K.b5 s,K.b7 s,K.b8 s].all (blkBel 12) = true
 yl:∀ t s km,K.A true s → kmOk K.c km → datedB K.c t = true → fitsB K.c t = true → AYield Try.prog 7 [Uv t] (K.H km s t []) (K.P ((K.step t s).1,K.kmY t km,(K.step t s).2))
theorem mono0 {n m:Nat} (h:n ≤ m) {v:V} (hv:bel0 n v = true):bel0 m v = true := by
 cases v <;> simp_all [bel0] <;> omega
theorem monoA {n m:Nat} (h:n ≤ m) {v:V} (hv:belA n v = true):belA m v = true := by
 cases v <;> simp only [belA,List.all_eq_true] at hv ⊢ <;> first
  | exact fun x hx => mono0 h (hv x hx)
  | exact mono0 h hv
theorem mono1 {n m:Nat} (h:n ≤ m) {v:V} (hv:bel1 n v = true):bel1 m v = true := by
 cases v <;> simp only [bel1,List.all_eq_true] at hv ⊢ <;> first
  | exact fun x hx => mono0 h (hv x hx)
  | exact mono0 h hv
  | (simp only [Bool.and_eq_true,List.all_eq_true] at hv ⊢; exact ⟨fun x hx => monoA h (hv.1 x hx),fun x hx => monoA h (hv.2 x hx)⟩)
theorem mono2 {n m:Nat} (h:n ≤ m) {v:V} (hv:bel2 n v = true):bel2 m v = true := by
 cases v <;> simp only [bel2,List.all_eq_true] at hv ⊢ <;> first
  | exact fun x hx => mono1 h (hv x hx)
  | exact mono1 h hv
theorem blk_mono {n m:Nat} (h:n ≤ m) {b:Option Blk} (hv:blkBel n b = true):blkBel m b = true := by
 cases b with
 | none => rfl
 | some b => cases b <;> simp only [blkBel,List.all_eq_true] at hv ⊢ <;> first
  | exact fun x hx => mono1 h (hv x hx)
  | exact fun x hx => mono2 h (hv x hx)
  | (intro x hx; have := hv x hx; simp only [Bool.and_eq_true] at this ⊢; exact ⟨mono1 h this.1,mono1 h this.2⟩)
section
variable {S:Type} {K:Cons S} (hK:K.Ok)
include hK
theorem Cons.H_bel {b:Bool} {s:S} (hA:K.A b s) (km:List (Int × Int × Int)) (t:Tru) {n:Nat} (rest:Heap) (hn:12 ≤ n) (hr:rest.all (blkBel n) = true):(K.H km s t rest).all (blkBel n) = true := by
 have hb := hK.bel b s hA
 simp only [List.all_cons,List.all_nil,Bool.and_true,Bool.and_eq_true] at hb
 obtain ⟨h2,h3,h4,h5,h7,h8⟩ := hb
 refine Wk_belr _ _ _ n (by omega) ?_
 have e:∀ k,k < 12 → Nat.blt k n = true := fun k hk => by rw [Nat.blt_eq]; omega
 simp only [List.all_cons,blk_mono hn h2,blk_mono hn h3,blk_mono hn h4,blk_mono hn h5,blk_mono hn h7,blk_mono hn h8,hr,Bool.and_true,Bool.true_and]
 simp [Wc,Yb,Cb,blkBel,bel1,belA,bel0,e]
theorem Cons.more {km:List (Int × Int × Int)} {s:S} {t:Tru} {args:List V} {r:Bool × List (Int × Int × Int) × S} (hA:K.A true s) (ha:args.all (bel2 12) = true) (hc:ACalls Try.prog 112 args (K.H km s t []) (K.P r)) (rest:Heap) :
  ACalls Try.prog 112 args (K.H km s t rest) fun v h => v = vb r.1 ∧ K.A r.1 r.2.2 ∧ kmOk K.c r.2.1 ∧ ∃ t,h = K.H r.2.1 r.2.2 t rest := by
 have h2 := ACalls.more (h0 := K.H km s t []) (R := fun v k => v = vb r.1 ∧ K.A r.1 r.2.2 ∧ kmOk K.c r.2.1 ∧ ∃ t,k = K.H r.2.1 r.2.2 t []) ha (Cons.H_bel hK hA km t [] (Nat.le_refl _) rfl) (hc.mono fun v h1 hh => by
  obtain ⟨rfl,hA',hkm,t',J,rfl⟩ := hh
  have e:(K.H r.2.1 r.2.2 t' J).take (K.H km s t []).length = K.H r.2.1 r.2.2 t' [] := rfl
  rw [e]
  exact ⟨rfl,Cons.H_bel hK hA' _ t' [] (Nat.le_refl _) rfl,rfl,hA',hkm,t',rfl⟩) rest
 refine h2.mono fun v h1 hh => ?_
 obtain ⟨k,_,⟨e1,hA',hkm,t',e2⟩,e3⟩ := hh
 refine ⟨e1,hA',hkm,t', ?_⟩
 rw [e3,e2]; rfl
theorem a112:∀ (k i:Nat) (t:Tru) (s:S) (km:List (Int × Int × Int)),i + k = K.c.trades.length → t.sold.length = i → t.deliv.length = i → (∀ j,j < i → datK K.c t j = true) → K.A true s → kmOk K.c km →
  ACalls Try.prog 112 [vi i,.ptr 6 0 0,.ptr 10 0 0,.ptr 9 0 0,.ptr 11 0 0] (K.H km s t []) (K.P (runY K.stepZ (comp K.c (K.c.trades.drop i) t) (km,s))) := by
 have hf := hK.fault
 have hbs := (fault_ok hf).1
 intro k
 induction k with
 | zero =>
  intro i t s km hi hs hd hdat hA hkm
  refine q112.calls (X112_ok K.c km t (K.b2 s :: K.b3 s :: K.b4 s :: K.b5 s :: Wc :: K.b7 s :: K.b8 s :: Yb :: some (.box [.d (.sl false t.sold.length (enc eI t.sold)),.d (.sl false t.deliv.length (enc eI t.deliv))]) :: Cb :: [])) rfl (w112 K.c km _ _ _ _ _ _ t i) ?_
  simp only [holds,Int.ofNat_eq_natCast]
  have hdr:K.c.trades.drop i = [] := List.drop_eq_nil_of_le (by omega)
  rw [hdr]
  simp only [comp]
  refine ⟨fun _ => ⟨⟨trivial,rfl,hf,by omega,by omega,hkm⟩,fun h => ?_,fun h => ?_⟩,fun h => ?_⟩
  ·have h:fitsB K.c t = false := by simpa using h
   have ez:runY K.stepZ [t] (km,s) = (true,kmF K.c t km (kEnd K.c t),s) := by simp [runY,Cons.stepZ,h]
   rw [ez]
   exact ⟨rfl,hA,kmF_ok hkm t _,t,[],rfl⟩
  ·have h:fitsB K.c t = true := by simpa using h
   have ez:runY K.stepZ [t] (km,s) = ((K.step t s).1,K.kmY t (kmF K.c t km (kEnd K.c t)),(K.step t s).2) := by
    simp only [runY,Cons.stepZ,h,if_true]
    cases hb:(K.step t s).1 <;> simp
   rw [ez]
   have hy := hK.yl t s (kmF K.c t km (kEnd K.c t)) hA (kmF_ok hkm t _) (decide_eq_true ⟨by omega,by omega,fun j hj => hdat j (by omega)⟩) h
   refine callV_holds (K := K.P ((K.step t s).1,K.kmY t (kmF K.c t km (kEnd K.c t)),(K.step t s).2)) ?_ hy
   rintro v h' ⟨rfl,hh⟩
   exact ⟨(K.step t s).1,rfl,fun e => (by cases e),rfl,hh⟩
  ·have:(i:Int) ≠ K.c.trades.length := by simpa using h
   omega
 | succ k ih =>
  intro i t s km hi hs hd hdat hA hkm
  have hlt:i < K.c.trades.length := by omega
  have htr := trade_in hf hlt
  have hdr:K.c.trades.drop i = lat K.c.trades (i:Nat) :: K.c.trades.drop (i + 1) := by
   rw [List.drop_eq_getElem_cons hlt]
   congr 1
   simp [lat,List.getD,hlt]
  generalize hx:lat K.c.trades (i:Nat) = x at *
  have hb1:0 ≤ x.sold.lo ∧ x.sold.hi ≤ 11 ∧ 0 ≤ x.deliv.lo ∧ x.deliv.hi ≤ 11 := by
   simp only [okTr,Bool.and_eq_true,Rng.short,Rng.days,Rng.has,inR,isDay,decide_eq_true_eq] at htr
   omega
  refine q112.calls (X112_ok K.c km t (K.b2 s :: K.b3 s :: K.b4 s :: K.b5 s :: Wc :: K.b7 s :: K.b8 s :: Yb :: some (.box [.d (.sl false t.sold.length (enc eI t.sold)),.d (.sl false t.deliv.length (enc eI t.deliv))]) :: Cb :: [])) rfl (w112 K.c km _ _ _ _ _ _ t i) ?_
  simp only [holds,Int.ofNat_eq_natCast,cI_T0,cI_T1,cI_T2,cI_T3,cI_T4,cI_T5,cI_T6,hx]
  refine ⟨fun h => ?_,fun _ => ⟨⟨by omega,by omega,ok_T (by omega)⟩, ?_⟩⟩
  ·have:(i:Int) = K.c.trades.length := by simpa using h
   omega
  rw [hdr]
  simp only [comp]
  generalize hF:(fun sd => (upto (max2 sd x.deliv.lo) x.deliv.hi).flatMap fun d => comp K.c (K.c.trades.drop (i + 1)) (t.snoc sd d)) = F
  generalize htot:runY K.stepZ ((upto x.sold.lo x.sold.hi).flatMap F) (km,s) = tot
  refine lp_state (S := Int × List (Int × Int × Int) × Tru × S) XY_ok (fun σ => (x.sold.hi + 1 - σ.1).toNat) (fun σ => x.sold.lo ≤ σ.1 ∧ kmOk K.c σ.2.1 ∧ K.A true σ.2.2.2 ∧ runY K.stepZ ((upto σ.1 x.sold.hi).flatMap F) (σ.2.1,σ.2.2.2) = tot)
   (fun σ => E112 i t σ.1) (fun σ => K.H σ.2.1 σ.2.2.2 σ.2.2.1 [Xb x]) (x.sold.lo,km,t,s) rfl rfl ⟨Int.le_refl _,hkm,hA,htot⟩ (fun σ hσ => ⟨rfl,rfl,Cons.H_bel hK hσ.2.2.1 _ _ _ (show 12 ≤ 13 by decide) rfl⟩) ?_
  rintro ⟨sd,km1,t1,s1⟩ ⟨hlo,hkm1,hA1,hr1⟩ Q' hn he hr
  simp only at hlo hkm1 hA1 hr1
  show holds _ _ _ _ _ (sx XY _ [] leafK (E112 i t sd) [] (HI K.c km1 (K.b2 s1) (K.b3 s1) (K.b4 s1) (K.b5 s1) (K.b7 s1) (K.b8 s1) t1 [Xb x]))
  rw [b112]
  simp only [holds]
  refine ⟨fun e1 => ?_,fun e1 => ?_⟩
  ·have e1 := of_decide_eq_true e1
   rw [upto_cons e1,List.flatMap_cons,runY_append] at hr1
   have hFs:F sd = (upto (max2 sd x.deliv.lo) x.deliv.hi).flatMap fun d => comp K.c (K.c.trades.drop (i + 1)) (t.snoc sd d) := by rw [← hF]
   rw [hFs] at hr1
   generalize htin:runY K.stepZ ((upto (max2 sd x.deliv.lo) x.deliv.hi).flatMap fun d => comp K.c (K.c.trades.drop (i + 1)) (t.snoc sd d)) (km1,s1) = tin at hr1
   refine lp_state (S := Int × List (Int × Int × Int) × Tru × S) XY_ok (fun σ => (x.deliv.hi + 1 - σ.1).toNat) (fun σ => max2 sd x.deliv.lo ≤ σ.1 ∧ kmOk K.c σ.2.1 ∧ K.A true σ.2.2.2 ∧ runY K.stepZ ((upto σ.1 x.deliv.hi).flatMap fun d => comp K.c (K.c.trades.drop (i + 1)) (t.snoc sd d)) (σ.2.1,σ.2.2.2) = tin)
    (fun σ => E112 i t sd ++ [(11,vi σ.1)]) (fun σ => K.H σ.2.1 σ.2.2.2 σ.2.2.1 [Xb x]) (max2 sd x.deliv.lo,km1,t1,s1) rfl rfl ⟨Int.le_refl _,hkm1,hA1,htin⟩ (fun σ hσ => ⟨rfl,rfl,Cons.H_bel hK hσ.2.2.1 _ _ _ (show 12 ≤ 13 by decide) rfl⟩) ?_
   rintro ⟨d,km2,t2,s2⟩ ⟨hlo2,hkm2,hA2,hr2⟩ Q'' hn2 he2 hrr2
   simp only at hlo2 hkm2 hA2 hr2
   show holds _ _ _ _ _ (sx XY _ [] leafK (E112 i t sd ++ [(11,vi d)]) [] (HI K.c km2 (K.b2 s2) (K.b3 s2) (K.b4 s2) (K.b5 s2) (K.b7 s2) (K.b8 s2) t2 [Xb x]))
   rw [b112i]
   simp only [holds]
   have hmx:sd ≤ max2 sd x.deliv.lo ∧ x.deliv.lo ≤ max2 sd x.deliv.lo := by unfold max2; split <;> omega
   refine ⟨fun e2 => ?_,fun e2 => ?_⟩
   ·have e2 := of_decide_eq_true e2
    rw [upto_cons e2,List.flatMap_cons,runY_append] at hr2
    have l1:(enc eI t.sold).take i = enc eI t.sold := List.take_of_length_le (by simp; omega)
    have l2:(enc eI t.deliv).take i = enc eI t.deliv := List.take_of_length_le (by simp; omega)
    have hsn:(t.snoc sd d).sold.length = i + 1 ∧ (t.snoc sd d).deliv.length = i + 1 := by simp [Tru.snoc,hs,hd]
    have hc := ih (i + 1) (t.snoc sd d) s2 km2 (by omega) hsn.1 hsn.2 (datK_snoc hs hd hdat (by rw [hx]; simp [Rng.has,inR]; omega) (by rw [hx]; simp [Rng.has,inR]; omega) (by omega)) hA2 hkm2
    have hc2 := Cons.more hK hA2 rfl hc [Xb x]
    generalize hrr:runY K.stepZ (comp K.c (K.c.trades.drop (i + 1)) (t.snoc sd d)) (km2,s2) = r at hc2 hr2
    simp only [dp,Int.ofNat_eq_natCast,Int.toNat_natCast,Int.toNat_zero,Nat.sub_zero,Nat.zero_mul,List.drop_zero,Nat.mul_one,l1,l2,len_I,hs,hd,true_and,Int.le_refl,Option.isSome_some,List.length_cons,List.length_nil,Nat.zero_add,and_true]
    have q1:enc eI (t.snoc sd d).sold = enc eI t.sold ++ [D.int .i64 sd] := by simp only [Tru.snoc,enc_append,enc_one]; rfl
    have q2:enc eI (t.snoc sd d).deliv = enc eI t.deliv ++ [D.int .i64 d] := by simp only [Tru.snoc,enc_append,enc_one]; rfl
    have eH:K.H km2 s2 (t.snoc sd d) [Xb x] = Wk K.c km2 (K.b2 s2 :: K.b3 s2 :: K.b4 s2 :: K.b5 s2 :: Wc :: K.b7 s2 :: K.b8 s2 :: Yb :: some (.box [.d (.sl false (i + 1) (enc eI t.sold ++ [D.int .i64 sd])),.d (.sl false (i + 1) (enc eI t.deliv ++ [D.int .i64 d]))]) :: Cb :: [Xb x]) := by
     simp only [Cons.H,HI,hsn.1,hsn.2,q1,q2]
    rw [eH] at hc2
    have e3:((i + 1:Nat):Int) = (i:Int) + 1 := by omega
    rw [e3] at hc2
    refine ⟨by omega,⟨by omega,by omega⟩,by omega,⟨by omega,by omega⟩,⟨by omega,by omega⟩, ?_⟩
    refine callV_holds (K := fun v h => v = vb r.1 ∧ K.A r.1 r.2.2 ∧ kmOk K.c r.2.1 ∧ ∃ t,h = K.H r.2.1 r.2.2 t [Xb x]) ?_ hc2
    rintro v h' ⟨rfl,hA',hkm',t',rfl⟩
    refine ⟨r.1,rfl,fun e => (by cases e),fun hb => ?_,fun hb => ⟨⟨by omega,by omega⟩, ?_⟩⟩
    ·have hb:r.1 = false := by simpa using hb
     refine hrr2 _ _ (retS_ret (hr _ _ (ret_tree XY_ok (doneK_ok rfl) (t112 false _) ?_)))
     simp only [holds]
     rw [hb] at hr2
     have htn:tin = (false,r.2) := by rw [← hr2]; simp
     rw [htn] at hr1
     have htt:tot = (false,r.2) := by rw [← hr1]; simp
     rw [htt]
     rw [hb] at hA'
     exact ⟨rfl,hA',hkm',t',[Xb x],rfl⟩
    ·have hb:r.1 = true := by simpa using hb
     rw [hb] at hr2 hA'
     have := hn2 (d + 1,r.2.1,t',r.2.2) [] ⟨by simp only; omega,hkm',hA',by simpa using hr2⟩ (by simp only; omega)
     simp only [E112,hs,hd] at this
     exact this
   ·have e2 := of_decide_eq_false e2
    rw [upto_nil e2] at hr2
    refine he2 _ _ _ (ret_tree (R := fun _ _ => True) XY_ok leafK_ok (x112i i t sd d _ _) ?_)
    simp only [holds]
    refine ⟨⟨by omega,by omega⟩,hn (sd + 1,km2,t2,s2) [] ⟨by simp only; omega,hkm2,hA2, ?_⟩ (by simp only; omega)⟩
    have:tin = (true,km2,s2) := by rw [← hr2]; rfl
    rw [this] at hr1
    simpa using hr1
  ·have e1 := of_decide_eq_false e1
   rw [upto_nil e1] at hr1
   refine he _ _ _ (ret_tree XY_ok (doneK_ok rfl) (x112 i _ _ _ _ _ _ _ _ _) ?_)
   simp only [holds]
   have:tot = (true,km1,s1) := by rw [← hr1]; rfl
   rw [this]
   exact ⟨rfl,hA1,hkm1,t1,[Xb x],rfl⟩
end
end
end Go.Proofs.Ytdnefcjbcieecaa
namespace Go.Proofs.Ytdnefcjbcieecaa
open Go Go.Proofs
def G41:Cfg := ⟨[222,216,209,206,203,119,88,61,8,20,23,24,16,6,7],[(0,[0,1,2,6,7]),(1,[0,1,2,6,7,8]),(2,[0,1,2,6,7,8,9]),(3,[0,1,2,6,7,8,9,10]),(4,[0,1,2,6,7,8,9,10,34]),(6,[0,1,2,6,7,8,9,10,11]),(7,[0,1,2,6,7,8,9,10,11]),(8,[0,1,2,6,7,8,9,10,11,47]),(9,[0,1,2,6,7,8,9,10]),(5,[0,1,2,6,7,8,9,10]),(10,[0,1,2,6,7,8,12]),(11,[0,1,2,6,7,8,12,68]),(13,[0,1,2,6,7,8,12,13]),(14,[0,1,2,6,7,8,12]),(12,[0,1,2,6,7,8,12]),(15,[0,1,2,6,7,8,14]),(16,[0,1,2,6,7,8,14,96]),(18,[0,1,2,6,7,8,14,15]),(19,[0,1,2,6,7,8,14]),(17,[0,1,2,6,7,8,14]),(20,[0,1,2,6,7,8,16]),(21,[0,1,2,6,7,8,16,17]),(22,[0,1,2,6,7,8,16,17,130]),(24,[0,1,2,6,7,8,16,17,18,19]),(25,[0,1,2,6,7,8,16,17,18,19,20]),(26,[0,1,2,6,7,8,16,17,19,20]),(27,[0,1,2,6,7,8,16,17,19,20,21]),(28,[0,1,2,6,7,8,16,17,19,20,21,22]),(29,[0,1,2,6,7,8,16,17,19,20,21,22]),(30,[0,1,2,6,7,8,16,17,20,21,22]),(31,[0,1,2,6,7,8,16,17,20,21,22,23]),(32,[0,1,2,6,7,8,16,17,21,22,23]),(33,[0,1,2,6,7,8,16,17,23,24]),(34,[0,1,2,6,7,8,16,17,23,24,226]),(35,[0,1,2,6,7,8,16,17]),(23,[0,1,2,6,7,8,16,17]),(36,[6,7])],231,[(10,[(8,(some 4))]),(15,[(8,(some 5))]),(20,[(8,(some 3))]),(33,[(23,(some 2))]),(34,[(24,(some 0)),(24,(some 1))])]⟩
def r41:List CRes := [.cell 6 (some 6),.cell 7 (some 2)]
def c41:CCode :=
(.seq (.region [
 rs 6 (.alloc [(.d (.int .i64 0)),(.d .nils),(.d .nils),(.d .nils),(.d .nils),(.d .nils)]),
 rs 7 (.alloc [(.d .nils),(.d .nils)])] (some [0,1,2,6,7]))
(.seq (.region [
 mV 25 0,
 rs 26 (.len (.tmp 25)),
 mV 27 0,
 kL1 28 56 27,
 rs 29 (.build [(.d (.int .i64 0)),(.d .nils),(.d .nils),(.d .nils),(.d .nils),(.d .nils)] [(0,1,(.tmp 26)),(1,1,(.tmp 28))]),
 rs 8 (.alloc [(.d (.int .i64 0)),(.d .nils),(.d .nils),(.d .nils),(.d .nils),(.d .nils)]),
 rn (.store 6 (.tmp 8) (.tmp 29))] (some [0,1,2,6,7,8]))
(.seq (.region [
 ⟨(some 9),none,.simple (.move (ci (-1)))⟩] (some [0,1,2,6,7,8,9]))
(.seq (.seq (.region [
 mI 10 0] (some [0,1,2,6,7,8,9,10]))
(.block 0 (.loop (.seq (.seq (.region [
 mV 30 10,
 mV 31 1,
 ⟨(some 32),none,.call (.func 80) [(.tmp 31),(ci 0)]⟩,
 rs 33 (.bin .rem (.tmp 32) (ci 3)),
 rs 34 (.bin .lss (.tmp 30) (.tmp 33))] (some [0,1,2,6,7,8,9,10,34])) (.cond (.tmp 34) .skip (.exit 0))) (.seq (.block 1 (.seq (.region [
 mV 37 1,
 mV 38 10,
 rs 39 (.bin .add (.tmp 38) (ci 1)),
 kL2 40 80 37 39,
 mV 11 40] (some [0,1,2,6,7,8,9,10,11])) (.seq (.region [
 mV 41 9,
 mV 42 11,
 rs 43 (.bin .rem (.tmp 42) (ci 6)),
 rs 44 (.bin .add (ci 1) (.tmp 43)),
 rs 45 (.bin .add (.tmp 41) (.tmp 44)),
 mV 9 45] (some [0,1,2,6,7,8,9,10,11])) (.seq (.region [
 mV 46 9,
 rs 47 (.bin .leq (.tmp 46) (ci 11))] (some [0,1,2,6,7,8,9,10,11,47])) (.cond (.tmp 47) (.region [
 fA 48 4 8,
 lD 49 48,
 mV 50 9,
 mV 51 11,
 rs 52 (.bin .quo (.tmp 51) (ci 8)),
 rs 53 (.bin .rem (.tmp 52) (ci 6)),
 rs 54 (.bin .add (ci 1) (.tmp 53)),
 mV 55 11,
 rs 56 (.bin .quo (.tmp 55) (ci 64)),
 rs 57 (.bin .rem (.tmp 56) (ci 4)),
 rs 58 (.bin .add (ci 1) (.tmp 57)),
 rs 59 (.build [(.d (.int .i64 0)),(.d (.int .i64 0)),(.d (.int .i64 0))] [(0,1,(.tmp 50)),(1,1,(.tmp 54)),(2,1,(.tmp 58))]),
 rs 60 (.bslice false 79 3 1 [(.int .i64 0),(.int .i64 0),(.int .i64 0)] [(0,(.tmp 59))]),
 ⟨(some 61),none,.app 79 3 24 (.tmp 49) (.tmp 60)⟩,
 fA 62 4 8,
 rn (.store 1 (.tmp 62) (.tmp 61))] (some [0,1,2,6,7,8,9,10]))
 .skip))))) (.region [
 mV 35 10,
 rs 36 (.bin .add (.tmp 35) (ci 1)),
 mV 10 36] (some [0,1,2,6,7,8,9,10])))))))
(.seq (.seq (.seq (.frz (8,(some 4)))
(.region [
 mI 12 0] (some [0,1,2,6,7,8,12])))
(.block 2 (.loop (.seq (.seq (.region [
 mV 63 12,
 mV 64 1,
 ⟨(some 65),none,.call (.func 80) [(.tmp 64),(ci 0)]⟩,
 rs 66 (.bin .quo (.tmp 65) (ci 4)),
 rs 67 (.bin .rem (.tmp 66) (ci 3)),
 rs 68 (.bin .lss (.tmp 63) (.tmp 67))] (some [0,1,2,6,7,8,12,68])) (.cond (.tmp 68) .skip (.exit 2))) (.seq (.block 3 (.seq (.region [
 mV 71 1,
 mV 72 12,
 rs 73 (.bin .add (.tmp 72) (ci 3)),
 kL2 74 80 71 73,
 mV 13 74] (some [0,1,2,6,7,8,12,13])) (.region [
 fA 75 5 8,
 lD 76 75,
 mV 77 13,
 rs 78 (.bin .rem (.tmp 77) (ci 10)),
 mV 79 13,
 rs 80 (.bin .rem (.tmp 79) (ci 10)),
 mV 81 13,
 rs 82 (.bin .quo (.tmp 81) (ci 16)),
 rs 83 (.bin .rem (.tmp 82) (ci 4)),
 rs 84 (.bin .add (.tmp 80) (.tmp 83)),
 rs 85 (.min [(ci 11),(.tmp 84)]),
 rs 86 (.build [(.d (.int .i64 0)),(.d (.int .i64 0))] [(0,1,(.tmp 78)),(1,1,(.tmp 85))]),
 rs 87 (.bslice false 73 2 1 [(.int .i64 0),(.int .i64 0)] [(0,(.tmp 86))]),
 ⟨(some 88),none,.app 73 2 16 (.tmp 76) (.tmp 87)⟩,
 fA 89 5 8,
 rn (.store 1 (.tmp 89) (.tmp 88))] (some [0,1,2,6,7,8,12])))) (.region [
 mV 69 12,
 rs 70 (.bin .add (.tmp 69) (ci 1)),
 mV 12 70] (some [0,1,2,6,7,8,12])))))))
(.seq (.seq (.seq (.frz (8,(some 5)))
(.region [
 mI 14 0] (some [0,1,2,6,7,8,14])))
(.block 4 (.loop (.seq (.seq (.region [
 mV 90 14,
 mV 91 1,
 ⟨(some 92),none,.call (.func 80) [(.tmp 91),(ci 0)]⟩,
 rs 93 (.bin .quo (.tmp 92) (ci 16)),
 rs 94 (.bin .rem (.tmp 93) (ci 3)),
 rs 95 (.bin .add (ci 1) (.tmp 94)),
 rs 96 (.bin .lss (.tmp 90) (.tmp 95))] (some [0,1,2,6,7,8,14,96])) (.cond (.tmp 96) .skip (.exit 4))) (.seq (.block 5 (.seq (.region [
 mV 99 1,
 mV 100 14,
 rs 101 (.bin .add (.tmp 100) (ci 5)),
 kL2 102 80 99 101,
 mV 15 102] (some [0,1,2,6,7,8,14,15])) (.region [
 fA 103 3 8,
 lD 104 103,
 mV 105 15,
 rs 106 (.bin .rem (.tmp 105) (ci 12)),
 mV 107 15,
 rs 108 (.bin .rem (.tmp 107) (ci 12)),
 mV 109 15,
 rs 110 (.bin .quo (.tmp 109) (ci 16)),
 rs 111 (.bin .rem (.tmp 110) (ci 5)),
 rs 112 (.bin .add (.tmp 108) (.tmp 111)),
 rs 113 (.min [(ci 11),(.tmp 112)]),
 mV 114 15,
 rs 115 (.bin .quo (.tmp 114) (ci 128)),
 rs 116 (.bin .rem (.tmp 115) (ci 51)),
 rs 117 (.build [(.d (.int .i64 0)),(.d (.int .i64 0)),(.d (.int .i64 0))] [(0,1,(.tmp 106)),(1,1,(.tmp 113)),(2,1,(.tmp 116))]),
 rs 118 (.bslice false 52 3 1 [(.int .i64 0),(.int .i64 0),(.int .i64 0)] [(0,(.tmp 117))]),
 ⟨(some 119),none,.app 52 3 24 (.tmp 104) (.tmp 118)⟩,
 fA 120 3 8,
 rn (.store 1 (.tmp 120) (.tmp 119))] (some [0,1,2,6,7,8,14])))) (.region [
 mV 97 14,
 rs 98 (.bin .add (.tmp 97) (ci 1)),
 mV 14 98] (some [0,1,2,6,7,8,14])))))))
(.seq (.seq (.frz (8,(some 3)))
(.region [
 rs 16 (.alloc [(.d .nils),(.d .nils)])] (some [0,1,2,6,7,8,16])))
(.seq (.seq (.region [
 mI 17 0] (some [0,1,2,6,7,8,16,17]))
(.block 6 (.loop (.seq (.seq (.region [
 mV 121 17,
 mV 122 2,
 rs 123 (.conv .i64 (.tmp 122)),
 rs 124 (.bin .rem (.tmp 123) (ci 5)),
 rs 125 (.bin .lss (.tmp 121) (.tmp 124)),
 mV 126 125,
 qV 127 126 true 0,
 rg 128 126 true (.len (.tmp 127)),
 rg 129 126 true (.bin .gtr (.tmp 128) (ci 1)),
 pA 130 126 129] (some [0,1,2,6,7,8,16,17,130])) (.cond (.tmp 130) .skip (.exit 6))) (.seq (.block 7 (.seq (.region [
 mV 133 1,
 mV 134 17,
 rs 135 (.bin .mul (ci 2) (.tmp 134)),
 rs 136 (.bin .add (.tmp 135) (ci 8)),
 kL2 137 80 133 136,
 mV 138 1,
 mV 139 17,
 rs 140 (.bin .mul (ci 2) (.tmp 139)),
 rs 141 (.bin .add (.tmp 140) (ci 9)),
 kL2 142 80 138 141,
 mV 18 137,
 mV 19 142] (some [0,1,2,6,7,8,16,17,18,19])) (.seq (.region [
 mV 143 18,
 mV 144 0,
 rs 145 (.len (.tmp 144)),
 rs 146 (.bin .rem (.tmp 143) (.tmp 145)),
 mV 147 18,
 rs 148 (.bin .quo (.tmp 147) (ci 4)),
 rs 149 (.bin .rem (.tmp 148) (ci 20)),
 rs 150 (.bin .add (ci 1) (.tmp 149)),
 rs 151 (.build [(.d (.int .i64 0)),(.d (.int .i64 0)),(.d (.int .i64 0)),(.d (.int .i64 0)),(.d (.int .i64 0)),(.d (.int .i64 0)),(.d (.int .i64 0))] [(0,1,(.tmp 146)),(2,1,(.tmp 150))]),
 rs 20 (.alloc [(.d (.int .i64 0)),(.d (.int .i64 0)),(.d (.int .i64 0)),(.d (.int .i64 0)),(.d (.int .i64 0)),(.d (.int .i64 0)),(.d (.int .i64 0))]),
 rn (.store 7 (.tmp 20) (.tmp 151))] (some [0,1,2,6,7,8,16,17,18,19,20])) (.seq (.region [
 fA 152 0 20,
 lD 153 152,
 rs 154 (.bin .add (.tmp 153) (ci 1)),
 mV 155 18,
 rs 156 (.bin .quo (.tmp 155) (ci 128)),
 mV 157 0,
 rs 158 (.len (.tmp 157)),
 rs 159 (.bin .sub (.tmp 158) (ci 1)),
 rs 160 (.bin .rem (.tmp 156) (.tmp 159)),
 rs 161 (.bin .add (.tmp 154) (.tmp 160)),
 mV 162 0,
 rs 163 (.len (.tmp 162)),
 rs 164 (.bin .rem (.tmp 161) (.tmp 163)),
 fA 165 1 20,
 rn (.store 1 (.tmp 165) (.tmp 164))] (some [0,1,2,6,7,8,16,17,19,20])) (.seq (.region [
 mV 166 19,
 rs 167 (.bin .rem (.tmp 166) (ci 12)),
 mV 21 167] (some [0,1,2,6,7,8,16,17,19,20,21])) (.seq (.region [
 mV 168 21,
 mV 169 19,
 rs 170 (.bin .quo (.tmp 169) (ci 16)),
 rs 171 (.bin .rem (.tmp 170) (ci 4)),
 rs 172 (.bin .add (.tmp 168) (.tmp 171)),
 rs 173 (.min [(ci 11),(.tmp 172)]),
 mV 22 173] (some [0,1,2,6,7,8,16,17,19,20,21,22])) (.seq (.region [
 mV 174 21,
 mV 175 19,
 rs 176 (.bin .quo (.tmp 175) (ci 64)),
 rs 177 (.bin .rem (.tmp 176) (ci 2)),
 rs 178 (.bin .sub (.tmp 174) (.tmp 177)),
 rs 179 (.max [(ci 0),(.tmp 178)]),
 mV 180 21,
 mV 181 19,
 rs 182 (.bin .quo (.tmp 181) (ci 128)),
 rs 183 (.bin .rem (.tmp 182) (ci 2)),
 rs 184 (.bin .add (.tmp 180) (.tmp 183)),
 rs 185 (.min [(ci 11),(.tmp 184)]),
 rs 186 (.build [(.d (.int .i64 0)),(.d (.int .i64 0))] [(0,1,(.tmp 179)),(1,1,(.tmp 185))]),
 fA 187 3 20,
 rn (.store 2 (.tmp 187) (.tmp 186))] (some [0,1,2,6,7,8,16,17,19,20,21,22])) (.seq (.region [
 mV 188 22,
 mV 189 19,
 rs 190 (.bin .quo (.tmp 189) (ci 256)),
 rs 191 (.bin .rem (.tmp 190) (ci 2)),
 rs 192 (.bin .sub (.tmp 188) (.tmp 191)),
 rs 193 (.max [(ci 0),(.tmp 192)]),
 mV 194 22,
 mV 195 19,
 rs 196 (.bin .quo (.tmp 195) (ci 512)),
 rs 197 (.bin .rem (.tmp 196) (ci 2)),
 rs 198 (.bin .add (.tmp 194) (.tmp 197)),
 rs 199 (.min [(ci 11),(.tmp 198)]),
 rs 200 (.build [(.d (.int .i64 0)),(.d (.int .i64 0))] [(0,1,(.tmp 193)),(1,1,(.tmp 199))]),
 fA 201 5 20,
 rn (.store 2 (.tmp 201) (.tmp 200))] (some [0,1,2,6,7,8,16,17,20,21,22])) (.seq (.region [
 lS 202 6 8,
 rs 23 (.alloc [(.d (.int .i64 0)),(.d .nils),(.d .nils),(.d .nils),(.d .nils),(.d .nils)]),
 rn (.store 6 (.tmp 23) (.tmp 202))] (some [0,1,2,6,7,8,16,17,20,21,22,23])) (.seq (.seq (.region [
 fA 204 2 8,
 lD 205 204] none) (.both (.seq (.region [
 rs 203 (.bslice true 99 7 0 [] [])] none) (.both (.region [
 ⟨(some 206),none,.app 99 7 56 (.tmp 203) (.tmp 205)⟩,
 lS 207 7 20,
 rs 208 (.bslice false 99 7 1 [(.int .i64 0),(.int .i64 0),(.int .i64 0),(.int .i64 0),(.int .i64 0),(.int .i64 0),(.int .i64 0)] [(0,(.tmp 207))]),
 ⟨(some 209),none,.app 99 7 56 (.tmp 206) (.tmp 208)⟩,
 fA 210 2 23,
 rn (.store 1 (.tmp 210) (.tmp 209))] (some [0,1,2,6,7,8,16,17,21,22,23])) (.region [
 lS 207 7 20,
 rs 208 (.bslice false 99 7 1 [(.int .i64 0),(.int .i64 0),(.int .i64 0),(.int .i64 0),(.int .i64 0),(.int .i64 0),(.int .i64 0)] [(0,(.tmp 207))]),
 ⟨(some 206),none,.app 99 7 56 (.tmp 203) (.tmp 205)⟩,
 ⟨(some 209),none,.app 99 7 56 (.tmp 206) (.tmp 208)⟩,
 fA 210 2 23,
 rn (.store 1 (.tmp 210) (.tmp 209))] (some [0,1,2,6,7,8,16,17,21,22,23])))) (.region [
 lS 207 7 20,
 rs 208 (.bslice false 99 7 1 [(.int .i64 0),(.int .i64 0),(.int .i64 0),(.int .i64 0),(.int .i64 0),(.int .i64 0),(.int .i64 0)] [(0,(.tmp 207))]),
 rs 203 (.bslice true 99 7 0 [] []),
 ⟨(some 206),none,.app 99 7 56 (.tmp 203) (.tmp 205)⟩,
 ⟨(some 209),none,.app 99 7 56 (.tmp 206) (.tmp 208)⟩,
 fA 210 2 23,
 rn (.store 1 (.tmp 210) (.tmp 209))] (some [0,1,2,6,7,8,16,17,21,22,23])))) (.seq (.seq (.frz (23,(some 2))) (.seq (.region [
 fA 211 0 16,
 lD 212 211,
 mV 214 21,
 rs 215 (.bslice false 3 1 1 [(.int .i64 0)] [(0,(.tmp 214))]),
 fA 217 1 16,
 mV 220 22,
 rs 221 (.bslice false 3 1 1 [(.int .i64 0)] [(0,(.tmp 220))])] none) (.both (.seq (.region [
 ⟨(some 213),none,.callx (.func 56) [(.tmp 212)]⟩] none) (.both (.seq (.region [
 ⟨(some 216),none,.app 3 1 8 (.tmp 213) (.tmp 215)⟩,
 lD 218 217] none) (.both (.seq (.region [
 ⟨(some 219),none,.callx (.func 56) [(.tmp 218)]⟩] none) (.both (.region [
 ⟨(some 222),none,.app 3 1 8 (.tmp 219) (.tmp 221)⟩,
 rs 223 (.build [(.d .nils),(.d .nils)] [(0,1,(.tmp 216)),(1,1,(.tmp 222))]),
 rs 24 (.alloc [(.d .nils),(.d .nils)]),
 rn (.store 2 (.tmp 24) (.tmp 223))] (some [0,1,2,6,7,8,16,17,23,24])) (.region [
 rs 24 (.alloc [(.d .nils),(.d .nils)]),
 ⟨(some 222),none,.app 3 1 8 (.tmp 219) (.tmp 221)⟩,
 rs 223 (.build [(.d .nils),(.d .nils)] [(0,1,(.tmp 216)),(1,1,(.tmp 222))]),
 rn (.store 2 (.tmp 24) (.tmp 223))] (some [0,1,2,6,7,8,16,17,23,24])))) (.region [
 rs 24 (.alloc [(.d .nils),(.d .nils)]),
 ⟨(some 219),none,.callx (.func 56) [(.tmp 218)]⟩,
 ⟨(some 222),none,.app 3 1 8 (.tmp 219) (.tmp 221)⟩,
 rs 223 (.build [(.d .nils),(.d .nils)] [(0,1,(.tmp 216)),(1,1,(.tmp 222))]),
 rn (.store 2 (.tmp 24) (.tmp 223))] (some [0,1,2,6,7,8,16,17,23,24])))) (.seq (.region [
 ] none) (.both (.seq (.region [
 lD 218 217] none) (.both (.seq (.region [
 ⟨(some 216),none,.app 3 1 8 (.tmp 213) (.tmp 215)⟩] none) (.both (.seq (.region [
 ⟨(some 219),none,.callx (.func 56) [(.tmp 218)]⟩] none) (.both (.region [
 ⟨(some 222),none,.app 3 1 8 (.tmp 219) (.tmp 221)⟩,
 rs 223 (.build [(.d .nils),(.d .nils)] [(0,1,(.tmp 216)),(1,1,(.tmp 222))]),
 rs 24 (.alloc [(.d .nils),(.d .nils)]),
 rn (.store 2 (.tmp 24) (.tmp 223))] (some [0,1,2,6,7,8,16,17,23,24])) (.region [
 rs 24 (.alloc [(.d .nils),(.d .nils)]),
 ⟨(some 222),none,.app 3 1 8 (.tmp 219) (.tmp 221)⟩,
 rs 223 (.build [(.d .nils),(.d .nils)] [(0,1,(.tmp 216)),(1,1,(.tmp 222))]),
 rn (.store 2 (.tmp 24) (.tmp 223))] (some [0,1,2,6,7,8,16,17,23,24])))) (.region [
 rs 24 (.alloc [(.d .nils),(.d .nils)]),
 ⟨(some 219),none,.callx (.func 56) [(.tmp 218)]⟩,
 ⟨(some 222),none,.app 3 1 8 (.tmp 219) (.tmp 221)⟩,
 rs 223 (.build [(.d .nils),(.d .nils)] [(0,1,(.tmp 216)),(1,1,(.tmp 222))]),
 rn (.store 2 (.tmp 24) (.tmp 223))] (some [0,1,2,6,7,8,16,17,23,24])))) (.region [
 rs 24 (.alloc [(.d .nils),(.d .nils)]),
 ⟨(some 216),none,.app 3 1 8 (.tmp 213) (.tmp 215)⟩,
 ⟨(some 219),none,.callx (.func 56) [(.tmp 218)]⟩,
 ⟨(some 222),none,.app 3 1 8 (.tmp 219) (.tmp 221)⟩,
 rs 223 (.build [(.d .nils),(.d .nils)] [(0,1,(.tmp 216)),(1,1,(.tmp 222))]),
 rn (.store 2 (.tmp 24) (.tmp 223))] (some [0,1,2,6,7,8,16,17,23,24])))) (.seq (.region [
 rs 24 (.alloc [(.d .nils),(.d .nils)])] none) (.both (.region [
 ⟨(some 216),none,.app 3 1 8 (.tmp 213) (.tmp 215)⟩,
 lD 218 217,
 ⟨(some 219),none,.callx (.func 56) [(.tmp 218)]⟩,
 ⟨(some 222),none,.app 3 1 8 (.tmp 219) (.tmp 221)⟩,
 rs 223 (.build [(.d .nils),(.d .nils)] [(0,1,(.tmp 216)),(1,1,(.tmp 222))]),
 rn (.store 2 (.tmp 24) (.tmp 223))] (some [0,1,2,6,7,8,16,17,23,24])) (.region [
 lD 218 217,
 ⟨(some 216),none,.app 3 1 8 (.tmp 213) (.tmp 215)⟩,
 ⟨(some 219),none,.callx (.func 56) [(.tmp 218)]⟩,
 ⟨(some 222),none,.app 3 1 8 (.tmp 219) (.tmp 221)⟩,
 rs 223 (.build [(.d .nils),(.d .nils)] [(0,1,(.tmp 216)),(1,1,(.tmp 222))]),
 rn (.store 2 (.tmp 24) (.tmp 223))] (some [0,1,2,6,7,8,16,17,23,24])))))))) (.seq (.region [
 ] none) (.both (.seq (.region [
 lD 218 217] none) (.both (.seq (.region [
 ⟨(some 213),none,.callx (.func 56) [(.tmp 212)]⟩] none) (.both (.seq (.region [
 ⟨(some 216),none,.app 3 1 8 (.tmp 213) (.tmp 215)⟩] none) (.both (.seq (.region [
 ⟨(some 219),none,.callx (.func 56) [(.tmp 218)]⟩] none) (.both (.region [
 ⟨(some 222),none,.app 3 1 8 (.tmp 219) (.tmp 221)⟩,
 rs 223 (.build [(.d .nils),(.d .nils)] [(0,1,(.tmp 216)),(1,1,(.tmp 222))]),
 rs 24 (.alloc [(.d .nils),(.d .nils)]),
 rn (.store 2 (.tmp 24) (.tmp 223))] (some [0,1,2,6,7,8,16,17,23,24])) (.region [
 rs 24 (.alloc [(.d .nils),(.d .nils)]),
 ⟨(some 222),none,.app 3 1 8 (.tmp 219) (.tmp 221)⟩,
 rs 223 (.build [(.d .nils),(.d .nils)] [(0,1,(.tmp 216)),(1,1,(.tmp 222))]),
 rn (.store 2 (.tmp 24) (.tmp 223))] (some [0,1,2,6,7,8,16,17,23,24])))) (.region [
 rs 24 (.alloc [(.d .nils),(.d .nils)]),
 ⟨(some 219),none,.callx (.func 56) [(.tmp 218)]⟩,
 ⟨(some 222),none,.app 3 1 8 (.tmp 219) (.tmp 221)⟩,
 rs 223 (.build [(.d .nils),(.d .nils)] [(0,1,(.tmp 216)),(1,1,(.tmp 222))]),
 rn (.store 2 (.tmp 24) (.tmp 223))] (some [0,1,2,6,7,8,16,17,23,24])))) (.region [
 rs 24 (.alloc [(.d .nils),(.d .nils)]),
 ⟨(some 216),none,.app 3 1 8 (.tmp 213) (.tmp 215)⟩,
 ⟨(some 219),none,.callx (.func 56) [(.tmp 218)]⟩,
 ⟨(some 222),none,.app 3 1 8 (.tmp 219) (.tmp 221)⟩,
 rs 223 (.build [(.d .nils),(.d .nils)] [(0,1,(.tmp 216)),(1,1,(.tmp 222))]),
 rn (.store 2 (.tmp 24) (.tmp 223))] (some [0,1,2,6,7,8,16,17,23,24])))) (.region [
 rs 24 (.alloc [(.d .nils),(.d .nils)]),
 ⟨(some 213),none,.callx (.func 56) [(.tmp 212)]⟩,
 ⟨(some 216),none,.app 3 1 8 (.tmp 213) (.tmp 215)⟩,
 ⟨(some 219),none,.callx (.func 56) [(.tmp 218)]⟩,
 ⟨(some 222),none,.app 3 1 8 (.tmp 219) (.tmp 221)⟩,
 rs 223 (.build [(.d .nils),(.d .nils)] [(0,1,(.tmp 216)),(1,1,(.tmp 222))]),
 rn (.store 2 (.tmp 24) (.tmp 223))] (some [0,1,2,6,7,8,16,17,23,24])))) (.seq (.region [
 rs 24 (.alloc [(.d .nils),(.d .nils)])] none) (.both (.seq (.region [
 ⟨(some 213),none,.callx (.func 56) [(.tmp 212)]⟩] none) (.both (.region [
 ⟨(some 216),none,.app 3 1 8 (.tmp 213) (.tmp 215)⟩,
 lD 218 217,
 ⟨(some 219),none,.callx (.func 56) [(.tmp 218)]⟩,
 ⟨(some 222),none,.app 3 1 8 (.tmp 219) (.tmp 221)⟩,
 rs 223 (.build [(.d .nils),(.d .nils)] [(0,1,(.tmp 216)),(1,1,(.tmp 222))]),
 rn (.store 2 (.tmp 24) (.tmp 223))] (some [0,1,2,6,7,8,16,17,23,24])) (.region [
 lD 218 217,
 ⟨(some 216),none,.app 3 1 8 (.tmp 213) (.tmp 215)⟩,
 ⟨(some 219),none,.callx (.func 56) [(.tmp 218)]⟩,
 ⟨(some 222),none,.app 3 1 8 (.tmp 219) (.tmp 221)⟩,
 rs 223 (.build [(.d .nils),(.d .nils)] [(0,1,(.tmp 216)),(1,1,(.tmp 222))]),
 rn (.store 2 (.tmp 24) (.tmp 223))] (some [0,1,2,6,7,8,16,17,23,24])))) (.region [
 lD 218 217,
 ⟨(some 213),none,.callx (.func 56) [(.tmp 212)]⟩,
 ⟨(some 216),none,.app 3 1 8 (.tmp 213) (.tmp 215)⟩,
 ⟨(some 219),none,.callx (.func 56) [(.tmp 218)]⟩,
 ⟨(some 222),none,.app 3 1 8 (.tmp 219) (.tmp 221)⟩,
 rs 223 (.build [(.d .nils),(.d .nils)] [(0,1,(.tmp 216)),(1,1,(.tmp 222))]),
 rn (.store 2 (.tmp 24) (.tmp 223))] (some [0,1,2,6,7,8,16,17,23,24]))))))))) (.seq (.seq (.frz (24,(some 0))) (.seq (.frz (24,(some 1))) (.region [
 lS 224 6 23,
 lS 225 2 24,
 kL2 226 44 224 225] (some [0,1,2,6,7,8,16,17,23,24,226])))) (.cond (.tmp 226) (.seq (.region [
 lS 227 6 23] none) (.both (.region [
 lS 228 2 24,
 rn (.store 6 (.tmp 8) (.tmp 227)),
 rn (.store 2 (.tmp 16) (.tmp 228))] (some [0,1,2,6,7,8,16,17])) (.region [
 rn (.store 6 (.tmp 8) (.tmp 227)),
 lS 228 2 24,
 rn (.store 2 (.tmp 16) (.tmp 228))] (some [0,1,2,6,7,8,16,17]))))
 .skip))))))))))))) (.region [
 mV 131 17,
 rs 132 (.bin .add (.tmp 131) (ci 1)),
 mV 17 132] (some [0,1,2,6,7,8,16,17])))))))
(.seq (.seq (.region [
 lS 229 6 8] none)
(.both (.region [
 lS 230 2 16,
 rn (.store 6 (.tmp 6) (.tmp 229)),
 rn (.store 2 (.tmp 7) (.tmp 230))] (some [6,7])) (.region [
 rn (.store 6 (.tmp 6) (.tmp 229)),
 lS 230 2 16,
 rn (.store 2 (.tmp 7) (.tmp 230))] (some [6,7]))))
.ret)))))))))
theorem k41:Try.f41.body.bind (compC Try.prog G41) = some c41 := by kernel_rfl
theorem e41:compRes Try.prog Try.f41.results.toList = some r41 := by kernel_rfl
def G40:Cfg := ⟨[],[(0,[0]),(1,[2])],14,[]⟩
def r40:List CRes := [.tmp 2]
def c40:CCode :=
(.seq (.region [
 mB 2 false] (some [0]))
(.seq (.region [
 mV 3 0,
 rs 4 (.len (.tmp 3)),
 rs 5 (.bin .leq (.tmp 4) (ci 7)),
 mV 6 5,
 qV 7 6 true 0,
 rg 8 6 true (.len (.tmp 7)),
 qV 9 6 true 0,
 rg 10 6 true (.build [(.d (.int .i64 0)),(.d .nils),(.d .nils),(.d .nils),(.d .nils),(.d .nils)] [(0,1,(.tmp 8)),(1,1,(.tmp 9))]),
 ⟨(some 11),(some (6,true)),.call (.func 34) [(.tmp 10)]⟩,
 rg 12 6 true (.bin .eql (.tmp 11) (ci 0)),
 pA 13 6 12,
 mV 2 13] (some [2]))
.ret))
theorem k40:Try.f40.body.bind (compC Try.prog G40) = some c40 := by kernel_rfl
theorem e40:compRes Try.prog Try.f40.results.toList = some r40 := by kernel_rfl
def G80:Cfg := ⟨[],[(0,[0,1]),(1,[0,1,7]),(2,[4]),(3,[4])],16,[]⟩
def r80:List CRes := [.tmp 4]
def c80:CCode :=
(.seq (.region [
 mI 4 0] (some [0,1]))
(.seq (.seq (.region [
 mV 5 0,
 rs 6 (.len (.tmp 5)),
 rs 7 (.bin .eql (.tmp 6) (ci 0))] (some [0,1,7]))
(.cond (.tmp 7) (.seq (.region [
 mI 4 0] (some [4]))
 .ret)
 .skip))
(.seq (.region [
 mV 8 0,
 mV 9 1,
 mV 10 0,
 rs 11 (.len (.tmp 10)),
 rs 12 (.bin .rem (.tmp 9) (.tmp 11)),
 iX 13 1 8 12,
 lD 14 13,
 rs 15 (.conv .i64 (.tmp 14)),
 mV 4 15] (some [4]))
.ret)))
theorem k80:Try.f80.body.bind (compC Try.prog G80) = some c80 := by kernel_rfl
theorem e80:compRes Try.prog Try.f80.results.toList = some r80 := by kernel_rfl
def c11:CCode :=
(.seq (.region [
 mB 8 false] (some [0,1,2,3]))
(.seq (.seq (.region [
 mV 23 0,
 kL1 24 40 23,
 rs 25 (.un .not (.tmp 24))] (some [0,1,2,3,25]))
(.cond (.tmp 25) (.seq (.region [
 ⟨(some 26),none,.call (.func 18) []⟩,
 mV 8 26] (some [8]))
 .ret)
 .skip))
(.seq (.region [
 mV 28 0,
 mV 29 1,
 mV 30 2,
 kL3 31 41 28 29 30,
 mV 27 31,
 rs 32 (.extract (.tmp 27) 0),
 rs 33 (.extract (.tmp 27) 1),
 rs 9 (.alloc [(.d (.int .i64 0)),(.d .nils),(.d .nils),(.d .nils),(.d .nils),(.d .nils)]),
 rs 10 (.alloc [(.d .nils),(.d .nils)]),
 rn (.store 6 (.tmp 9) (.tmp 32)),
 rn (.store 2 (.tmp 10) (.tmp 33))] (some [3,9,10]))
(.seq (.region [
 mV 34 3,
 rs 35 (.conv .i64 (.tmp 34)),
 fA 36 3 9,
 lD 37 36,
 rs 38 (.len (.tmp 37)),
 rs 39 (.bin .rem (.tmp 35) (.tmp 38)),
 mV 11 39] (some [9,10,11]))
(.seq (.region [
 fA 40 3 9,
 lD 41 40,
 mV 42 11,
 iX 43 3 41 42,
 lS 44 3 43,
 rs 12 (.alloc [(.d (.int .i64 0)),(.d (.int .i64 0)),(.d (.int .i64 0))]),
 rn (.store 3 (.tmp 12) (.tmp 44))] (some [9,10,11,12]))
(.seq (.region [
 mB 13 true,
 mB 14 true] (some [9,10,11,12,13,14]))
(.seq (.seq (.region [
 mI 15 0] (some [9,10,11,12,13,14,15]))
(.block 0 (.loop (.seq (.seq (.region [
 mV 45 15,
 fA 46 2 9,
 lD 47 46,
 rs 48 (.len (.tmp 47)),
 rs 49 (.bin .lss (.tmp 45) (.tmp 48))] (some [9,10,11,12,13,14,15,49])) (.cond (.tmp 49) .skip (.exit 0))) (.seq (.block 1 (.seq (.region [
 mV 52 13,
 mV 53 52,
 rg 54 53 true (.load (some 6) (.tmp 9)),
 qA 55 53 true 1 10,
 qL 56 53 true 55,
 qV 57 53 true 15,
 rg 58 53 true (.indexS 1 (.tmp 56) (.tmp 57)),
 qL 59 53 true 58,
 qA 61 53 true 0 12,
 qL 62 53 true 61,
 rg 63 53 true (.bin .sub (.tmp 62) (ci 1)),
 ⟨(some 60),(some (53,true)),.callx (.func 49) [(.tmp 54),(.tmp 59)]⟩,
 ⟨(some 64),(some (53,true)),.call (.func 23) [(.tmp 60),(ci 0),(.tmp 63)]⟩,
 pA 65 53 64,
 mV 13 65] (some [9,10,11,12,13,14,15])) (.region [
 mV 66 14,
 mV 67 66,
 qA 68 67 true 0 10,
 qL 69 67 true 68,
 qV 70 67 true 15,
 rg 71 67 true (.indexS 1 (.tmp 69) (.tmp 70)),
 qL 72 67 true 71,
 qA 73 67 true 1 12,
 qL 74 67 true 73,
 rg 75 67 true (.bin .gtr (.tmp 72) (.tmp 74)),
 pA 76 67 75,
 mV 14 76] (some [9,10,11,12,13,14,15])))) (.region [
 mV 50 15,
 rs 51 (.bin .add (.tmp 50) (ci 1)),
 mV 15 51] (some [9,10,11,12,13,14,15])))))))
(.seq (.region [
 lS 78 6 9,
 lS 80 2 10,
 mV 82 11,
 ⟨(some 79),none,.callx (.func 20) [(.tmp 78)]⟩,
 ⟨(some 81),none,.callx (.func 21) [(.tmp 80)]⟩,
 kL3 83 25 79 81 82,
 mV 77 83,
 rs 84 (.extract (.tmp 77) 0),
 rs 85 (.extract (.tmp 77) 1),
 mV 16 84,
 mV 17 85] (some [9,10,11,13,14,16,17]))
(.seq (.region [
 lS 87 6 9,
 lS 89 2 10,
 mV 91 11,
 ⟨(some 88),none,.callx (.func 20) [(.tmp 87)]⟩,
 ⟨(some 90),none,.callx (.func 21) [(.tmp 89)]⟩,
 kL3 92 26 88 90 91,
 mV 86 92,
 rs 93 (.extract (.tmp 86) 0),
 rs 94 (.extract (.tmp 86) 1),
 mV 18 93,
 mV 19 94] (some [9,10,11,13,14,16,17,18,19]))
(.seq (.region [
 lS 96 6 9,
 lS 98 2 10,
 mV 100 11,
 ⟨(some 97),none,.callx (.func 20) [(.tmp 96)]⟩,
 ⟨(some 99),none,.callx (.func 21) [(.tmp 98)]⟩,
 kL3 101 27 97 99 100,
 mV 95 101,
 rs 102 (.extract (.tmp 95) 0),
 rs 103 (.extract (.tmp 95) 1),
 mV 20 102,
 mV 21 103] (some [9,13,14,16,17,18,19,20,21]))
(.seq (.seq (.region [
 mV 104 17,
 rs 105 (.bin .neq (.tmp 104) (ci 0)),
 mV 106 105,
 qV 107 106 false 19,
 rg 108 106 false (.bin .neq (.tmp 107) (ci 0)),
 pO 109 106 108,
 mV 110 109,
 qV 111 110 false 21,
 rg 112 110 false (.bin .neq (.tmp 111) (ci 0)),
 pO 113 110 112,
 mV 114 113,
 qV 115 114 false 18,
 rg 116 114 false (.len (.tmp 115)),
 qA 117 114 false 2 9,
 qL 118 114 false 117,
 rg 119 114 false (.len (.tmp 118)),
 rg 120 114 false (.bin .neq (.tmp 116) (.tmp 119)),
 pO 121 114 120] (some [13,14,16,18,20,121]))
(.cond (.tmp 121) (.seq (.region [
 mB 8 false] (some [8]))
 .ret)
 .skip))
(.seq (.seq (.region [
 mV 122 13,
 rs 123 (.un .not (.tmp 122)),
 mV 124 123,
 qV 125 124 true 14,
 rg 126 124 true (.un .not (.tmp 125)),
 pA 127 124 126] (some [16,18,20,127]))
(.cond (.tmp 127) (.seq (.region [
 ⟨(some 128),none,.call (.func 18) []⟩,
 mV 8 128] (some [8]))
 .ret)
 .skip))
(.seq (.seq (.region [
 mI 22 0] (some [16,18,20,22]))
(.block 2 (.loop (.seq (.seq (.region [
 mV 129 22,
 mV 130 18,
 rs 131 (.len (.tmp 130)),
 rs 132 (.bin .lss (.tmp 129) (.tmp 131))] (some [16,18,20,22,132])) (.cond (.tmp 132) .skip (.exit 2))) (.seq (.block 3 (.seq (.region [
 mV 135 18,
 mV 136 22,
 iX 137 1 135 136,
 lD 138 137,
 rs 139 (.bin .neq (.tmp 138) (ci 0))] (some [16,18,20,22,139])) (.cond (.tmp 139) (.seq (.region [
 mB 8 false] (some [8]))
 .ret)
 .skip))) (.region [
 mV 133 22,
 rs 134 (.bin .add (.tmp 133) (ci 1)),
 mV 22 134] (some [16,18,20,22])))))))
(.seq (.region [
 mV 140 16,
 mV 141 20,
 kL2 142 28 140 141,
 mV 143 142,
 ⟨(some 144),(some (143,true)),.call (.func 18) []⟩,
 pA 145 143 144,
 mV 8 145] (some [8]))
.ret))))))))))))))
def r8:List CRes := [.tmp 10]
theorem e8:compRes Try.prog Try.f8.results.toList = some r8 := by kernel_rfl
def r9:List CRes := [.tmp 12]
theorem e9:compRes Try.prog Try.f9.results.toList = some r9 := by kernel_rfl
end Go.Proofs.Ytdnefcjbcieecaa
namespace Go.Proofs.Ytdnefcjbcieecaa
open Go Go.Proofs
noncomputable section
theorem q80:FunIs Try.prog 80 G80 c80 r80 := ⟨Try.f80,Try.func80,k80,e80,by kernel_rfl,by kernel_rfl⟩
theorem q41:FunIs Try.prog 41 G41 c41 r41 := ⟨Try.f41,Try.func41,k41,e41,by kernel_rfl,by kernel_rfl⟩
theorem q40:FunIs Try.prog 40 G40 c40 r40 := ⟨Try.f40,Try.func40,k40,e40,by kernel_rfl,by kernel_rfl⟩
def eW (n:Int):List D := [.int .u16 n]
@[simp] theorem len_W (l:List Int):(enc eW l).length = l.length * 1 := enc_len (sz := 1) (f := eW) (fun _ => rfl) l
theorem cI_W (l:List Int) (i:Int):cI (enc eW l) 1 i 0 = lat l i := by
 unfold cI
 rw [enc_get (sz := 1) (f := eW) (fun _ => rfl) l _ 0 (by decide)]
 cases h:l[i.toNat]? with
 | none =>
  have:lat l i = 0 := by simp [lat,List.getD_eq_getElem?_getD,h]
  rw [this]; rfl
 | some x =>
  have:lat l i = x := by simp [lat,List.getD_eq_getElem?_getD,h]
  rw [this]; rfl
theorem ok_W {l:List Int} {i:Int} (h:i.toNat < l.length):okEl [2] (enc eW l) 1 i := by
 unfold okEl
 rw [elemAt_enc (sz := 1) (f := eW) (fun _ => rfl) l _ h,lat_get h]
 simp only [Option.map_some,eW,elDs,elD]
 rw [cI_W]
def wordM (ws:List Int) (k:Int):Int := if ws.length = 0 then 0 else lat ws (k.tmod ws.length)
def isWords (ws:List Int):Prop := 0 ≤ ws.length ∧ ∀ w ∈ ws,0 ≤ w ∧ w ≤ 65535
def XW:Sx := { sp := spNil,md := fun _ => 0,sh := fun _ => [2] }
theorem XW_ok:SpOk Try.prog XW.sp := spNil_ok _
theorem w80 (ws:List Int) (k:Int):sx XW c80 [] (doneK r80) (envOf [vsl eW ws,vi k]) [] [] =
  let y0_ := (List.length ws)
  let y1_ := (Int.ofNat y0_)
  Tr.br (Int.ofNat y0_ == (0:Int)) (Tr.done (V.d (D.int .i64 0)) []) (Tr.need (Int.ofNat y0_ ≠ (0:Int)) (Tr.need ((0:Int) ≤ Int.tmod k y1_ ∧ Int.tmod k y1_ < Int.ofNat y0_ ∧ okEl [2] (enc eW ws) 1 (Int.tmod k y1_)) (Tr.done (V.d (D.int .i64 (IntKind.wrap IntKind.i64 (cI (enc eW ws) 1 (Int.tmod k y1_) 0)))) []))) := by kernel_rfl
theorem wrap_i64 {n:Int} (h0 : -9223372036854775808 ≤ n) (h1:n ≤ 9223372036854775807):IntKind.wrap .i64 n = n := by
 simp only [IntKind.wrap,IntKind.signed,IntKind.bits]
 simp only [Bool.true_and]
 split
 ·rename_i h; have h := of_decide_eq_true h; omega
 ·rename_i h; have h:¬ (n % 2 ^ 64 ≥ 2 ^ (64 - 1)) := fun e => h (decide_eq_true e); omega
theorem word_in {ws:List Int} (hw:isWords ws) (k:Int) (hk:0 ≤ k):0 ≤ wordM ws k ∧ wordM ws k ≤ 65535 := by
 unfold wordM
 split
 ·omega
 ·rename_i h
  rw [Int.tmod_eq_emod_of_nonneg hk]
  have h1 := Int.emod_nonneg k (show (ws.length:Int) ≠ 0 by omega)
  have h2 := Int.emod_lt_of_pos k (show (0:Int) < ws.length by omega)
  have h3 := hw.2 _ (lat_mem (l := ws) (k := (k % ws.length).toNat) (by omega))
  have e:(((k % ws.length).toNat:Nat):Int) = k % ws.length := by omega
  rw [e] at h3
  exact h3
theorem y80 (ws:List Int) (k:Int) (hw:isWords ws) (hk:0 ≤ k):Yields Try.prog 80 [vsl eW ws,vi k] (vi (wordM ws k)) := by
 refine q80.yieldsK XW_ok rfl rfl rfl (w80 ws k) ?_
 simp only [holds,Int.ofNat_eq_natCast,cI_W]
 have hin := word_in hw k hk
 refine ⟨fun h => ?_,fun h => ?_⟩
 ·have h:ws.length = 0 := by simpa using h
  exact .of_eq (congrArg vi (by simp [wordM,h]))
 ·have h:¬ ws.length = 0 := by simpa using h
  have e:wordM ws k = lat ws (k.tmod ws.length) := by simp [wordM,h]
  rw [e] at hin
  have h1 := Int.emod_nonneg k (show (ws.length:Int) ≠ 0 by omega)
  have h2 := Int.emod_lt_of_pos k (show (0:Int) < ws.length by omega)
  rw [e,wrap_i64 (by omega) (by omega)]
  have h3:0 ≤ k.tmod ws.length ∧ k.tmod ws.length < ws.length := by rw [Int.tmod_eq_emod_of_nonneg hk]; exact ⟨h1,h2⟩
  exact ⟨by omega,⟨h3.1,h3.2,ok_W (by omega)⟩,.refl _⟩
def gW (ds:List D):Int := atI ds 0
theorem dec_W (l:List Int):dec 1 gW l.length (enc eW l) = l := dec_enc (sz := 1) (f := eW) (g := gW) (fun _ => rfl) (fun _ => rfl) l
def ent80:Ent := fun args _ => match args with
 | [.d (.sl false n cs),.d (.int .i64 k)] => some (enc eW (dec 1 gW n cs) = cs ∧ isWords (dec 1 gW n cs) ∧ 0 ≤ k,vi (wordM (dec 1 gW n cs) k),none)
 | _ => none
theorem ent80_ok:EntOk Try.prog 80 ent80 := by
 intro args h p v h' he hp
 unfold ent80 at he
 split at he
 ·cases he
  rename_i n cs k
  have e:V.d (.sl false n cs) = vsl eW (dec 1 gW n cs) := by unfold vsl dsl; rw [hp.1,dec_len]
  rw [e]; exact y80 _ _ hp.2.1 hp.2.2 h
 ·cases he
def tab27:Spec := (spAdd 80 ent80 tab20)
theorem tab27_ok:SpOk Try.prog tab27 := (spAdd_ok ent80_ok tab20_ok)
theorem w56o10 (l:List Int) (b0 b1 b2 b3 b4 b5 b6 b7 b8 b9:Option Blk):sx X10 c56 [] (doneK r56) (envOf [vsl eI l]) [] [b0,b1,b2,b3,b4,b5,b6,b7,b8,b9] =
  Tr.need (0 = 0 ∧ 3 = 3 ∧ 1 = 1 ∧ 0 = 0 * 1 ∧ List.length (enc eI l) = List.length l * 1 ∧ 0 + List.length l ≤ 140737488355328 ∧ (0 + List.length l) * 8 ≤ 140737488355328) (Tr.done (V.own 10 1 (0 + List.length l)) [b0,b1,b2,b3,b4,b5,b6,b7,b8,b9,some (Blk.row 3 1 1 ([] ++ enc eI l))]) := by kernel_rfl
theorem a56o10 (l:List Int) (b0 b1 b2 b3 b4 b5 b6 b7 b8 b9:Option Blk) (hl:l.length ≤ 1000000):ACalls Try.prog 56 [vsl eI l] [b0,b1,b2,b3,b4,b5,b6,b7,b8,b9] fun v h' => v = .own 10 1 l.length ∧ h' = [b0,b1,b2,b3,b4,b5,b6,b7,b8,b9,some (.row 3 1 1 (enc eI l))] := by
 refine q56.calls X10_ok (h := [b0,b1,b2,b3,b4,b5,b6,b7,b8,b9]) rfl (w56o10 l b0 b1 b2 b3 b4 b5 b6 b7 b8 b9) ?_
 simp only [holds,len_I,List.nil_append,Nat.zero_add]
 exact ⟨⟨trivial,trivial,trivial,by simp,trivial,by omega,by omega⟩,trivial,trivial⟩
theorem a56s10 (n:Nat) (cs:List D) (b0 b1 b2 b3 b4 b5 b6 b7 b8 b9:Option Blk) (hp:okL eI 1 gI n cs) (hl:n ≤ 1000000):ACalls Try.prog 56 [.d (.sl false n cs)] [b0,b1,b2,b3,b4,b5,b6,b7,b8,b9] fun v h' => v = .own 10 1 n ∧ h' = [b0,b1,b2,b3,b4,b5,b6,b7,b8,b9,some (.row 3 1 1 cs)] := by
 rw [okL_vsl hp]
 refine (a56o10 (dec 1 gI n cs) b0 b1 b2 b3 b4 b5 b6 b7 b8 b9 (by rw [dec_len]; exact hl)).mono ?_
 rintro v h' ⟨rfl,rfl⟩
 rw [dec_len,hp.1]
 exact ⟨rfl,rfl⟩
theorem w56o11 (l:List Int) (b0 b1 b2 b3 b4 b5 b6 b7 b8 b9 b10:Option Blk):sx X10 c56 [] (doneK r56) (envOf [vsl eI l]) [] [b0,b1,b2,b3,b4,b5,b6,b7,b8,b9,b10] =
  Tr.need (0 = 0 ∧ 3 = 3 ∧ 1 = 1 ∧ 0 = 0 * 1 ∧ List.length (enc eI l) = List.length l * 1 ∧ 0 + List.length l ≤ 140737488355328 ∧ (0 + List.length l) * 8 ≤ 140737488355328) (Tr.done (V.own 11 1 (0 + List.length l)) [b0,b1,b2,b3,b4,b5,b6,b7,b8,b9,b10,some (Blk.row 3 1 1 ([] ++ enc eI l))]) := by kernel_rfl
theorem a56o11 (l:List Int) (b0 b1 b2 b3 b4 b5 b6 b7 b8 b9 b10:Option Blk) (hl:l.length ≤ 1000000):ACalls Try.prog 56 [vsl eI l] [b0,b1,b2,b3,b4,b5,b6,b7,b8,b9,b10] fun v h' => v = .own 11 1 l.length ∧ h' = [b0,b1,b2,b3,b4,b5,b6,b7,b8,b9,b10,some (.row 3 1 1 (enc eI l))] := by
 refine q56.calls X10_ok (h := [b0,b1,b2,b3,b4,b5,b6,b7,b8,b9,b10]) rfl (w56o11 l b0 b1 b2 b3 b4 b5 b6 b7 b8 b9 b10) ?_
 simp only [holds,len_I,List.nil_append,Nat.zero_add]
 exact ⟨⟨trivial,trivial,trivial,by simp,trivial,by omega,by omega⟩,trivial,trivial⟩
theorem a56s11 (n:Nat) (cs:List D) (b0 b1 b2 b3 b4 b5 b6 b7 b8 b9 b10:Option Blk) (hp:okL eI 1 gI n cs) (hl:n ≤ 1000000):ACalls Try.prog 56 [.d (.sl false n cs)] [b0,b1,b2,b3,b4,b5,b6,b7,b8,b9,b10] fun v h' => v = .own 11 1 n ∧ h' = [b0,b1,b2,b3,b4,b5,b6,b7,b8,b9,b10,some (.row 3 1 1 cs)] := by
 rw [okL_vsl hp]
 refine (a56o11 (dec 1 gI n cs) b0 b1 b2 b3 b4 b5 b6 b7 b8 b9 b10 (by rw [dec_len]; exact hl)).mono ?_
 rintro v h' ⟨rfl,rfl⟩
 rw [dec_len,hp.1]
 exact ⟨rfl,rfl⟩
theorem w56o12 (l:List Int) (b0 b1 b2 b3 b4 b5 b6 b7 b8 b9 b10 b11:Option Blk):sx X10 c56 [] (doneK r56) (envOf [vsl eI l]) [] [b0,b1,b2,b3,b4,b5,b6,b7,b8,b9,b10,b11] =
  Tr.need (0 = 0 ∧ 3 = 3 ∧ 1 = 1 ∧ 0 = 0 * 1 ∧ List.length (enc eI l) = List.length l * 1 ∧ 0 + List.length l ≤ 140737488355328 ∧ (0 + List.length l) * 8 ≤ 140737488355328) (Tr.done (V.own 12 1 (0 + List.length l)) [b0,b1,b2,b3,b4,b5,b6,b7,b8,b9,b10,b11,some (Blk.row 3 1 1 ([] ++ enc eI l))]) := by kernel_rfl
theorem a56o12 (l:List Int) (b0 b1 b2 b3 b4 b5 b6 b7 b8 b9 b10 b11:Option Blk) (hl:l.length ≤ 1000000):ACalls Try.prog 56 [vsl eI l] [b0,b1,b2,b3,b4,b5,b6,b7,b8,b9,b10,b11] fun v h' => v = .own 12 1 l.length ∧ h' = [b0,b1,b2,b3,b4,b5,b6,b7,b8,b9,b10,b11,some (.row 3 1 1 (enc eI l))] := by
 refine q56.calls X10_ok (h := [b0,b1,b2,b3,b4,b5,b6,b7,b8,b9,b10,b11]) rfl (w56o12 l b0 b1 b2 b3 b4 b5 b6 b7 b8 b9 b10 b11) ?_
 simp only [holds,len_I,List.nil_append,Nat.zero_add]
 exact ⟨⟨trivial,trivial,trivial,by simp,trivial,by omega,by omega⟩,trivial,trivial⟩
theorem a56s12 (n:Nat) (cs:List D) (b0 b1 b2 b3 b4 b5 b6 b7 b8 b9 b10 b11:Option Blk) (hp:okL eI 1 gI n cs) (hl:n ≤ 1000000):ACalls Try.prog 56 [.d (.sl false n cs)] [b0,b1,b2,b3,b4,b5,b6,b7,b8,b9,b10,b11] fun v h' => v = .own 12 1 n ∧ h' = [b0,b1,b2,b3,b4,b5,b6,b7,b8,b9,b10,b11,some (.row 3 1 1 cs)] := by
 rw [okL_vsl hp]
 refine (a56o12 (dec 1 gI n cs) b0 b1 b2 b3 b4 b5 b6 b7 b8 b9 b10 b11 (by rw [dec_len]; exact hl)).mono ?_
 rintro v h' ⟨rfl,rfl⟩
 rw [dec_len,hp.1]
 exact ⟨rfl,rfl⟩
def ent56o:Ent := fun args h => match args with
 | [.d (.sl false n cs)] => match h with
  | [b0,b1,b2,b3,b4,b5,b6,b7,b8,b9] => some (okL eI 1 gI n cs ∧ n ≤ 1000000,.own 10 1 n,some [b0,b1,b2,b3,b4,b5,b6,b7,b8,b9,some (.row 3 1 1 cs)])
  | [b0,b1,b2,b3,b4,b5,b6,b7,b8,b9,b10] => some (okL eI 1 gI n cs ∧ n ≤ 1000000,.own 11 1 n,some [b0,b1,b2,b3,b4,b5,b6,b7,b8,b9,b10,some (.row 3 1 1 cs)])
  | [b0,b1,b2,b3,b4,b5,b6,b7,b8,b9,b10,b11] => some (okL eI 1 gI n cs ∧ n ≤ 1000000,.own 12 1 n,some [b0,b1,b2,b3,b4,b5,b6,b7,b8,b9,b10,b11,some (.row 3 1 1 cs)])
  | _ => none
 | _ => none
theorem ent56o_ok:EntOk Try.prog 56 ent56o := by
 intro args h p v h' he hp
 unfold ent56o at he
 split at he
 ·split at he
  ·cases he; exact a56s10 _ _ _ _ _ _ _ _ _ _ _ _ hp.1 hp.2
  ·cases he; exact a56s11 _ _ _ _ _ _ _ _ _ _ _ _ _ hp.1 hp.2
  ·cases he; exact a56s12 _ _ _ _ _ _ _ _ _ _ _ _ _ _ hp.1 hp.2
  ·cases he
 ·cases he
def ent56x:Ent := fun args h => match ent56o args h with
 | some x => some x
 | none => ent56 args h
theorem ent56x_ok:EntOk Try.prog 56 ent56x := by
 intro args h p v h' he hp
 unfold ent56x at he
 split at he
 ·rename_i x hx
  cases he; exact ent56o_ok _ _ _ _ _ hx hp
 ·exact ent56_ok _ _ _ _ _ he hp
def tab28:Spec := spAdd 56 ent56x tab27
theorem tab28_ok:SpOk Try.prog tab28 := spAdd_ok ent56x_ok tab27_ok
def X41:Sx := { sp := tab28,md := fun _ => 0,sh := shI,sfz := true }
theorem X41_ok:SpOk Try.prog X41.sp := tab28_ok
def Z0:Option Blk := some (.box [.d (.int .i64 0),.d .nils,.d .nils,.d .nils,.d .nils,.d .nils])
def Z1:Option Blk := some (.box [.d .nils,.d .nils])
theorem w41 (hl ws:List Int) (m:Int):sx X41 c41 [] (doneK r41) (envOf [vsl eI hl,vsl eW ws,.d (.int .u8 m)]) [] [] =
  let y0_ := (D.sl false (List.length hl) (enc eI hl))
  Tr.need (okL eI 1 gI (List.length hl) (enc eI hl) ∧ List.length hl ≤ 1000000) (Tr.lp (CCode.at c41 [1,1,1,0,1,0,0]) [Fr.blk 0,Fr.seq (CCode.at c41 [1,1,1,1])] [(0,V.d y0_),(1,V.d (D.sl false (List.length ws) (enc eW ws))),(2,V.d (D.int IntKind.u8 m)),(6,V.ptr 0 0 0),(7,V.ptr 1 0 0),(8,V.ptr 2 0 0),(9,V.d (D.int .i64 (-1:Int))),(10,V.d (D.int .i64 0))] [some (Blk.box [V.d (D.int .i64 0),V.d D.nils,V.d D.nils,V.d D.nils,V.d D.nils,V.d D.nils]),some (Blk.box [V.d D.nils,V.d D.nils]),some (Blk.box [V.d (D.int .i64 (Int.ofNat (List.length hl))),V.d y0_,V.d D.nils,V.d D.nils,V.d D.nils,V.d D.nils])]) := by kernel_rfl
def E41 (hl ws:List Int) (m:Int):Env := [(0,vsl eI hl),(1,vsl eW ws),(2,.d (.int .u8 m)),(6,.ptr 0 0 0),(7,.ptr 1 0 0),(8,.ptr 2 0 0)]
def H41a (hl:List Int) (n:Nat) (l:List D):Heap := [Z0,Z1,some (.box [vi hl.length,.d (dsl eI hl),.d .nils,.d .nils,.own 3 n n,.d .nils]),some (.row 79 3 n l)]
theorem b41a (hl ws:List Int) (m d:Int) (k n:Nat) (l:List D):sx X41 (CCode.at c41 [1,1,1,0,1,0,0]) [] leafK (E41 hl ws m ++ [(9,vi d),(10,vi k)]) [] (H41a hl n l) =
  let x1_ := (dec 1 gW (List.length ws) (enc eW ws))
  let x2_ := (decide (Int.ofNat k < Int.tmod (wordM x1_ (0:Int)) (3:Int)))
  let x3_ := (-9223372036854775808 ≤ Int.ofNat k + (1:Int) ∧ Int.ofNat k + (1:Int) ≤ 9223372036854775807)
  let x4_ := (Int.ofNat k + (1:Int))
  let y1_ := (wordM x1_ x4_)
  let x5_ := ((1:Int) + Int.tmod y1_ (6:Int))
  let x6_ := (Int.tdiv y1_ (8:Int))
  let x7_ := (Int.tdiv y1_ (64:Int))
  let x8_ := [D.int .i64 (d + x5_),D.int .i64 ((1:Int) + Int.tmod x6_ (6:Int)),D.int .i64 ((1:Int) + Int.tmod x7_ (4:Int))]
  let x9_ := (D.sl false (List.length hl) (enc eI hl))
  let x10_ := (Blk.box [V.d (D.int .i64 0),V.d D.nils,V.d D.nils,V.d D.nils,V.d D.nils,V.d D.nils])
  let x11_ := (Blk.box [V.d D.nils,V.d D.nils])
  let x12_ := (D.int .i64 (Int.ofNat (List.length hl)))
  let x13_ := [some x10_,some x11_,some (Blk.box [V.d x12_,V.d x9_,V.d D.nils,V.d D.nils,V.own 3 n n,V.d D.nils]),some (Blk.row 79 3 n l)]
  let y2_ := (1,V.d (D.sl false (List.length ws) (enc eW ws)))
  let y0_ := [(0,V.d x9_),y2_,(2,V.d (D.int IntKind.u8 m)),(6,V.ptr 0 0 0),(7,V.ptr 1 0 0),(8,V.ptr 2 0 0),(9,V.d (D.int .i64 (d + x5_))),(10,V.d (D.int .i64 x4_))]
  Tr.need (enc eW x1_ = enc eW ws ∧ isWords x1_ ∧ (0:Int) ≤ (0:Int)) (Tr.need ((3:Int) ≠ (0:Int)) (Tr.br x2_ (Tr.need x3_ (Tr.need (enc eW x1_ = enc eW ws ∧ isWords x1_ ∧ (0:Int) ≤ Int.ofNat k + (1:Int)) (Tr.need ((6:Int) ≠ (0:Int)) (Tr.need (-9223372036854775808 ≤ (1:Int) + Int.tmod y1_ (6:Int) ∧ (1:Int) + Int.tmod y1_ (6:Int) ≤ 9223372036854775807) (Tr.need (-9223372036854775808 ≤ d + x5_ ∧ d + x5_ ≤ 9223372036854775807) (Tr.br (decide (d + x5_ ≤ (11:Int))) (Tr.need ((8:Int) ≠ (0:Int)) (Tr.need (-9223372036854775808 ≤ Int.tdiv y1_ (8:Int) ∧ Int.tdiv y1_ (8:Int) ≤ 9223372036854775807) (Tr.need ((6:Int) ≠ (0:Int)) (Tr.need (-9223372036854775808 ≤ (1:Int) + Int.tmod x6_ (6:Int) ∧ (1:Int) + Int.tmod x6_ (6:Int) ≤ 9223372036854775807) (Tr.need ((64:Int) ≠ (0:Int)) (Tr.need (-9223372036854775808 ≤ Int.tdiv y1_ (64:Int) ∧ Int.tdiv y1_ (64:Int) ≤ 9223372036854775807) (Tr.need ((4:Int) ≠ (0:Int)) (Tr.need (-9223372036854775808 ≤ (1:Int) + Int.tmod x7_ (4:Int) ∧ (1:Int) + Int.tmod x7_ (4:Int) ≤ 9223372036854775807) (Tr.need (n = n ∧ 79 = 79 ∧ 3 = 3 ∧ List.length l = n * 3 ∧ List.length x8_ = 1 * 3 ∧ n + 1 ≤ 140737488355328 ∧ (n + 1) * 24 ≤ 140737488355328) (Tr.need x3_ (Tr.leaf CExit.normal y0_ [some x10_,some x11_,some (Blk.box [V.d x12_,V.d x9_,V.d D.nils,V.d D.nils,V.own 3 (Nat.add n 1) (n + 1),V.d D.nils]),some (Blk.row 79 3 (Nat.add n 1) (l ++ x8_))]))))))))))) (Tr.need x3_ (Tr.leaf CExit.normal y0_ x13_)))))))) (Tr.leaf (CExit.exit 0) [(0,V.d x9_),y2_,(2,V.d (D.int IntKind.u8 m)),(6,V.ptr 0 0 0),(7,V.ptr 1 0 0),(8,V.ptr 2 0 0),(9,V.d (D.int .i64 d)),(10,V.d (D.int .i64 (Int.ofNat k))),(34,V.d (D.bool x2_))] x13_))) := by kernel_rfl
theorem x41a (hl ws:List Int) (m:Int) (n:Nat) (u v:Int) (w:Bool) (l:List D):sS X41 (doneK r41) [Fr.blk 0,Fr.seq (CCode.at c41 [1,1,1,1])] (.exit 0) (E41 hl ws m ++ [(9,vi u),(10,vi v),(34,vb w)]) [] (H41a hl n l) =
  let y0_ := (D.sl false (List.length hl) (enc eI hl))
  Tr.need (n = n) (Tr.need (n = n) (Tr.lp (CCode.at c41 [1,1,1,1,0,1,0,0]) [Fr.blk 2,Fr.seq (CCode.at c41 [1,1,1,1,1])] [(0,V.d y0_),(1,V.d (D.sl false (List.length ws) (enc eW ws))),(2,V.d (D.int IntKind.u8 m)),(6,V.ptr 0 0 0),(7,V.ptr 1 0 0),(8,V.ptr 2 0 0),(12,V.d (D.int .i64 0))] [some (Blk.box [V.d (D.int .i64 0),V.d D.nils,V.d D.nils,V.d D.nils,V.d D.nils,V.d D.nils]),some (Blk.box [V.d D.nils,V.d D.nils]),some (Blk.box [V.d (D.int .i64 (Int.ofNat (List.length hl))),V.d y0_,V.d D.nils,V.d D.nils,V.d (D.sl false n l),V.d D.nils]),none])) := by kernel_rfl
def H41b (hl:List Int) (S:List Spl) (n:Nat) (l:List D):Heap := [Z0,Z1,some (.box [vi hl.length,.d (dsl eI hl),.d .nils,.d .nils,.d (dsl eS S),.own 4 n n]),none,some (.row 73 2 n l)]
theorem b41b (hl ws:List Int) (m:Int) (S:List Spl) (k n:Nat) (l:List D):sx X41 (CCode.at c41 [1,1,1,1,0,1,0,0]) [] leafK (E41 hl ws m ++ [(12,vi k)]) [] (H41b hl S n l) =
  let x1_ := (dec 1 gW (List.length ws) (enc eW ws))
  let y1_ := (wordM x1_ (0:Int))
  let x2_ := (decide (Int.ofNat k < Int.tmod (Int.tdiv y1_ (4:Int)) (3:Int)))
  let x3_ := ((10:Int) ≠ (0:Int))
  let x4_ := (wordM x1_ (Int.ofNat k + (3:Int)))
  let x5_ := (Int.tdiv x4_ (16:Int))
  let x6_ := [D.int .i64 (Int.tmod x4_ (10:Int)),D.int .i64 (min2 (11:Int) (Int.tmod x4_ (10:Int) + Int.tmod x5_ (4:Int)))]
  let x7_ := (D.sl false (List.length hl) (enc eI hl))
  let x8_ := (Blk.box [V.d (D.int .i64 0),V.d D.nils,V.d D.nils,V.d D.nils,V.d D.nils,V.d D.nils])
  let x9_ := (Blk.box [V.d D.nils,V.d D.nils])
  let x10_ := (D.int .i64 (Int.ofNat (List.length hl)))
  let x11_ := (D.sl false (List.length S) (enc eS S))
  let y0_ := (1,V.d (D.sl false (List.length ws) (enc eW ws)))
  Tr.need (enc eW x1_ = enc eW ws ∧ isWords x1_ ∧ (0:Int) ≤ (0:Int)) (Tr.need ((4:Int) ≠ (0:Int)) (Tr.need (-9223372036854775808 ≤ Int.tdiv y1_ (4:Int) ∧ Int.tdiv y1_ (4:Int) ≤ 9223372036854775807) (Tr.need ((3:Int) ≠ (0:Int)) (Tr.br x2_ (Tr.need (-9223372036854775808 ≤ Int.ofNat k + (3:Int) ∧ Int.ofNat k + (3:Int) ≤ 9223372036854775807) (Tr.need (enc eW x1_ = enc eW ws ∧ isWords x1_ ∧ (0:Int) ≤ Int.ofNat k + (3:Int)) (Tr.need x3_ (Tr.need x3_ (Tr.need ((16:Int) ≠ (0:Int)) (Tr.need (-9223372036854775808 ≤ Int.tdiv x4_ (16:Int) ∧ Int.tdiv x4_ (16:Int) ≤ 9223372036854775807) (Tr.need ((4:Int) ≠ (0:Int)) (Tr.need (-9223372036854775808 ≤ Int.tmod x4_ (10:Int) + Int.tmod x5_ (4:Int) ∧ Int.tmod x4_ (10:Int) + Int.tmod x5_ (4:Int) ≤ 9223372036854775807) (Tr.need (n = n ∧ 73 = 73 ∧ 2 = 2 ∧ List.length l = n * 2 ∧ List.length x6_ = 1 * 2 ∧ n + 1 ≤ 140737488355328 ∧ (n + 1) * 16 ≤ 140737488355328) (Tr.need (-9223372036854775808 ≤ Int.ofNat k + (1:Int) ∧ Int.ofNat k + (1:Int) ≤ 9223372036854775807) (Tr.leaf CExit.normal [(0,V.d x7_),y0_,(2,V.d (D.int IntKind.u8 m)),(6,V.ptr 0 0 0),(7,V.ptr 1 0 0),(8,V.ptr 2 0 0),(12,V.d (D.int .i64 (Int.ofNat k + (1:Int))))] [some x8_,some x9_,some (Blk.box [V.d x10_,V.d x7_,V.d D.nils,V.d D.nils,V.d x11_,V.own 4 (Nat.add n 1) (n + 1)]),none,some (Blk.row 73 2 (Nat.add n 1) (l ++ x6_))]))))))))))) (Tr.leaf (CExit.exit 2) [(0,V.d x7_),y0_,(2,V.d (D.int IntKind.u8 m)),(6,V.ptr 0 0 0),(7,V.ptr 1 0 0),(8,V.ptr 2 0 0),(12,V.d (D.int .i64 (Int.ofNat k))),(68,V.d (D.bool x2_))] [some x8_,some x9_,some (Blk.box [V.d x10_,V.d x7_,V.d D.nils,V.d D.nils,V.d x11_,V.own 4 n n]),none,some (Blk.row 73 2 n l)]))))) := by kernel_rfl
theorem x41b (hl ws:List Int) (m:Int) (S:List Spl) (n:Nat) (u:Int) (v:Bool) (l:List D):sS X41 (doneK r41) [Fr.blk 2,Fr.seq (CCode.at c41 [1,1,1,1,1])] (.exit 2) (E41 hl ws m ++ [(12,vi u),(68,vb v)]) [] (H41b hl S n l) =
  let y0_ := (D.sl false (List.length hl) (enc eI hl))
  Tr.need (n = n) (Tr.need (n = n) (Tr.lp (CCode.at c41 [1,1,1,1,1,0,1,0,0]) [Fr.blk 4,Fr.seq (CCode.at c41 [1,1,1,1,1,1])] [(0,V.d y0_),(1,V.d (D.sl false (List.length ws) (enc eW ws))),(2,V.d (D.int IntKind.u8 m)),(6,V.ptr 0 0 0),(7,V.ptr 1 0 0),(8,V.ptr 2 0 0),(14,V.d (D.int .i64 0))] [some (Blk.box [V.d (D.int .i64 0),V.d D.nils,V.d D.nils,V.d D.nils,V.d D.nils,V.d D.nils]),some (Blk.box [V.d D.nils,V.d D.nils]),some (Blk.box [V.d (D.int .i64 (Int.ofNat (List.length hl))),V.d y0_,V.d D.nils,V.d D.nils,V.d (D.sl false (List.length S) (enc eS S)),V.d (D.sl false n l)]),none,none])) := by kernel_rfl
def H41c (hl:List Int) (S:List Spl) (R:List Rng) (n:Nat) (l:List D):Heap := [Z0,Z1,some (.box [vi hl.length,.d (dsl eI hl),.d .nils,.own 5 n n,.d (dsl eS S),.d (dsl eR R)]),none,none,some (.row 52 3 n l)]
theorem b41c (hl ws:List Int) (m:Int) (S:List Spl) (R:List Rng) (k n:Nat) (l:List D):sx X41 (CCode.at c41 [1,1,1,1,1,0,1,0,0]) [] leafK (E41 hl ws m ++ [(14,vi k)]) [] (H41c hl S R n l) =
  let x1_ := (dec 1 gW (List.length ws) (enc eW ws))
  let x2_ := ((16:Int) ≠ (0:Int))
  let y1_ := (wordM x1_ (0:Int))
  let x3_ := (Int.tdiv y1_ (16:Int))
  let x4_ := (decide (Int.ofNat k < (1:Int) + Int.tmod x3_ (3:Int)))
  let x5_ := ((12:Int) ≠ (0:Int))
  let x6_ := (wordM x1_ (Int.ofNat k + (5:Int)))
  let x7_ := (Int.tdiv x6_ (16:Int))
  let x8_ := [D.int .i64 (Int.tmod x6_ (12:Int)),D.int .i64 (min2 (11:Int) (Int.tmod x6_ (12:Int) + Int.tmod x7_ (5:Int))),D.int .i64 (Int.tmod (Int.tdiv x6_ (128:Int)) (51:Int))]
  let x9_ := (D.sl false (List.length hl) (enc eI hl))
  let x10_ := (Blk.box [V.d (D.int .i64 0),V.d D.nils,V.d D.nils,V.d D.nils,V.d D.nils,V.d D.nils])
  let x11_ := (Blk.box [V.d D.nils,V.d D.nils])
  let x12_ := (D.int .i64 (Int.ofNat (List.length hl)))
  let x13_ := (D.sl false (List.length S) (enc eS S))
  let x14_ := (D.sl false (List.length R) (enc eR R))
  let y0_ := (1,V.d (D.sl false (List.length ws) (enc eW ws)))
  Tr.need (enc eW x1_ = enc eW ws ∧ isWords x1_ ∧ (0:Int) ≤ (0:Int)) (Tr.need x2_ (Tr.need (-9223372036854775808 ≤ Int.tdiv y1_ (16:Int) ∧ Int.tdiv y1_ (16:Int) ≤ 9223372036854775807) (Tr.need ((3:Int) ≠ (0:Int)) (Tr.need (-9223372036854775808 ≤ (1:Int) + Int.tmod x3_ (3:Int) ∧ (1:Int) + Int.tmod x3_ (3:Int) ≤ 9223372036854775807) (Tr.br x4_ (Tr.need (-9223372036854775808 ≤ Int.ofNat k + (5:Int) ∧ Int.ofNat k + (5:Int) ≤ 9223372036854775807) (Tr.need (enc eW x1_ = enc eW ws ∧ isWords x1_ ∧ (0:Int) ≤ Int.ofNat k + (5:Int)) (Tr.need x5_ (Tr.need x5_ (Tr.need x2_ (Tr.need (-9223372036854775808 ≤ Int.tdiv x6_ (16:Int) ∧ Int.tdiv x6_ (16:Int) ≤ 9223372036854775807) (Tr.need ((5:Int) ≠ (0:Int)) (Tr.need (-9223372036854775808 ≤ Int.tmod x6_ (12:Int) + Int.tmod x7_ (5:Int) ∧ Int.tmod x6_ (12:Int) + Int.tmod x7_ (5:Int) ≤ 9223372036854775807) (Tr.need ((128:Int) ≠ (0:Int)) (Tr.need (-9223372036854775808 ≤ Int.tdiv x6_ (128:Int) ∧ Int.tdiv x6_ (128:Int) ≤ 9223372036854775807) (Tr.need ((51:Int) ≠ (0:Int)) (Tr.need (n = n ∧ 52 = 52 ∧ 3 = 3 ∧ List.length l = n * 3 ∧ List.length x8_ = 1 * 3 ∧ n + 1 ≤ 140737488355328 ∧ (n + 1) * 24 ≤ 140737488355328) (Tr.need (-9223372036854775808 ≤ Int.ofNat k + (1:Int) ∧ Int.ofNat k + (1:Int) ≤ 9223372036854775807) (Tr.leaf CExit.normal [(0,V.d x9_),y0_,(2,V.d (D.int IntKind.u8 m)),(6,V.ptr 0 0 0),(7,V.ptr 1 0 0),(8,V.ptr 2 0 0),(14,V.d (D.int .i64 (Int.ofNat k + (1:Int))))] [some x10_,some x11_,some (Blk.box [V.d x12_,V.d x9_,V.d D.nils,V.own 5 (Nat.add n 1) (n + 1),V.d x13_,V.d x14_]),none,none,some (Blk.row 52 3 (Nat.add n 1) (l ++ x8_))])))))))))))))) (Tr.leaf (CExit.exit 4) [(0,V.d x9_),y0_,(2,V.d (D.int IntKind.u8 m)),(6,V.ptr 0 0 0),(7,V.ptr 1 0 0),(8,V.ptr 2 0 0),(14,V.d (D.int .i64 (Int.ofNat k))),(96,V.d (D.bool x4_))] [some x10_,some x11_,some (Blk.box [V.d x12_,V.d x9_,V.d D.nils,V.own 5 n n,V.d x13_,V.d x14_]),none,none,some (Blk.row 52 3 n l)])))))) := by kernel_rfl
theorem x41c (hl ws:List Int) (m:Int) (S:List Spl) (R:List Rng) (n:Nat) (u:Int) (v:Bool) (l:List D):sS X41 (doneK r41) [Fr.blk 4,Fr.seq (CCode.at c41 [1,1,1,1,1,1])] (.exit 4) (E41 hl ws m ++ [(14,vi u),(96,vb v)]) [] (H41c hl S R n l) =
  let y0_ := (D.sl false (List.length hl) (enc eI hl))
  Tr.need (n = n) (Tr.need (n = n) (Tr.lp (CCode.at c41 [1,1,1,1,1,1,1,0,1,0,0]) [Fr.blk 6,Fr.seq (CCode.at c41 [1,1,1,1,1,1,1,1])] [(0,V.d y0_),(1,V.d (D.sl false (List.length ws) (enc eW ws))),(2,V.d (D.int IntKind.u8 m)),(6,V.ptr 0 0 0),(7,V.ptr 1 0 0),(8,V.ptr 2 0 0),(16,V.ptr 6 0 0),(17,V.d (D.int .i64 0))] [some (Blk.box [V.d (D.int .i64 0),V.d D.nils,V.d D.nils,V.d D.nils,V.d D.nils,V.d D.nils]),some (Blk.box [V.d D.nils,V.d D.nils]),some (Blk.box [V.d (D.int .i64 (Int.ofNat (List.length hl))),V.d y0_,V.d D.nils,V.d (D.sl false n l),V.d (D.sl false (List.length S) (enc eS S)),V.d (D.sl false (List.length R) (enc eR R))]),none,none,none,some (Blk.box [V.d D.nils,V.d D.nils])])) := by kernel_rfl
def Cbox (c:Cmp):List V := [vi c.houses,.d (.sl false c.held.length (enc eI c.held)),.d (.sl false c.trades.length (enc eT c.trades)),.d (.sl false c.divs.length (enc eV c.divs)),.d (.sl false c.splits.length (enc eS c.splits)),.d (.sl false c.closed.length (enc eR c.closed))]
def Ubox (t:Tru):List V := [.d (.sl false t.sold.length (enc eI t.sold)),.d (.sl false t.deliv.length (enc eI t.deliv))]
def H41d (c:Cmp) (t:Tru):Heap := [Z0,Z1,some (.box (Cbox c)),none,none,none,some (.box (Ubox t))]
theorem b41d (hl ws:List Int) (m:Int) (c:Cmp) (t:Tru) (k:Nat):sx X41 (CCode.at c41 [1,1,1,1,1,1,1,0,1,0,0]) [] leafK (E41 hl ws m ++ [(16,.ptr 6 0 0),(17,vi k)]) [] (H41d c t) =
  let y17_ := (List.length hl)
  let x1_ := (decide ((1:Int) < Int.ofNat y17_))
  let x2_ := (-9223372036854775808 ≤ (2:Int) * Int.ofNat k ∧ (2:Int) * Int.ofNat k ≤ 9223372036854775807)
  let x3_ := (dec 1 gW (List.length ws) (enc eW ws))
  let x4_ := (Int.ofNat y17_ ≠ (0:Int))
  let x5_ := (wordM x3_ ((2:Int) * Int.ofNat k + (8:Int)))
  let x6_ := (Int.tdiv x5_ (4:Int))
  let x7_ := (Int.ofNat y17_)
  let x8_ := ((128:Int) ≠ (0:Int))
  let x9_ := (Int.tdiv x5_ (128:Int))
  let x10_ := (Int.ofNat y17_ - (1:Int))
  let x11_ := (wordM x3_ ((2:Int) * Int.ofNat k + (9:Int)))
  let x12_ := (Int.tdiv x11_ (16:Int))
  let x13_ := (Int.tdiv x11_ (64:Int))
  let x14_ := (Int.tdiv x11_ (128:Int))
  let x15_ := (Int.tmod x11_ (12:Int) + Int.tmod x12_ (4:Int))
  let x16_ := (Int.tdiv x11_ (256:Int))
  let x17_ := (Int.tdiv x11_ (512:Int))
  let y15_ := (Cmp.trades c)
  let x18_ := (0 + List.length y15_)
  let x19_ := (0 = 0 ∧ 99 = 99 ∧ 7 = 7 ∧ 0 = 0 * 7 ∧ List.length (enc eT y15_) = List.length y15_ * 7 ∧ 0 + List.length y15_ ≤ 140737488355328 ∧ x18_ * 56 ≤ 140737488355328)
  let x20_ := (Int.tmod (Int.tmod x5_ x7_ + (1:Int) + Int.tmod x9_ x10_) x7_)
  let x21_ := ((1:Int) + Int.tmod x6_ (20:Int))
  let x22_ := (max2 (0:Int) (Int.tmod x11_ (12:Int) - Int.tmod x13_ (2:Int)))
  let x23_ := (min2 (11:Int) (Int.tmod x11_ (12:Int) + Int.tmod x14_ (2:Int)))
  let x24_ := (max2 (0:Int) (min2 (11:Int) x15_ - Int.tmod x16_ (2:Int)))
  let x25_ := (min2 (11:Int) (min2 (11:Int) x15_ + Int.tmod x17_ (2:Int)))
  let x26_ := [D.int .i64 (Int.tmod x5_ x7_),D.int .i64 x20_,D.int .i64 x21_,D.int .i64 x22_,D.int .i64 x23_,D.int .i64 x24_,D.int .i64 x25_]
  let x27_ := (0 + List.length y15_ + 1)
  let x28_ := (1 = 1 ∧ 99 = 99 ∧ 7 = 7 ∧ List.length ([] ++ enc eT y15_) = x18_ * 7 ∧ List.length x26_ = 1 * 7 ∧ 0 + List.length y15_ + 1 ≤ 140737488355328 ∧ x27_ * 56 ≤ 140737488355328)
  let x29_ := (Int.tmod x11_ (12:Int))
  let x30_ := (Blk.box [V.d (D.int .i64 0),V.d D.nils,V.d D.nils,V.d D.nils,V.d D.nils,V.d D.nils])
  let x31_ := (Blk.box [V.d D.nils,V.d D.nils])
  let x32_ := (D.int .i64 (Cmp.houses c))
  let x33_ := (List.length (Cmp.held c))
  let x34_ := (D.sl false x33_ (enc eI (Cmp.held c)))
  let x35_ := (List.length (Cmp.divs c))
  let x36_ := (D.sl false x35_ (enc eV (Cmp.divs c)))
  let x37_ := (List.length (Cmp.splits c))
  let x38_ := (D.sl false x37_ (enc eS (Cmp.splits c)))
  let x39_ := (List.length (Cmp.closed c))
  let x40_ := (D.sl false x39_ (enc eR (Cmp.closed c)))
  let x41_ := (Blk.box [V.d x32_,V.d x34_,V.d (D.sl false (List.length y15_) (enc eT y15_)),V.d x36_,V.d x38_,V.d x40_])
  let x42_ := (List.length (Tru.sold t))
  let x43_ := (List.length (Tru.deliv t))
  let y23_ := (enc eI (Tru.deliv t))
  let y24_ := (enc eI (Tru.sold t))
  let x44_ := (Blk.box [V.d (D.sl false x42_ y24_),V.d (D.sl false x43_ y23_)])
  let x45_ := (Blk.box [V.d (D.int .i64 (Int.tmod x5_ x7_)),V.d (D.int .i64 x20_),V.d (D.int .i64 x21_),V.d (D.int .i64 x22_),V.d (D.int .i64 x23_),V.d (D.int .i64 x24_),V.d (D.int .i64 x25_)])
  let x46_ := (Blk.box [V.d x32_,V.d x34_,V.own 9 2 x27_,V.d x36_,V.d x38_,V.d x40_])
  let x47_ := ([] ++ enc eT y15_ ++ x26_)
  let x48_ := [some x30_,some x31_,some x41_,none,none,none,some x44_,some x45_,some x46_,some (Blk.row 99 7 2 x47_)]
  let y4_ := (0,V.d (D.sl false y17_ (enc eI hl)))
  let y5_ := (1,V.d (D.sl false (List.length ws) (enc eW ws)))
  let y7_ := (17,V.d (D.int .i64 (Int.ofNat k)))
  let y8_ := (2,V.d (D.int IntKind.u8 m))
  let y11_ := (16,V.ptr 6 0 0)
  let y12_ := (6,V.ptr 0 0 0)
  let y13_ := (7,V.ptr 1 0 0)
  let y14_ := (8,V.ptr 2 0 0)
  let y25_ := (23,V.ptr 8 0 0)
  let y9_ := [y4_,y5_,y8_,y12_,y13_,y14_,y11_,y7_,(21,V.d (D.int .i64 x29_)),(22,V.d (D.int .i64 (min2 (11:Int) x15_))),y25_]
  let x49_ := (y9_ = y9_ ∧ x48_ = x48_)
  let x50_ := (okL eI 1 gI x42_ y24_ ∧ List.length (Tru.sold t) ≤ 1000000)
  let x51_ := [V.d x32_,V.d x34_,V.d (D.sl false x27_ x47_),V.d x36_,V.d x38_,V.d x40_]
  let x52_ := (some (Blk.box (Cbox c)))
  let x53_ := (some (Blk.box (Ubox t)))
  let x54_ := (Blk.row 3 1 1 y24_)
  let y10_ := (Blk.box x51_)
  let x55_ := (HLe [some x30_,some x31_,some x41_,none,none,none,some x44_,some x45_,some y10_,none] [fsB 9 2 x47_ Z0,fsB 9 2 x47_ Z1,fsB 9 2 x47_ x52_,fsB 9 2 x47_ none,fsB 9 2 x47_ none,fsB 9 2 x47_ none,fsB 9 2 x47_ x53_,fsB 9 2 x47_ (some x45_),fsB 9 2 x47_ (some x46_),none,some x54_])
  let x56_ := [D.int .i64 x29_]
  let x57_ := (List.length (Tru.sold t) + 1)
  let x58_ := (1 = 1 ∧ 3 = 3 ∧ 1 = 1 ∧ List.length y24_ = List.length (Tru.sold t) * 1 ∧ List.length x56_ = 1 * 1 ∧ List.length (Tru.sold t) + 1 ≤ 140737488355328 ∧ x57_ * 8 ≤ 140737488355328)
  let x59_ := (okL eI 1 gI x43_ y23_ ∧ List.length (Tru.deliv t) ≤ 1000000)
  let x60_ := (enc eI (Tru.sold t) ++ x56_)
  let x61_ := (Blk.row 3 1 2 x60_)
  let x62_ := (Blk.row 3 1 2 x60_)
  let x63_ := (Blk.row 3 1 1 y23_)
  let x64_ := [D.int .i64 (min2 (11:Int) x15_)]
  let x65_ := (List.length (Tru.deliv t) + 1)
  let x66_ := (1 = 1 ∧ 3 = 3 ∧ 1 = 1 ∧ List.length y23_ = List.length (Tru.deliv t) * 1 ∧ List.length x64_ = 1 * 1 ∧ List.length (Tru.deliv t) + 1 ≤ 140737488355328 ∧ x65_ * 8 ≤ 140737488355328)
  let x67_ := (enc eI (Tru.deliv t) ++ x64_)
  let x68_ := (Blk.row 3 1 2 x67_)
  let x69_ := [some x30_,some x31_,some x41_,none,none,none,some x44_,some x45_,some y10_,none,some x61_,some x68_,some (Blk.box [V.own 10 2 x57_,V.own 11 2 x65_])]
  let x70_ := (dC (Cmp.houses c) x33_ (enc eI (Cmp.held c)) x27_ x47_ x35_ (enc eV (Cmp.divs c)) x37_ (enc eS (Cmp.splits c)) x39_ (enc eR (Cmp.closed c)))
  let x71_ := (dU x57_ x60_ x65_ x67_)
  let x72_ := [V.d (D.sl false x57_ x60_),V.d (D.sl false x65_ x67_)]
  let x73_ := (Cv x70_ = V.agg x51_ ∧ Uv x71_ = V.agg x72_ ∧ faultM x70_ = (0:Int))
  let y18_ := (Blk.box x72_)
  let x74_ := [some x30_,some x31_,some y10_,none,none,none,some y18_,some x45_,some y10_,none,none,none,some y18_]
  let x75_ := (-9223372036854775808 ≤ Int.ofNat k + (1:Int) ∧ Int.ofNat k + (1:Int) ≤ 9223372036854775807)
  let x76_ := (HLe [some x30_,some x31_,some x41_,none,none,none,some x44_,some x45_,some y10_,none,some x61_,some x31_] [fsB 9 2 x47_ Z0,fsB 9 2 x47_ Z1,fsB 9 2 x47_ x52_,fsB 9 2 x47_ none,fsB 9 2 x47_ none,fsB 9 2 x47_ none,fsB 9 2 x47_ x53_,fsB 9 2 x47_ (some x45_),fsB 9 2 x47_ (some x46_),none,some x62_,some x31_,some x63_])
  let x77_ := [some x30_,some x31_,some y10_,none,none,none,some y18_,some x45_,some y10_,none,none,some y18_,none]
  let x78_ := [some x30_,some x31_,some x41_,none,none,none,some x44_,some x45_,some y10_,none,some x61_,some (Blk.box [V.own 10 2 x57_,V.own 12 2 x65_]),some x68_]
  let x79_ := (HLe [some x30_,some x31_,some x41_,none,none,none,some x44_,some x45_,some y10_,none,some x31_] [fsB 9 2 x47_ Z0,fsB 9 2 x47_ Z1,fsB 9 2 x47_ x52_,fsB 9 2 x47_ none,fsB 9 2 x47_ none,fsB 9 2 x47_ none,fsB 9 2 x47_ x53_,fsB 9 2 x47_ (some x45_),fsB 9 2 x47_ (some x46_),none,some x31_,some x54_])
  let x80_ := (HLe [some x30_,some x31_,some x41_,none,none,none,some x44_,some x45_,some y10_,none,some x31_,some x61_] [fsB 9 2 x47_ Z0,fsB 9 2 x47_ Z1,fsB 9 2 x47_ x52_,fsB 9 2 x47_ none,fsB 9 2 x47_ none,fsB 9 2 x47_ none,fsB 9 2 x47_ x53_,fsB 9 2 x47_ (some x45_),fsB 9 2 x47_ (some x46_),none,some x31_,some x62_,some x63_])
  let x81_ := [some x30_,some x31_,some y10_,none,none,none,some y18_,some x45_,some y10_,none,some y18_,none,none]
  let x82_ := [some x30_,some x31_,some x41_,none,none,none,some x44_,some x45_,some y10_,none,some (Blk.box [V.own 11 2 x57_,V.own 12 2 x65_]),some x61_,some x68_]
  let y19_ := [y4_,y5_,y8_,y12_,y13_,y14_,y11_,y7_,y25_,(24,V.ptr 10 0 0)]
  let x83_ := (y19_ = y19_ ∧ x82_ = x82_)
  let x84_ := [some x30_,some x31_,some x41_,none,none,none,some x44_]
  let y2_ := [y4_,y5_,y8_,y12_,y13_,y14_,y11_,(17,V.d (D.int .i64 (Int.ofNat k + (1:Int))))]
  let y3_ := [y4_,y5_,y8_,y12_,y13_,y14_,y11_,y7_]
  let y1_ := (Tr.need (2 = 2) (Tr.need (2 = 2) (Tr.need (2 = 2) (Tr.need (2 = 2) (Tr.need x73_ (Tr.br (truthB x70_ x71_) (Tr.need (y3_ = y3_ ∧ x77_ = x77_) (Tr.need x75_ (Tr.leaf CExit.normal y2_ x77_))) (Tr.need x75_ (Tr.leaf CExit.normal y2_ [some x30_,some x31_,some x41_,none,none,none,some x44_,some x45_,some y10_,none,none,some y18_,none]))))))))
  let y16_ := (Tr.need x59_ (Tr.need x76_ (Tr.need x66_ y1_)))
  let y20_ := [y4_,y5_,y8_,y12_,y13_,y14_,y11_,y7_,y25_,(24,V.ptr 12 0 0)]
  let y0_ := (Tr.need x58_ (Tr.two (Tr.need x59_ (Tr.need (HLe [some x30_,some x31_,some x41_,none,none,none,some x44_,some x45_,some y10_,none,some x61_] [fsB 9 2 x47_ Z0,fsB 9 2 x47_ Z1,fsB 9 2 x47_ x52_,fsB 9 2 x47_ none,fsB 9 2 x47_ none,fsB 9 2 x47_ none,fsB 9 2 x47_ x53_,fsB 9 2 x47_ (some x45_),fsB 9 2 x47_ (some x46_),none,some x62_,some x63_]) (Tr.need x66_ (Tr.need x66_ (Tr.need (y20_ = y20_ ∧ x69_ = x69_) (Tr.need (2 = 2) (Tr.need (2 = 2) (Tr.need (2 = 2) (Tr.need (2 = 2) (Tr.need x73_ (Tr.br (truthB x70_ x71_) (Tr.need (y3_ = y3_ ∧ x74_ = x74_) (Tr.need x75_ (Tr.leaf CExit.normal y2_ x74_))) (Tr.need x75_ (Tr.leaf CExit.normal y2_ [some x30_,some x31_,some x41_,none,none,none,some x44_,some x45_,some y10_,none,none,none,some y18_]))))))))))))) y16_))
  let y6_ := (Tr.need (2 = 2) (Tr.need (2 = 2) (Tr.need (2 = 2) (Tr.need (2 = 2) (Tr.need x73_ (Tr.br (truthB x70_ x71_) (Tr.need (y3_ = y3_ ∧ x81_ = x81_) (Tr.need x75_ (Tr.leaf CExit.normal y2_ x81_))) (Tr.need x75_ (Tr.leaf CExit.normal y2_ [some x30_,some x31_,some x41_,none,none,none,some x44_,some x45_,some y10_,none,some y18_,none,none]))))))))
  let y21_ := [y4_,y5_,y8_,y12_,y13_,y14_,y11_,y7_,y25_,(24,V.ptr 11 0 0)]
  let y22_ := ((2:Int) ≠ (0:Int))
  Tr.need ((5:Int) ≠ (0:Int)) (Tr.br (decide (Int.ofNat k < Int.tmod (IntKind.wrap IntKind.i64 m) (5:Int))) (Tr.br x1_ (Tr.need x2_ (Tr.need (-9223372036854775808 ≤ (2:Int) * Int.ofNat k + (8:Int) ∧ (2:Int) * Int.ofNat k + (8:Int) ≤ 9223372036854775807) (Tr.need (enc eW x3_ = enc eW ws ∧ isWords x3_ ∧ (0:Int) ≤ (2:Int) * Int.ofNat k + (8:Int)) (Tr.need x2_ (Tr.need (-9223372036854775808 ≤ (2:Int) * Int.ofNat k + (9:Int) ∧ (2:Int) * Int.ofNat k + (9:Int) ≤ 9223372036854775807) (Tr.need (enc eW x3_ = enc eW ws ∧ isWords x3_ ∧ (0:Int) ≤ (2:Int) * Int.ofNat k + (9:Int)) (Tr.need x4_ (Tr.need ((4:Int) ≠ (0:Int)) (Tr.need (-9223372036854775808 ≤ Int.tdiv x5_ (4:Int) ∧ Int.tdiv x5_ (4:Int) ≤ 9223372036854775807) (Tr.need ((20:Int) ≠ (0:Int)) (Tr.need (-9223372036854775808 ≤ (1:Int) + Int.tmod x6_ (20:Int) ∧ (1:Int) + Int.tmod x6_ (20:Int) ≤ 9223372036854775807) (Tr.need (-9223372036854775808 ≤ Int.tmod x5_ x7_ + (1:Int) ∧ Int.tmod x5_ x7_ + (1:Int) ≤ 9223372036854775807) (Tr.need x8_ (Tr.need (-9223372036854775808 ≤ Int.tdiv x5_ (128:Int) ∧ Int.tdiv x5_ (128:Int) ≤ 9223372036854775807) (Tr.need (-9223372036854775808 ≤ Int.ofNat y17_ - (1:Int) ∧ Int.ofNat y17_ - (1:Int) ≤ 9223372036854775807) (Tr.need (Int.ofNat y17_ - (1:Int) ≠ (0:Int)) (Tr.need (-9223372036854775808 ≤ Int.tmod x5_ x7_ + (1:Int) + Int.tmod x9_ x10_ ∧ Int.tmod x5_ x7_ + (1:Int) + Int.tmod x9_ x10_ ≤ 9223372036854775807) (Tr.need x4_ (Tr.need ((12:Int) ≠ (0:Int)) (Tr.need ((16:Int) ≠ (0:Int)) (Tr.need (-9223372036854775808 ≤ Int.tdiv x11_ (16:Int) ∧ Int.tdiv x11_ (16:Int) ≤ 9223372036854775807) (Tr.need ((4:Int) ≠ (0:Int)) (Tr.need (-9223372036854775808 ≤ Int.tmod x11_ (12:Int) + Int.tmod x12_ (4:Int) ∧ Int.tmod x11_ (12:Int) + Int.tmod x12_ (4:Int) ≤ 9223372036854775807) (Tr.need ((64:Int) ≠ (0:Int)) (Tr.need (-9223372036854775808 ≤ Int.tdiv x11_ (64:Int) ∧ Int.tdiv x11_ (64:Int) ≤ 9223372036854775807) (Tr.need y22_ (Tr.need (-9223372036854775808 ≤ Int.tmod x11_ (12:Int) - Int.tmod x13_ (2:Int) ∧ Int.tmod x11_ (12:Int) - Int.tmod x13_ (2:Int) ≤ 9223372036854775807) (Tr.need x8_ (Tr.need (-9223372036854775808 ≤ Int.tdiv x11_ (128:Int) ∧ Int.tdiv x11_ (128:Int) ≤ 9223372036854775807) (Tr.need y22_ (Tr.need (-9223372036854775808 ≤ Int.tmod x11_ (12:Int) + Int.tmod x14_ (2:Int) ∧ Int.tmod x11_ (12:Int) + Int.tmod x14_ (2:Int) ≤ 9223372036854775807) (Tr.need ((256:Int) ≠ (0:Int)) (Tr.need (-9223372036854775808 ≤ Int.tdiv x11_ (256:Int) ∧ Int.tdiv x11_ (256:Int) ≤ 9223372036854775807) (Tr.need y22_ (Tr.need (-9223372036854775808 ≤ min2 (11:Int) x15_ - Int.tmod x16_ (2:Int) ∧ min2 (11:Int) x15_ - Int.tmod x16_ (2:Int) ≤ 9223372036854775807) (Tr.need ((512:Int) ≠ (0:Int)) (Tr.need (-9223372036854775808 ≤ Int.tdiv x11_ (512:Int) ∧ Int.tdiv x11_ (512:Int) ≤ 9223372036854775807) (Tr.need y22_ (Tr.need (-9223372036854775808 ≤ min2 (11:Int) x15_ + Int.tmod x17_ (2:Int) ∧ min2 (11:Int) x15_ + Int.tmod x17_ (2:Int) ≤ 9223372036854775807) (Tr.need x19_ (Tr.need x28_ (Tr.need x19_ (Tr.need x28_ (Tr.need x49_ (Tr.need x19_ (Tr.need x28_ (Tr.need x49_ (Tr.need (2 = 2) (Tr.need (2 = 2) (Tr.two (Tr.need x50_ (Tr.need x55_ (Tr.two y0_ (Tr.two (Tr.two y0_ (Tr.need x58_ y16_)) (Tr.need x58_ (Tr.need x59_ (Tr.need x76_ (Tr.need x66_ (Tr.need x58_ (Tr.need x59_ (Tr.need x76_ (Tr.need x66_ (Tr.need (y21_ = y21_ ∧ x78_ = x78_) y1_))))))))))))) (Tr.two (Tr.two (Tr.need x50_ (Tr.need x55_ (Tr.two y0_ (Tr.need x58_ y16_)))) (Tr.need x50_ (Tr.need x79_ (Tr.need x58_ (Tr.need x59_ (Tr.need x80_ (Tr.need x66_ y6_))))))) (Tr.need x50_ (Tr.need x79_ (Tr.need x58_ (Tr.need x59_ (Tr.need x80_ (Tr.need x66_ (Tr.need x58_ (Tr.need x59_ (Tr.need x80_ (Tr.need x66_ (Tr.need x83_ (Tr.need x50_ (Tr.need x79_ (Tr.need x58_ (Tr.need x59_ (Tr.need x80_ (Tr.need x66_ (Tr.need x83_ y6_))))))))))))))))))))))))))))))))))))))))))))))))))))))))))))))))))))) (Tr.leaf (CExit.exit 6) [y4_,y5_,y8_,y12_,y13_,y14_,y11_,y7_,(130,V.d (D.bool x1_))] x84_)) (Tr.leaf (CExit.exit 6) [y4_,y5_,y8_,y12_,y13_,y14_,y11_,y7_,(130,V.d (D.bool false))] x84_)) := by kernel_rfl
theorem x41d (hl ws:List Int) (m:Int) (c:Cmp) (t:Tru) (u:Int) (v:Bool):sS X41 (doneK r41) [Fr.blk 6,Fr.seq (CCode.at c41 [1,1,1,1,1,1,1,1])] (.exit 6) (E41 hl ws m ++ [(16,.ptr 6 0 0),(17,vi u),(130,vb v)]) [] (H41d c t) =
  let x1_ := (Blk.box [V.d (D.int .i64 (Cmp.houses c)),V.d (D.sl false (List.length (Cmp.held c)) (enc eI (Cmp.held c))),V.d (D.sl false (List.length (Cmp.trades c)) (enc eT (Cmp.trades c))),V.d (D.sl false (List.length (Cmp.divs c)) (enc eV (Cmp.divs c))),V.d (D.sl false (List.length (Cmp.splits c)) (enc eS (Cmp.splits c))),V.d (D.sl false (List.length (Cmp.closed c)) (enc eR (Cmp.closed c)))])
  let x2_ := (Blk.box [V.d (D.sl false (List.length (Tru.sold t)) (enc eI (Tru.sold t))),V.d (D.sl false (List.length (Tru.deliv t)) (enc eI (Tru.deliv t)))])
  let x3_ := [some x1_,some x2_,some x1_,none,none,none,some x2_]
  let y0_ := [(6,V.ptr 0 0 0),(7,V.ptr 1 0 0)]
  Tr.need (y0_ = y0_ ∧ x3_ = x3_) (Tr.done (V.tup [Cv c,Uv t]) x3_) := by kernel_rfl
end
end Go.Proofs.Ytdnefcjbcieecaa
namespace Go.Proofs.Ytdnefcjbcieecaa
open Go Go.Proofs
noncomputable section
theorem StLe.cells {n sz:Nat} {env:Env} {h:Heap} {id:Nat} {cs cs' : List V} (hi:h[id]? = some (some (.box cs))) (hl:VLes cs cs'):StLe n sz env h env (h.set id (some (.box cs'))) := by
 intro M w a hs hn hE
 have hs2 := Sim.reb (M := M) hs (cs' := cs') hi hl.len.symm (fun k x y v hx hy hr => by
  obtain ⟨x',hx',hle⟩ := hl.get k y hy
  rw [hx] at hx'; cases hx'
  exact hle _ _ hr)
 have hlive:∀ b,liveBlk M (h.set id (some (.box cs'))) b → liveBlk M h b := fun b ⟨j,blk,r,hj,hr,hb⟩ => by
  by_cases hj' : j = id
  ·subst hj'; exact ⟨j,_,r,hi,hr,hb⟩
  ·rw [List.getElem?_set_ne (Ne.symm hj')] at hj; exact ⟨j,blk,r,hj,hr,hb⟩
 exact ⟨M,⟨fun _ _ _ h => h,⟨⟨fun _ h => h,fun _ _ h => h,fun _ _ _ _ h => .inl h⟩,rfl⟩,MuLe.refl M,by simp; omega,hs2,rfl,rfl,rfl,Nat.le_refl _,fun _ _ _ => rfl,fun b hb hl => hlive b hl⟩,hE⟩
theorem dec_snoc {α:Type} {sz:Nat} {f:α → List D} {g:List D → α} (hf:∀ x,(f x).length = sz) (hg:∀ x,g (f x) = x) (l:List α) (x:α):dec sz g (0 + l.length + 1) ([] ++ enc f l ++ f x) = l ++ [x] := by
 have e:([] ++ enc f l ++ f x) = enc f (l ++ [x]) := by rw [enc_append,enc_one]; rfl
 have e2:0 + l.length + 1 = (l ++ [x]).length := by simp
 rw [e,e2,dec_enc hf hg]
theorem wd {w n:Int} (h0:0 ≤ w) (h1:w ≤ 65535) (hn:0 < n):0 ≤ w.tmod n ∧ w.tmod n < n ∧ w.tmod n ≤ 65535 ∧ 0 ≤ w.tdiv n ∧ w.tdiv n ≤ 65535 := by
 rw [Int.tmod_eq_emod_of_nonneg h0,Int.tdiv_eq_ediv_of_nonneg h0]
 have a1 := Int.emod_nonneg w (show n ≠ 0 by omega)
 have a2 := Int.emod_lt_of_pos w hn
 have a3 := Int.ediv_nonneg h0 (show 0 ≤ n by omega)
 have a4 := Int.ediv_le_self n h0
 have a5:w % n ≤ w := by have := Int.mul_nonneg (show 0 ≤ n by omega) a3; rw [Int.emod_def]; omega
 omega
def splS (d:Int) (w:Int):Spl := ⟨d,1 + (w.tdiv 8).tmod 6,1 + (w.tdiv 64).tmod 4⟩
def splK (ws:List Int):Nat → Int × List Spl
 | 0 => (-1,[])
 | k + 1 => ((splK ws k).1 + (1 + (wordM ws ((k:Int) + 1)).tmod 6),if (splK ws k).1 + (1 + (wordM ws ((k:Int) + 1)).tmod 6) ≤ 11 then (splK ws k).2 ++ [splS ((splK ws k).1 + (1 + (wordM ws ((k:Int) + 1)).tmod 6)) (wordM ws ((k:Int) + 1))] else (splK ws k).2)
def splN (ws:List Int):Nat := ((wordM ws 0).tmod 3).toNat
theorem okSs_snoc {x:Spl} (hx:x.day ≤ 11 ∧ 1 ≤ x.num ∧ x.num ≤ 6 ∧ 1 ≤ x.den ∧ x.den ≤ 4):∀ (l:List Spl) (a:Int),okSs a l = true → a < x.day → (∀ y ∈ l,y.day < x.day) → okSs a (l ++ [x]) = true
 | [],a,_,h2,_ => by simp [okSs,okSp]; omega
 | y :: l,a,h1,h2,h3 => by
  simp only [okSs,List.cons_append,Bool.and_eq_true] at h1 ⊢
  exact ⟨h1.1,okSs_snoc hx l y.day h1.2 (h3 y (by simp)) fun z hz => h3 z (by simp [hz])⟩
theorem splK_ok {ws:List Int} (hw:isWords ws):∀ k, -1 ≤ (splK ws k).1 ∧ (splK ws k).1 ≤ 6 * (k:Int) ∧ okSs (-1) (splK ws k).2 = true ∧ (∀ y ∈ (splK ws k).2,y.day ≤ (splK ws k).1) ∧ (splK ws k).2.length ≤ k
 | 0 => by simp [splK,okSs]
 | k + 1 => by
  obtain ⟨i1,i2,i3,i4,i5⟩ := splK_ok hw k
  have hwi := word_in hw ((k:Int) + 1) (by omega)
  have m6 := wd hwi.1 hwi.2 (n := 6) (by omega)
  have d8 := wd hwi.1 hwi.2 (n := 8) (by omega)
  have d64 := wd hwi.1 hwi.2 (n := 64) (by omega)
  have e1 := wd d8.2.2.2.1 d8.2.2.2.2 (n := 6) (by omega)
  have e2 := wd d64.2.2.2.1 d64.2.2.2.2 (n := 4) (by omega)
  simp only [splK]
  refine ⟨by omega,by omega, ?_, ?_, ?_⟩
  ·split
   ·rename_i hle
    refine okSs_snoc ⟨hle, ?_, ?_, ?_, ?_⟩ _ _ i3 ?_ fun y hy => ?_
    ·simp only [splS]; omega
    ·simp only [splS]; omega
    ·simp only [splS]; omega
    ·simp only [splS]; omega
    ·simp only [splS]; omega
    ·have := i4 y hy; simp only [splS]; omega
   ·exact i3
  ·split
   ·intro y hy
    rcases List.mem_append.1 hy with h | h
    ·have := i4 y h; omega
    ·rcases List.mem_singleton.1 h with rfl; simp only [splS]; omega
   ·intro y hy; have := i4 y hy; omega
  ·split
   ·simp; omega
   ·omega
def cloR (w:Int):Rng := ⟨w.tmod 10,min2 11 (w.tmod 10 + (w.tdiv 16).tmod 4)⟩
def cloK (ws:List Int) (k:Nat):List Rng := (List.range k).map fun (i:Nat) => cloR (wordM ws ((i:Int) + 3))
def cloN (ws:List Int):Nat := (((wordM ws 0).tdiv 4).tmod 3).toNat
theorem cloK_succ (ws:List Int) (k:Nat):cloK ws (k + 1) = cloK ws k ++ [cloR (wordM ws ((k:Int) + 3))] := by simp [cloK,List.range_succ]
@[simp] theorem cloK_len (ws:List Int) (k:Nat):(cloK ws k).length = k := by simp [cloK]
theorem cloR_ok {w:Int} (h0:0 ≤ w) (h1:w ≤ 65535):(cloR w).days = true := by
 have a1 := wd h0 h1 (n := 10) (by omega)
 have a2 := wd h0 h1 (n := 16) (by omega)
 have a3 := wd a2.2.2.2.1 a2.2.2.2.2 (n := 4) (by omega)
 refine decide_eq_true ?_
 show 0 ≤ w.tmod 10 ∧ w.tmod 10 ≤ min2 11 (w.tmod 10 + (w.tdiv 16).tmod 4) ∧ min2 11 (w.tmod 10 + (w.tdiv 16).tmod 4) ≤ 11
 unfold min2
 split <;> omega
def divD (w:Int):Dvd := ⟨w.tmod 12,min2 11 (w.tmod 12 + (w.tdiv 16).tmod 5),(w.tdiv 128).tmod 51⟩
def divK (ws:List Int) (k:Nat):List Dvd := (List.range k).map fun (i:Nat) => divD (wordM ws ((i:Int) + 5))
def divN (ws:List Int):Nat := (1 + ((wordM ws 0).tdiv 16).tmod 3).toNat
theorem divK_succ (ws:List Int) (k:Nat):divK ws (k + 1) = divK ws k ++ [divD (wordM ws ((k:Int) + 5))] := by simp [divK,List.range_succ]
@[simp] theorem divK_len (ws:List Int) (k:Nat):(divK ws k).length = k := by simp [divK]
theorem divD_ok {w:Int} (h0:0 ≤ w) (h1:w ≤ 65535):okDv (divD w) = true := by
 have a1 := wd h0 h1 (n := 12) (by omega)
 have a2 := wd h0 h1 (n := 16) (by omega)
 have a3 := wd a2.2.2.2.1 a2.2.2.2.2 (n := 5) (by omega)
 have a4 := wd h0 h1 (n := 128) (by omega)
 have a5 := wd a4.2.2.2.1 a4.2.2.2.2 (n := 51) (by omega)
 refine decide_eq_true ?_
 show 0 ≤ w.tmod 12 ∧ w.tmod 12 ≤ min2 11 (w.tmod 12 + (w.tdiv 16).tmod 5) ∧ min2 11 (w.tmod 12 + (w.tdiv 16).tmod 5) ≤ 11 ∧ 0 ≤ (w.tdiv 128).tmod 51 ∧ (w.tdiv 128).tmod 51 ≤ 50
 unfold min2
 split <;> omega
def dS (v:Int):Int := v.tmod 12
def dD (v:Int):Int := min2 11 (v.tmod 12 + (v.tdiv 16).tmod 4)
def dTrd (n w v:Int):Trd := ⟨w.tmod n,(w.tmod n + 1 + (w.tdiv 128).tmod (n - 1)).tmod n,1 + (w.tdiv 4).tmod 20,⟨max2 0 (v.tmod 12 - (v.tdiv 64).tmod 2),min2 11 (v.tmod 12 + (v.tdiv 128).tmod 2)⟩,
 ⟨max2 0 (min2 11 (v.tmod 12 + (v.tdiv 16).tmod 4) - (v.tdiv 256).tmod 2),min2 11 (min2 11 (v.tmod 12 + (v.tdiv 16).tmod 4) + (v.tdiv 512).tmod 2)⟩⟩
def Cmp.more (c:Cmp) (x:Trd):Cmp := { c with trades := c.trades ++ [x] }
def Tru.more (t:Tru) (s d:Int):Tru := ⟨t.sold ++ [s],t.deliv ++ [d]⟩
def base (hl ws:List Int):Cmp := ⟨hl.length,hl,[],divK ws (divN ws),(splK ws (splN ws)).2,cloK ws (cloN ws)⟩
def dealK (hl ws:List Int):Nat → Cmp × Tru
 | 0 => (base hl ws,⟨[],[]⟩)
 | k + 1 => if truthB ((dealK hl ws k).1.more (dTrd hl.length (wordM ws (2 * (k:Int) + 8)) (wordM ws (2 * (k:Int) + 9)))) ((dealK hl ws k).2.more (dS (wordM ws (2 * (k:Int) + 9))) (dD (wordM ws (2 * (k:Int) + 9)))) = true
   then ((dealK hl ws k).1.more (dTrd hl.length (wordM ws (2 * (k:Int) + 8)) (wordM ws (2 * (k:Int) + 9))),(dealK hl ws k).2.more (dS (wordM ws (2 * (k:Int) + 9))) (dD (wordM ws (2 * (k:Int) + 9))))
   else dealK hl ws k
def dealN (hl:List Int) (m:Int):Nat := if 1 < hl.length then (m.tmod 5).toNat else 0
def dealt (hl ws:List Int) (m:Int):Cmp × Tru := dealK hl ws (dealN hl m)
def begunB (hl:List Int):Bool := decide (hl.length ≤ 7) && (faultM ⟨hl.length,hl,[],[],[],[]⟩ == 0)
theorem fault_of {c:Cmp} (h:1 ≤ c.houses ∧ c.houses ≤ 4 ∧ (c.held.length:Int) = c.houses ∧ c.trades.length ≤ 4 ∧ c.divs.length ≤ 3 ∧ c.splits.length ≤ 2 ∧ c.closed.length ≤ 2) (h1:c.held.all (Rng.has ⟨0,100⟩) = true) (h2:c.trades.all (okTr c.houses) = true) (h3:c.divs.all okDv = true) (h4:okSs (-1) c.splits = true) (h5:c.closed.all Rng.days = true):faultM c = 0 := by
 unfold faultM
 rw [if_neg (by omega),if_pos ⟨h.1,h.2.2.1,h1,h2,h3,h4,h5⟩]
theorem dTrd_ok {n w v:Int} (hn:2 ≤ n) (hn2:n ≤ 4) (w0:0 ≤ w) (w1:w ≤ 65535) (v0:0 ≤ v) (v1:v ≤ 65535):okTr n (dTrd n w v) = true := by
 have a1 := wd w0 w1 (n := n) (by omega)
 have a2 := wd w0 w1 (n := 128) (by omega)
 have a3 := wd w0 w1 (n := 4) (by omega)
 have a4 := wd a3.2.2.2.1 a3.2.2.2.2 (n := 20) (by omega)
 have b1 := wd v0 v1 (n := 12) (by omega)
 have b2 := wd v0 v1 (n := 64) (by omega)
 have b3 := wd b2.2.2.2.1 b2.2.2.2.2 (n := 2) (by omega)
 have b4 := wd v0 v1 (n := 128) (by omega)
 have b5 := wd b4.2.2.2.1 b4.2.2.2.2 (n := 2) (by omega)
 have b6 := wd v0 v1 (n := 16) (by omega)
 have b7 := wd b6.2.2.2.1 b6.2.2.2.2 (n := 4) (by omega)
 have b8 := wd v0 v1 (n := 256) (by omega)
 have b9 := wd b8.2.2.2.1 b8.2.2.2.2 (n := 2) (by omega)
 have c1 := wd v0 v1 (n := 512) (by omega)
 have c2 := wd c1.2.2.2.1 c1.2.2.2.2 (n := 2) (by omega)
 have hq := wd a2.2.2.2.1 a2.2.2.2.2 (n := n - 1) (by omega)
 have hb:0 ≤ (w.tmod n + 1 + (w.tdiv 128).tmod (n - 1)).tmod n ∧ (w.tmod n + 1 + (w.tdiv 128).tmod (n - 1)).tmod n < n ∧ w.tmod n ≠ (w.tmod n + 1 + (w.tdiv 128).tmod (n - 1)).tmod n := by
  generalize w.tmod n = s at *
  generalize (w.tdiv 128).tmod (n - 1) = q at *
  rw [Int.tmod_eq_emod_of_nonneg (by omega)]
  rcases (by omega:n = 2 ∨ n = 3 ∨ n = 4) with rfl | rfl | rfl <;> omega
 have e1:(dTrd n w v).shares = 1 + (w.tdiv 4).tmod 20 := rfl
 unfold okTr
 rw [Bool.and_eq_true,Bool.and_eq_true]
 refine ⟨⟨decide_eq_true ⟨a1.1,a1.2.1,hb.1,hb.2.1,hb.2.2,by rw [e1]; omega,by rw [e1]; omega⟩,decide_eq_true ?_⟩,decide_eq_true ?_⟩
 ·have m1:(dTrd n w v).sold = ⟨max2 0 (v.tmod 12 - (v.tdiv 64).tmod 2),min2 11 (v.tmod 12 + (v.tdiv 128).tmod 2)⟩ := rfl
  rw [m1]
  simp only [max2,min2]; split <;> split <;> omega
 ·have m1:(dTrd n w v).deliv = ⟨max2 0 (min2 11 (v.tmod 12 + (v.tdiv 16).tmod 4) - (v.tdiv 256).tmod 2),min2 11 (min2 11 (v.tmod 12 + (v.tdiv 16).tmod 4) + (v.tdiv 512).tmod 2)⟩ := rfl
  rw [m1]
  have hm:0 ≤ min2 11 (v.tmod 12 + (v.tdiv 16).tmod 4) ∧ min2 11 (v.tmod 12 + (v.tdiv 16).tmod 4) ≤ 11 := by unfold min2; split <;> omega
  generalize min2 11 (v.tmod 12 + (v.tdiv 16).tmod 4) = q at hm
  simp only [max2,min2]; split <;> split <;> omega
theorem begun_ok {hl:List Int} (h:begunB hl = true):1 ≤ hl.length ∧ hl.length ≤ 4 ∧ hl.all (Rng.has ⟨0,100⟩) = true := by
 simp only [begunB,Bool.and_eq_true,beq_iff_eq] at h
 have := fault_ok h.2
 simp only at this
 exact ⟨by omega,by omega,this.2.1⟩
theorem base_ok {hl ws:List Int} (h:begunB hl = true) (hw:isWords ws):faultM (base hl ws) = 0 := by
 have hb := begun_ok h
 have hwi := word_in hw 0 (by omega)
 have s1 := splK_ok hw (splN ws)
 have n1 := wd hwi.1 hwi.2 (n := 3) (by omega)
 have n2 := wd hwi.1 hwi.2 (n := 4) (by omega)
 have n3 := wd n2.2.2.2.1 n2.2.2.2.2 (n := 3) (by omega)
 have n4 := wd hwi.1 hwi.2 (n := 16) (by omega)
 have n5 := wd n4.2.2.2.1 n4.2.2.2.2 (n := 3) (by omega)
 refine fault_of (c := base hl ws) ⟨?_, ?_,rfl, ?_, ?_, ?_, ?_⟩ hb.2.2 rfl ?_ s1.2.2.1 ?_
 ·show (1:Int) ≤ (hl.length:Int); omega
 ·show (hl.length:Int) ≤ 4; omega
 ·show 0 ≤ 4; omega
 ·show (divK ws (divN ws)).length ≤ 3; rw [divK_len,divN]; omega
 ·have := s1.2.2.2.2
  show (splK ws (splN ws)).2.length ≤ 2
  have e:splN ws ≤ 2 := by rw [splN]; omega
  omega
 ·show (cloK ws (cloN ws)).length ≤ 2; rw [cloK_len,cloN]; omega
 ·show (divK ws (divN ws)).all okDv = true
  simp only [divK,List.all_map,List.all_eq_true]
  intro i _
  have := word_in hw ((i:Int) + 5) (by omega)
  exact divD_ok this.1 this.2
 ·show (cloK ws (cloN ws)).all Rng.days = true
  simp only [cloK,List.all_map,List.all_eq_true]
  intro i _
  have := word_in hw ((i:Int) + 3) (by omega)
  exact cloR_ok this.1 this.2
theorem fault_more {c:Cmp} {x:Trd} (hf:faultM c = 0) (hl:c.trades.length ≤ 3) (hx:okTr c.houses x = true):faultM (c.more x) = 0 := by
 have h := fault_ok hf
 refine fault_of (c := c.more x) ⟨h.1.1,h.1.2.1,h.1.2.2.1, ?_,h.1.2.2.2.2⟩ h.2.1 ?_ h.2.2.2.1 h.2.2.2.2.1 h.2.2.2.2.2
 ·show (c.trades ++ [x]).length ≤ 4; simp; omega
 ·show (c.trades ++ [x]).all (okTr c.houses) = true
  rw [List.all_append,h.2.2.1]; simp [hx]
structure DealOk (hl ws:List Int) (k:Nat) (c:Cmp) (t:Tru):Prop where
 fault:faultM c = 0
 truth:truthB c t = true
 held:c.held = hl
 divs:c.divs = divK ws (divN ws)
 splits:c.splits = (splK ws (splN ws)).2
 closed:c.closed = cloK ws (cloN ws)
 len:c.trades.length ≤ k
theorem dealK_ok {hl ws:List Int} (h:begunB hl = true) (hw:isWords ws):∀ k,k ≤ 4 → (k = 0 ∨ 1 < hl.length) → DealOk hl ws k (dealK hl ws k).1 (dealK hl ws k).2
 | 0,_,_ => by
  have hf := base_ok h hw
  refine ⟨hf, ?_,rfl,rfl,rfl,rfl,Nat.zero_le _⟩
  have h1:datedB (base hl ws) ⟨[],[]⟩ = true := decide_eq_true ⟨rfl,rfl,fun k hk => by simp [base] at hk⟩
  have h2:fitsB (base hl ws) ⟨[],[]⟩ = true := by
   simp only [fitsB,decide_eq_true_eq]
   intro j _ i _
   exact (heldA_in hf (j:Nat) _ (Nat.le_refl _) i).1
  simp [dealK,truthB,h1,h2]
 | k + 1,hk,hn => by
  have ih := dealK_ok h hw k (by omega) (.inr (by omega))
  rw [dealK]
  split
  ·rename_i ht
   have hw1 := word_in hw (2 * (k:Int) + 8) (by omega)
   have hw2 := word_in hw (2 * (k:Int) + 9) (by omega)
   have hb := begun_ok h
   have hs:(dealK hl ws k).1.houses = (hl.length:Int) := by rw [← (fault_ok ih.fault).1.2.2.1,ih.held]
   refine ⟨fault_more ih.fault (by have := ih.len; omega) ?_,ht,ih.held,ih.divs,ih.splits,ih.closed, ?_⟩
   ·rw [hs]
    exact dTrd_ok (by omega) (by omega) hw1.1 hw1.2 hw2.1 hw2.2
   ·show ((dealK hl ws k).1.trades ++ [_]).length ≤ k + 1
    have := ih.len
    simp; omega
  ·exact ⟨ih.fault,ih.truth,ih.held,ih.divs,ih.splits,ih.closed,by have := ih.len; omega⟩
theorem dealN_le (hl:List Int) (m:Int) (h0:0 ≤ m) (h1:m ≤ 255):dealN hl m ≤ 4 ∧ (dealN hl m = 0 ∨ 1 < hl.length) := by
 unfold dealN
 have := wd h0 (by omega) (n := 5) (by omega)
 split
 ·exact ⟨by omega,.inr (by assumption)⟩
 ·exact ⟨by omega,.inl rfl⟩
theorem dealt_ok {hl ws:List Int} {m:Int} (h:begunB hl = true) (hw:isWords ws) (h0:0 ≤ m) (h1:m ≤ 255):DealOk hl ws 4 (dealt hl ws m).1 (dealt hl ws m).2 := by
 have hn := dealN_le hl m h0 h1
 have := dealK_ok h hw (dealN hl m) hn.1 hn.2
 exact ⟨this.fault,this.truth,this.held,this.divs,this.splits,this.closed,Nat.le_trans this.len hn.1⟩
end
end Go.Proofs.Ytdnefcjbcieecaa
namespace Go.Proofs.Ytdnefcjbcieecaa
open Go Go.Proofs
noncomputable section
def X111:Sx := { sp := spNil,md := fun t => bif Nat.beq t 7 then 1 else 0,sh := shI }
theorem X111_ok:SpOk Try.prog X111.sp := spNil_ok _
def H9 (c:Cmp) (km:List (Int × Int × Int)) (b2 b3 b4 b5 b7 b8:Option Blk):Heap := Wk c km [b2,b3,b4,b5,Wc,b7,b8]
theorem w111 (c:Cmp) (km:List (Int × Int × Int)) (b2 b3 b4 b5 b7 b8:Option Blk):sx X111 c111 [] (doneK r111) (envOf [.yl 7,.ptr 6 0 0]) [] (H9 c km b2 b3 b4 b5 b7 b8) =
  let y0_ := [V.ptr 6 0 0,V.ptr 10 0 0,V.ptr 9 0 0,V.ptr 11 0 0]
  Tr.clB false (V.fn (Fn.func 112) [] y0_) [V.d (D.int .i64 0)] [some (Blk.map (List.map entE km)),some (Blk.box [V.d (D.int .i64 (Cmp.houses c)),V.d (D.sl false (List.length (Cmp.held c)) (enc eI (Cmp.held c))),V.d (D.sl false (List.length (Cmp.trades c)) (enc eT (Cmp.trades c))),V.d (D.sl false (List.length (Cmp.divs c)) (enc eV (Cmp.divs c))),V.d (D.sl false (List.length (Cmp.splits c)) (enc eS (Cmp.splits c))),V.d (D.sl false (List.length (Cmp.closed c)) (enc eR (Cmp.closed c))),V.mp 0]),b2,b3,b4,b5,some (Blk.box [V.ptr 1 0 0]),b7,b8,some (Blk.box [V.yl 7]),some (Blk.box [V.d D.nils,V.d D.nils]),some (Blk.box [V.fn (Fn.func 112) [] y0_])] fun b h' => Tr.done (V.tup []) h' := by kernel_rfl
theorem w95 (c:Cmp) (km:List (Int × Int × Int)) (b2 b3 b4 b5:Option Blk):sx X111 c95 [] (doneK r95) (envOf [.ptr 1 0 0]) [] (Wk c km [b2,b3,b4,b5]) =
  Tr.done (V.fn (Fn.func 111) [] [V.ptr 6 0 0]) [some (Blk.map (List.map entE km)),some (Blk.box [V.d (D.int .i64 (Cmp.houses c)),V.d (D.sl false (List.length (Cmp.held c)) (enc eI (Cmp.held c))),V.d (D.sl false (List.length (Cmp.trades c)) (enc eT (Cmp.trades c))),V.d (D.sl false (List.length (Cmp.divs c)) (enc eV (Cmp.divs c))),V.d (D.sl false (List.length (Cmp.splits c)) (enc eS (Cmp.splits c))),V.d (D.sl false (List.length (Cmp.closed c)) (enc eR (Cmp.closed c))),V.mp 0]),b2,b3,b4,b5,some (Blk.box [V.ptr 1 0 0])] := by kernel_rfl
theorem ACalls.le {P:Program} {f:FuncId} {vs:List V} {h h' : Heap} {R:V → Heap → Prop} (hst:StLe h.length 0 [] h [] h') (hl:h.length ≤ h'.length) (hc:ACalls P f vs h' R):ACalls P f vs h R := by
 refine ⟨hc.1,fun M w args hm hs hu => ?_⟩
 obtain ⟨M1,p1,_⟩ := hst M w ⟨#[],[]⟩ hs (Nat.le_refl _) ⟨rfl,DefOk.nil _,fun k => .any _⟩
 refine (hc.2 M1 w args (p1.cc hm) p1.sim (hu.mono p1.ro p1.le)).mono fun e w' hq => ?_
 obtain ⟨cv,v,h2,M2,e1,p2,hv,hr⟩ := hq
 exact ⟨cv,v,h2,M2,e1,p1.trans (p2.mono hl),hv,hr⟩
section
variable {S:Type} {K:Cons S} (hK:K.Ok)
def Cons.H9 {S:Type} (K:Cons S) (km:List (Int × Int × Int)) (s:S):Heap := Wk K.c km [K.b2 s,K.b3 s,K.b4 s,K.b5 s,Wc,K.b7 s,K.b8 s]
include hK
theorem a111 {s:S} {km:List (Int × Int × Int)} (hA:K.A true s) (hkm:kmOk K.c km) :
  ACalls Try.prog 111 [.yl 7,.ptr 6 0 0] (K.H9 km s) fun _ h => K.A (runY K.stepZ (comp K.c K.c.trades ⟨[],[]⟩) (km,s)).1 (runY K.stepZ (comp K.c K.c.trades ⟨[],[]⟩) (km,s)).2.2 ∧ kmOk K.c (runY K.stepZ (comp K.c K.c.trades ⟨[],[]⟩) (km,s)).2.1 ∧
   ∃ J,h = K.H9 (runY K.stepZ (comp K.c K.c.trades ⟨[],[]⟩) (km,s)).2.1 (runY K.stepZ (comp K.c K.c.trades ⟨[],[]⟩) (km,s)).2.2 ++ J := by
 refine q111.calls X111_ok rfl (w111 K.c km _ _ _ _ _ _) ?_
 simp only [holds]
 have hc := a112 hK K.c.trades.length 0 ⟨[],[]⟩ s km (by omega) rfl rfl (fun j hj => by omega) hA hkm
 rw [List.drop_zero] at hc
 generalize runY K.stepZ (comp K.c K.c.trades ⟨[],[]⟩) (km,s) = r at hc ⊢
 refine callV_holds (K := K.P r) ?_ (ACalls.le (h' := K.H km s ⟨[],[]⟩ []) ?_ (Nat.le_refl _) hc)
 ·rintro v h' ⟨rfl,hA',hkm',t',J,rfl⟩
  exact ⟨r.1,rfl,fun e => (by cases e),hA',hkm',_,rfl⟩
 ·exact StLe.cells (id := 10) (cs := [.d .nils,.d .nils]) (cs' := [.d (.sl false 0 []),.d (.sl false 0 [])]) rfl (.cons .nilsF (.cons .nilsF .nil))
theorem rangeF_truths {G:Cfg} {n:Nat} {g:Operand} {ps:List Nat} {ca cb:CCode} {Q:CExit → Env → Heap → Prop} {env:Env} {s:S} {km:List (Int × Int × Int)} (x2 x3 x4 x5:Option Blk) (hA:K.A true s) (hkm:kmOk K.c km)
  (hg:opnd env g = .fn (.func 111) [] [.ptr 6 0 0]) (hst:StLe 8 0 [] (Wk K.c km [x2,x3,x4,x5,Wc,some (.loop ⟨G,ca,cb,ps,env,.ready,none⟩)]) [] (K.H9 km s))
  (hL:∀ b s,K.A b s → ∃ st pe,K.b7 s = some (.loop ⟨G,ca,cb,ps,env,st,pe⟩) ∧ st ≠ .busy)
  (hq:∀ b s' km' J st pe,(b,km',s') = runY K.stepZ (comp K.c K.c.trades ⟨[],[]⟩) (km,s) → K.A b s' → kmOk K.c km' → K.b7 s' = some (.loop ⟨G,ca,cb,ps,env,st,pe⟩) →
   Q (pe.getD .normal) env (Wk K.c km' (K.b2 s' :: K.b3 s' :: K.b4 s' :: K.b5 s' :: Wc :: none :: K.b8 s' :: J))) :
  wpc Try.prog G n (.rangeF g ps ca cb) Q env (Wk K.c km [x2,x3,x4,x5,Wc]) := by
 show callF Try.prog (opnd env g) [.yl 7] (Wk K.c km [x2,x3,x4,x5,Wc,some (.loop ⟨G,ca,cb,ps,env,.ready,none⟩)]) fun _ h' => doneR 7 env h' Q
 rw [hg]
 refine ACalls.le (h' := K.H9 km s) hst (show 8 ≤ 9 by decide) (ACalls.mono (a111 hK hA hkm) ?_)
 rintro v h' ⟨hA',hkm',J,rfl⟩
 obtain ⟨st,pe,e8,hst⟩ := hL _ _ hA'
 have := hq _ _ _ J st pe rfl hA' hkm' e8
 unfold doneR
 have e9:(K.H9 (runY K.stepZ (comp K.c K.c.trades ⟨[],[]⟩) (km,s)).2.1 (runY K.stepZ (comp K.c K.c.trades ⟨[],[]⟩) (km,s)).2.2 ++ J)[7]? = some (some (.loop ⟨G,ca,cb,ps,env,st,pe⟩)) := by
  rw [← e8]; rfl
 rw [e9]
 exact ⟨hst,this⟩
end
theorem a95 (c:Cmp) (km:List (Int × Int × Int)) (b2 b3 b4 b5:Option Blk):ACalls Try.prog 95 [.ptr 1 0 0] (Wk c km [b2,b3,b4,b5]) fun v h => v = .fn (.func 111) [] [.ptr 6 0 0] ∧ h = Wk c km [b2,b3,b4,b5,Wc] := by
 refine q95.calls X111_ok rfl (w95 c km b2 b3 b4 b5) ?_
 exact ⟨rfl,rfl⟩
end
end Go.Proofs.Ytdnefcjbcieecaa
namespace Go.Proofs.Ytdnefcjbcieecaa
open Go Go.Proofs
noncomputable section
theorem fin_W3 (c:Cmp) (km:List (Int × Int × Int)) (n:Nat) (ds:List D):finX 2 (.own 3 n n) (Wk c km [none,some (.row 3 1 n ds)]) = (.d (.sl false n ds),Wk c km []) := by
 have hW := Wk_bel c km 2 (by decide)
 simp [finX,rowsIn,rowsIn1,rowIn,frzRows,frzB,blkDs,fzV,fz2,fz1,Wk,bel2,bel1,bel0] at hW ⊢
 exact hW
def OfIs (g:Nat) (M:Cmp → Tru → Dvd → List Int):Prop := ∀ (c:Cmp) (t:Tru) (d:Dvd) (km:List (Int × Int × Int)),faultM c = 0 → datedB c t = true → okDv d = true → kmOk c km →
 ∃ km',kmOk c km' ∧ ∀ rest,ACalls Try.prog g [.ptr 1 0 0,Uv t,Dv d] (Wk c km rest) fun v h => v = vsl eI (M c t d) ∧ h = Wk c km' rest
theorem of64:OfIs 64 paidM := by
 intro c t d km hf hd hv hkm
 refine ⟨_,kmT_ok hkm t d.record c.trades.length,fun rest => more_W rfl rfl ?_ rest⟩
 refine ACalls.fin ((a64 c t d km hf hd hv hkm).mono ?_)
 rintro v h' ⟨rfl,rfl⟩
 have e2:(Wk c km []).length = 2 := rfl
 rw [e2,fin_W3]
 exact ⟨rfl,[],rfl⟩
theorem of66:OfIs 66 claimsM := by
 intro c t d km hf hd hv hkm
 exact ⟨_,kmC_ok hkm t d c.trades.length,fun rest => more_W rfl rfl (a66f c t d km hf hd hv hkm) rest⟩
theorem of67:OfIs 67 rightsM := by
 intro c t d km hf hd hv hkm
 refine ⟨_,kmC_ok (kmT_ok hkm t d.record c.trades.length) t d c.trades.length,fun rest => more_W rfl rfl ?_ rest⟩
 refine ACalls.fin ((a67 c t d km hf hd hv hkm).mono ?_)
 rintro v h' ⟨rfl,rfl⟩
 have e2:(Wk c km []).length = 2 := rfl
 rw [e2,fin_W3]
 refine ⟨?_,[],rfl⟩
 unfold vsl dsl
 rw [rightsM_len]
theorem q73:FunIs Try.prog 73 G73 c73 r73 := ⟨Try.f73,Try.func73,k73,e73,by kernel_rfl,by kernel_rfl⟩
def ent95At (c:Cmp) (km:List (Int × Int × Int)) (b2 b3 b4 b5:Option Blk):Ent := fun args h => some (args = [.ptr 1 0 0] ∧ h = Wk c km [b2,b3,b4,b5],.fn (.func 111) [] [.ptr 6 0 0],some (Wk c km [b2,b3,b4,b5,Wc]))
theorem ent95At_ok (c:Cmp) (km:List (Int × Int × Int)) (b2 b3 b4 b5:Option Blk):EntOk Try.prog 95 (ent95At c km b2 b3 b4 b5) := by
 intro args h p v ho he hp
 cases he
 obtain ⟨rfl,rfl⟩ := hp
 exact a95 c km b2 b3 b4 b5
def sp73 (g:Nat) (c:Cmp) (t:Tru) (d:Dvd) (km km2:List (Int × Int × Int)) (rest:Heap) (l:List Int):Spec := fun f args h => match args with
 | [_,_,_] => some (f = g ∧ args = [.ptr 1 0 0,Uv t,Dv d] ∧ h = Wk c km rest ∧ ACalls Try.prog g [.ptr 1 0 0,Uv t,Dv d] (Wk c km rest) fun v h => v = vsl eI l ∧ h = Wk c km2 rest,vsl eI l,some (Wk c km2 rest))
 | [x] => match ent96 [x] h with
  | some (p,v,ho) => some (f = 96 ∧ p,v,ho)
  | none => none
 | _ => none
theorem sp73_ok (g:Nat) (c:Cmp) (t:Tru) (d:Dvd) (km km2:List (Int × Int × Int)) (rest:Heap) (l:List Int):SpOk Try.prog (sp73 g c t d km km2 rest l) := by
 intro f args h p v ho he hp
 unfold sp73 at he
 split at he
 ·cases he
  obtain ⟨rfl,h1,rfl,h2⟩ := hp
  rw [h1]; exact h2
 ·split at he
  ·rename_i q v' ho' e
   cases he
   obtain ⟨rfl,h1⟩ := hp
   exact ent96_ok _ _ _ _ _ e h1
  ·cases he
 ·cases he
def XA (c:Cmp) (km:List (Int × Int × Int)) (b2 b3 b4 b5:Option Blk):Sx := mkX (spAdd 95 (ent95At c km b2 b3 b4 b5) spNil)
def XQ (g:Nat) (c:Cmp) (t:Tru) (d:Dvd) (km km2:List (Int × Int × Int)) (rest:Heap) (l:List Int):Sx := mkX (sp73 g c t d km km2 rest l)
def B3:Option Blk := some (.box [.ptr 1 0 0])
theorem w73a (c:Cmp) (km:List (Int × Int × Int)) (b2:Option Blk) (g:Nat) (d:Dvd):sx (mkX spNil) (CCode.at c73 [0]) [] leafK (envOf [.ptr 1 0 0,.agg [.d (.fn (.func g))],Dv d]) [] (Wk c km [b2]) =
  Tr.leaf CExit.normal [(3,V.ptr 3 0 0),(4,V.rptr [D.fn (Fn.func g)] (0)),(5,V.rptr [D.int .i64 (Dvd.ex d),D.int .i64 (Dvd.record d),D.int .i64 (Dvd.pence d)] (0)),(6,V.ptr 4 0 0),(7,V.ptr 5 0 0),(13,V.any)] [some (Blk.map (List.map entE km)),some (Blk.box [V.d (D.int .i64 (Cmp.houses c)),V.d (D.sl false (List.length (Cmp.held c)) (enc eI (Cmp.held c))),V.d (D.sl false (List.length (Cmp.trades c)) (enc eT (Cmp.trades c))),V.d (D.sl false (List.length (Cmp.divs c)) (enc eV (Cmp.divs c))),V.d (D.sl false (List.length (Cmp.splits c)) (enc eS (Cmp.splits c))),V.d (D.sl false (List.length (Cmp.closed c)) (enc eR (Cmp.closed c))),V.mp 0]),b2,some (Blk.box [V.ptr 1 0 0]),some (Blk.box [V.d D.nils]),some (Blk.box [V.d (D.bool false)])] := by kernel_rfl
theorem w73b (c:Cmp) (km:List (Int × Int × Int)) (b2 b4 b5:Option Blk) (g:Nat) (d:Dvd):sx (XA c km b2 B3 b4 b5) (CCode.at c73 [1,0,0]) [] leafK [(3,.ptr 3 0 0),(4,.rptr [.fn (.func g)] 0),(5,.rptr [.int .i64 d.ex,.int .i64 d.record,.int .i64 d.pence] 0),(6,.ptr 4 0 0),(7,.ptr 5 0 0),(13,.any)] [] (Wk c km [b2,B3,b4,b5]) =
  Tr.need ([V.ptr 1 0 0] = [V.ptr 1 0 0] ∧ Wk c km [b2,B3,b4,b5] = Wk c km [b2,B3,b4,b5]) (Tr.leaf CExit.normal [(3,V.ptr 3 0 0),(4,V.rptr [D.fn (Fn.func g)] (0)),(5,V.rptr [D.int .i64 (Dvd.ex d),D.int .i64 (Dvd.record d),D.int .i64 (Dvd.pence d)] (0)),(6,V.ptr 4 0 0),(7,V.ptr 5 0 0),(12,V.fn (Fn.func 111) [] [V.ptr 6 0 0]),(13,V.any)] [some (Blk.map (List.map entE km)),some (Blk.box [V.d (D.int .i64 (Cmp.houses c)),V.d (D.sl false (List.length (Cmp.held c)) (enc eI (Cmp.held c))),V.d (D.sl false (List.length (Cmp.trades c)) (enc eT (Cmp.trades c))),V.d (D.sl false (List.length (Cmp.divs c)) (enc eV (Cmp.divs c))),V.d (D.sl false (List.length (Cmp.splits c)) (enc eS (Cmp.splits c))),V.d (D.sl false (List.length (Cmp.closed c)) (enc eR (Cmp.closed c))),V.mp 0]),b2,some (Blk.box [V.ptr 1 0 0]),b4,b5,some (Blk.box [V.ptr 1 0 0])]) := by kernel_rfl
def E73 (g:Nat) (d:Dvd):Env := [(3,.ptr 3 0 0),(4,.rptr [.fn (.func g)] 0),(5,.rptr [.int .i64 d.ex,.int .i64 d.record,.int .i64 d.pence] 0),(6,.ptr 4 0 0),(7,.ptr 5 0 0),(12,.fn (.func 111) [] [.ptr 6 0 0]),(13,.any)]
def Tb (t:Tru):Option Blk := some (.box [.d (.sl false t.sold.length (enc eI t.sold)),.d (.sl false t.deliv.length (enc eI t.deliv))])
def R73 (b2 b7:Option Blk) (t:Tru) (z:Bool) (rl:List Rng) (n gen:Nat) (rest:Heap):Heap := b2 :: B3 :: some (.box [.own 8 gen n]) :: some (.box [vb z]) :: Wc :: b7 :: some (.row 71 2 gen (enc eR rl)) :: Yb :: Tb t :: Cb :: rest
theorem a73 (c:Cmp) (km:List (Int × Int × Int)) (b2 b7:Option Blk) (t:Tru) (z:Bool) (rl:List Rng) (n gen:Nat) (g:Nat) (d:Dvd):sx (mkX spNil) (CCode.at c73 [1,0,1,0,0]) [] leafK ((13,Uv t) :: E73 g d) [] (Wk c km (R73 b2 b7 t z rl n gen [])) =
  let y0_ := (Blk.box [V.d (D.sl false (List.length (Tru.sold t)) (enc eI (Tru.sold t))),V.d (D.sl false (List.length (Tru.deliv t)) (enc eI (Tru.deliv t)))])
  Tr.leaf CExit.normal [(3,V.ptr 3 0 0),(4,V.rptr [D.fn (Fn.func g)] (0)),(5,V.rptr [D.int .i64 (Dvd.ex d),D.int .i64 (Dvd.record d),D.int .i64 (Dvd.pence d)] (0)),(6,V.ptr 4 0 0),(7,V.ptr 5 0 0),(8,V.ptr 12 0 0)] [some (Blk.map (List.map entE km)),some (Blk.box [V.d (D.int .i64 (Cmp.houses c)),V.d (D.sl false (List.length (Cmp.held c)) (enc eI (Cmp.held c))),V.d (D.sl false (List.length (Cmp.trades c)) (enc eT (Cmp.trades c))),V.d (D.sl false (List.length (Cmp.divs c)) (enc eV (Cmp.divs c))),V.d (D.sl false (List.length (Cmp.splits c)) (enc eS (Cmp.splits c))),V.d (D.sl false (List.length (Cmp.closed c)) (enc eR (Cmp.closed c))),V.mp 0]),b2,some (Blk.box [V.ptr 1 0 0]),some (Blk.box [V.own 8 gen n]),some (Blk.box [V.d (D.bool z)]),some (Blk.box [V.ptr 1 0 0]),b7,some (Blk.row 71 2 gen (enc eR rl)),some (Blk.box [V.yl 7]),some y0_,some (Blk.box [V.fn (Fn.func 112) [] [V.ptr 6 0 0,V.ptr 10 0 0,V.ptr 9 0 0,V.ptr 11 0 0]]),some y0_] := by kernel_rfl
def Ec73 (g:Nat) (d:Dvd):Env := [(3,.ptr 3 0 0),(4,.rptr [.fn (.func g)] 0),(5,.rptr [.int .i64 d.ex,.int .i64 d.record,.int .i64 d.pence] 0),(6,.ptr 4 0 0),(7,.ptr 5 0 0),(8,.ptr 12 0 0)]
theorem c73w (c:Cmp) (km km2:List (Int × Int × Int)) (b2 b7:Option Blk) (t:Tru) (z:Bool) (rl:List Rng) (n gen:Nat) (g:Nat) (d:Dvd) (l:List Int):sx (XQ g c t d km km2 (R73 b2 b7 t z rl n gen [Tb t]) l) (CCode.at c73 [1,0,1,0,1]) [] leafK (Ec73 g d) [] (Wk c km (R73 b2 b7 t z rl n gen [Tb t])) =
  let y0_ := (Blk.box [V.d (D.sl false (List.length (Tru.sold t)) (enc eI (Tru.sold t))),V.d (D.sl false (List.length (Tru.deliv t)) (enc eI (Tru.deliv t)))])
  let y1_ := (R73 b2 b7 t z rl n gen [Tb t])
  Tr.need (g = g ∧ [V.ptr 1 0 0,Uv t,V.agg [V.d (D.int .i64 (Dvd.ex d)),V.d (D.int .i64 (Dvd.record d)),V.d (D.int .i64 (Dvd.pence d))]] = [V.ptr 1 0 0,Uv t,Dv d] ∧ Wk c km y1_ = Wk c km y1_ ∧ ACalls Try.prog g [V.ptr 1 0 0,Uv t,Dv d] (Wk c km y1_) fun v h => v = vsl eI l ∧ h = Wk c km2 y1_) (Tr.lp (CCode.at c73 [1,0,1,0,1,0,0,1,0,0]) [Fr.blk 2,Fr.seq (CCode.at c73 [1,0,1,0,1,0,1]),Fr.blk 1] [(6,V.ptr 4 0 0),(7,V.ptr 5 0 0),(19,V.d (D.sl false (List.length l) (enc eI l))),(20,V.d (D.int .i64 (Int.ofNat (List.length l)))),(21,V.d (D.int .i64 0))] [some (Blk.map (List.map entE km2)),some (Blk.box [V.d (D.int .i64 (Cmp.houses c)),V.d (D.sl false (List.length (Cmp.held c)) (enc eI (Cmp.held c))),V.d (D.sl false (List.length (Cmp.trades c)) (enc eT (Cmp.trades c))),V.d (D.sl false (List.length (Cmp.divs c)) (enc eV (Cmp.divs c))),V.d (D.sl false (List.length (Cmp.splits c)) (enc eS (Cmp.splits c))),V.d (D.sl false (List.length (Cmp.closed c)) (enc eR (Cmp.closed c))),V.mp 0]),b2,some (Blk.box [V.ptr 1 0 0]),some (Blk.box [V.own 8 gen n]),some (Blk.box [V.d (D.bool z)]),some (Blk.box [V.ptr 1 0 0]),b7,some (Blk.row 71 2 gen (enc eR rl)),some (Blk.box [V.yl 7]),some y0_,some (Blk.box [V.fn (Fn.func 112) [] [V.ptr 6 0 0,V.ptr 10 0 0,V.ptr 9 0 0,V.ptr 11 0 0]]),some y0_]) := by kernel_rfl
def El73 (l:List Int) (k:Nat):Env := [(6,.ptr 4 0 0),(7,.ptr 5 0 0),(19,vsl eI l),(20,vi l.length),(21,vi k)]
theorem b73 (c:Cmp) (km:List (Int × Int × Int)) (b2 b7:Option Blk) (t:Tru) (z:Bool) (rl:List Rng) (n gen:Nat) (l:List Int) (k:Nat) (d:Dvd):sx (XQ 0 c t d km km [] []) (CCode.at c73 [1,0,1,0,1,0,0,1,0,0]) [] leafK (El73 l k) [] (Wk c km (R73 b2 b7 t z rl n gen [Tb t])) =
  let y2_ := (List.length l)
  let x1_ := (decide (Int.ofNat k < Int.ofNat y2_))
  let x2_ := (cI (enc eI l) 1 (Int.ofNat k) 0)
  let x3_ := [D.int .i64 x2_,D.int .i64 x2_]
  let y1_ := (enc eR rl ++ x3_)
  let x4_ := (((0:Int) ≤ Int.ofNat k ∧ Int.ofNat k < Int.ofNat (n + 1)) ∧ Nat.add gen 1 = Nat.add gen 1 ∧ Int.toNat (Int.ofNat k) * 2 + 2 ≤ List.length y1_)
  let x5_ := (Int.toNat (Int.ofNat k) * 2)
  let x6_ := (dI y1_ (Nat.add x5_ 0))
  let x7_ := (dI y1_ (Nat.add x5_ 1))
  let x8_ := [D.int .i64 x6_,D.int .i64 x2_]
  let x9_ := (leastL (dec 1 gI 2 x8_))
  let x10_ := [V.d (D.int .i64 x9_),V.d (D.int .i64 (max2 x7_ x2_))]
  let x11_ := (-9223372036854775808 ≤ Int.ofNat k + (1:Int) ∧ Int.ofNat k + (1:Int) ≤ 9223372036854775807)
  let x12_ := (Blk.map (List.map entE km))
  let x13_ := (Blk.box [V.d (D.int .i64 (Cmp.houses c)),V.d (D.sl false (List.length (Cmp.held c)) (enc eI (Cmp.held c))),V.d (D.sl false (List.length (Cmp.trades c)) (enc eT (Cmp.trades c))),V.d (D.sl false (List.length (Cmp.divs c)) (enc eV (Cmp.divs c))),V.d (D.sl false (List.length (Cmp.splits c)) (enc eS (Cmp.splits c))),V.d (D.sl false (List.length (Cmp.closed c)) (enc eR (Cmp.closed c))),V.mp 0])
  let x14_ := (Blk.box [V.ptr 1 0 0])
  let x15_ := (Blk.box [V.d (D.bool z)])
  let x16_ := (Blk.box [V.d (D.sl false (List.length (Tru.sold t)) (enc eI (Tru.sold t))),V.d (D.sl false (List.length (Tru.deliv t)) (enc eI (Tru.deliv t)))])
  let x17_ := (Blk.box [V.fn (Fn.func 112) [] [V.ptr 6 0 0,V.ptr 10 0 0,V.ptr 9 0 0,V.ptr 11 0 0]])
  let x18_ := (((0:Int) ≤ Int.ofNat k ∧ Int.ofNat k < Int.ofNat n) ∧ gen = gen ∧ Int.toNat (Int.ofNat k) * 2 + 2 ≤ List.length (enc eR rl))
  let x19_ := (dI (enc eR rl) (Nat.add x5_ 0))
  let x20_ := (dI (enc eR rl) (Nat.add x5_ 1))
  let x21_ := [D.int .i64 x19_,D.int .i64 x2_]
  let x22_ := (leastL (dec 1 gI 2 x21_))
  let x23_ := [V.d (D.int .i64 x22_),V.d (D.int .i64 (max2 x20_ x2_))]
  let x24_ := (Blk.box [V.own 8 gen n])
  let y3_ := (20,V.d (D.int .i64 (Int.ofNat y2_)))
  let y4_ := (19,V.d (D.sl false y2_ (enc eI l)))
  let y0_ := [(6,V.ptr 4 0 0),(7,V.ptr 5 0 0),y4_,y3_,(21,V.d (D.int .i64 (Int.ofNat k + (1:Int))))]
  Tr.br x1_ (Tr.need ((0:Int) ≤ Int.ofNat k ∧ Int.ofNat k < Int.ofNat y2_ ∧ okEl [0] (enc eI l) 1 (Int.ofNat k)) (Tr.br (!z) (Tr.need (gen = gen ∧ 71 = 71 ∧ 2 = 2 ∧ List.length (enc eR rl) = n * 2 ∧ List.length x3_ = 1 * 2 ∧ n + 1 ≤ 140737488355328 ∧ (n + 1) * 16 ≤ 140737488355328) (Tr.need x4_ (Tr.need (Nat.add gen 1 = Nat.add gen 1 ∧ y1_[Nat.add x5_ 0]? = some (D.int .i64 x6_)) (Tr.need x4_ (Tr.need (Nat.add gen 1 = Nat.add gen 1 ∧ y1_[Nat.add x5_ 1]? = some (D.int .i64 x7_)) (Tr.need ((96:FuncId) = (96:FuncId) ∧ okL eI 1 gI 2 x8_ ∧ 0 < 2 ∧ 2 ≤ 1000000) (Tr.need x4_ (Tr.need (Nat.add gen 1 = Nat.add gen 1 ∧ Int.toNat (Int.ofNat k) * 2 + List.length x10_ ≤ List.length y1_ ∧ List.length x10_ = 2) (Tr.need x11_ (Tr.leaf CExit.normal y0_ [some x12_,some x13_,b2,some x14_,some (Blk.box [V.own 8 (Nat.add gen 1) (n + 1)]),some x15_,some x14_,b7,some (Blk.row 71 2 (Nat.add gen 1) (putAt y1_ x5_ [D.int .i64 x9_,D.int .i64 (max2 x7_ x2_)])),some (Blk.box [V.yl 7]),some x16_,some x17_,some x16_])))))))))) (Tr.need x18_ (Tr.need (gen = gen ∧ (enc eR rl)[Nat.add x5_ 0]? = some (D.int .i64 x19_)) (Tr.need x18_ (Tr.need (gen = gen ∧ (enc eR rl)[Nat.add x5_ 1]? = some (D.int .i64 x20_)) (Tr.need ((96:FuncId) = (96:FuncId) ∧ okL eI 1 gI 2 x21_ ∧ 0 < 2 ∧ 2 ≤ 1000000) (Tr.need x18_ (Tr.need (gen = gen ∧ Int.toNat (Int.ofNat k) * 2 + List.length x23_ ≤ List.length (enc eR rl) ∧ List.length x23_ = 2) (Tr.need x11_ (Tr.leaf CExit.normal y0_ [some x12_,some x13_,b2,some x14_,some x24_,some x15_,some x14_,b7,some (Blk.row 71 2 gen (putAt (enc eR rl) x5_ [D.int .i64 x22_,D.int .i64 (max2 x20_ x2_)])),some (Blk.box [V.yl 7]),some x16_,some x17_,some x16_]))))))))))) (Tr.leaf (CExit.exit 2) [(6,V.ptr 4 0 0),(7,V.ptr 5 0 0),y4_,y3_,(21,V.d (D.int .i64 (Int.ofNat k))),(22,V.d (D.bool x1_))] [some x12_,some x13_,b2,some x14_,some x24_,some x15_,some x14_,b7,some (Blk.row 71 2 gen (enc eR rl)),some (Blk.box [V.yl 7]),some x16_,some x17_,some x16_]) := by kernel_rfl
end
end Go.Proofs.Ytdnefcjbcieecaa
namespace Go.Proofs.Ytdnefcjbcieecaa
open Go Go.Proofs
noncomputable section
theorem put_R:∀ (l:List Rng) (k:Nat) (x:Rng),k < l.length → putAt (enc eR l) (k * 2) [D.int .i64 x.lo,D.int .i64 x.hi] = enc eR (l.set k x)
 | a :: l,0,x,_ => by simp [putAt,enc,eR]
 | a :: l,k + 1,x,h => by
  have ih := put_R l k x (by simpa using h)
  have e:(k + 1) * 2 = k * 2 + 1 + 1 := by omega
  have e2:∀ (y:Rng) (m:List Rng),enc eR (y :: m) = D.int .i64 y.lo :: D.int .i64 y.hi :: enc eR m := fun y m => rfl
  rw [List.set_cons_succ,e2,e2, ← ih,e]
  simp [putAt]
theorem get_R0 {l:List Rng} {k:Nat} (h:k < l.length):(enc eR l)[k * 2]? = some (D.int .i64 (lat l (k:Nat)).lo) := by
 have := enc_get (sz := 2) (f := eR) (fun _ => rfl) l k 0 (by decide)
 rw [Nat.add_zero] at this
 rw [this]
 simp [lat,List.getD,h,eR]
theorem get_R1 {l:List Rng} {k:Nat} (h:k < l.length):(enc eR l)[k * 2 + 1]? = some (D.int .i64 (lat l (k:Nat)).hi) := by
 rw [enc_get (sz := 2) (f := eR) (fun _ => rfl) l k 1 (by decide)]
 simp [lat,List.getD,h,eR]
theorem dI_R0 {l:List Rng} {k:Nat} (h:k < l.length):dI (enc eR l) (k * 2) = (lat l (k:Nat)).lo := by unfold dI; rw [get_R0 h]
theorem dI_R1 {l:List Rng} {k:Nat} (h:k < l.length):dI (enc eR l) (k * 2 + 1) = (lat l (k:Nat)).hi := by unfold dI; rw [get_R1 h]
def rK (z:Bool) (rl:List Rng) (l:List Int):Nat → List Rng
 | 0 => if z = true then rl else []
 | k + 1 => (if z = true then rK z rl l k else rK z rl l k ++ [⟨lat l (k:Nat),lat l (k:Nat)⟩]).set k
   ⟨leastL [(lat (if z = true then rK z rl l k else rK z rl l k ++ [⟨lat l (k:Nat),lat l (k:Nat)⟩]) (k:Nat)).lo,lat l (k:Nat)],
    max2 (lat (if z = true then rK z rl l k else rK z rl l k ++ [⟨lat l (k:Nat),lat l (k:Nat)⟩]) (k:Nat)).hi (lat l (k:Nat))⟩
theorem rK_len (z:Bool) (rl:List Rng) (l:List Int):∀ k,(rK z rl l k).length = if z = true then rl.length else k
 | 0 => by cases z <;> simp [rK]
 | k + 1 => by
  have ih := rK_len z rl l k
  cases z <;> simp [rK] at ih ⊢ <;> exact ih
def gK (z:Bool) (gen k:Nat):Nat := if z = true then gen else gen + k
theorem t73 (c:Cmp) (km:List (Int × Int × Int)) (b2 b7:Option Blk) (t:Tru) (z v:Bool) (rl:List Rng) (n gen:Nat) (k:Int) (l:V) (m:V) (rest:Heap):sS (mkX spNil) leafK [Fr.blk 2,Fr.seq (CCode.at c73 [1,0,1,0,1,0,1]),Fr.blk 1] (.exit 2) [(6,.ptr 4 0 0),(7,.ptr 5 0 0),(19,l),(20,m),(21,vi k),(22,vb v)] [] (Wk c km (R73 b2 b7 t z rl n gen rest)) =
  Tr.leaf CExit.normal [] (some (Blk.map (List.map entE km)) :: some (Blk.box [V.d (D.int .i64 (Cmp.houses c)),V.d (D.sl false (List.length (Cmp.held c)) (enc eI (Cmp.held c))),V.d (D.sl false (List.length (Cmp.trades c)) (enc eT (Cmp.trades c))),V.d (D.sl false (List.length (Cmp.divs c)) (enc eV (Cmp.divs c))),V.d (D.sl false (List.length (Cmp.splits c)) (enc eS (Cmp.splits c))),V.d (D.sl false (List.length (Cmp.closed c)) (enc eR (Cmp.closed c))),V.mp 0]) :: b2 :: some (Blk.box [V.ptr 1 0 0]) :: some (Blk.box [V.own 8 gen n]) :: some (Blk.box [V.d (D.bool true)]) :: some (Blk.box [V.ptr 1 0 0]) :: b7 :: some (Blk.row 71 2 gen (enc eR rl)) :: some (Blk.box [V.yl 7]) :: some (Blk.box [V.d (D.sl false (List.length (Tru.sold t)) (enc eI (Tru.sold t))),V.d (D.sl false (List.length (Tru.deliv t)) (enc eI (Tru.deliv t)))]) :: some (Blk.box [V.fn (Fn.func 112) [] [V.ptr 6 0 0,V.ptr 10 0 0,V.ptr 9 0 0,V.ptr 11 0 0]]) :: rest) := by kernel_rfl
theorem R73_bel (b2 b7:Option Blk) (t:Tru) (z:Bool) (rl:List Rng) (n gen m:Nat) (rest:Heap) (hm:12 ≤ m) (h2:blkBel m b2 = true) (h7:blkBel m b7 = true) (hr:rest.all (blkBel m) = true):(R73 b2 b7 t z rl n gen rest).all (blkBel m) = true := by
 have e:∀ k,k < 12 → Nat.blt k m = true := fun k hk => by rw [Nat.blt_eq]; omega
 simp only [R73,List.all_cons,h2,h7,hr,Bool.and_true,Bool.true_and]
 simp [B3,Wc,Yb,Tb,Cb,blkBel,bel1,belA,bel0,vb,e]
theorem l73 (c:Cmp) (km:List (Int × Int × Int)) (b2 b7:Option Blk) (t:Tru) (z:Bool) (rl:List Rng) (gen:Nat) (l:List Int) (n:Nat) (Q:CExit → Env → Heap → Prop) (h2:blkBel 13 b2 = true) (h7:blkBel 13 b7 = true) (hl:l.length ≤ 1000) (hz:z = true → rl.length = l.length) (hz2:z = false → rl = [])
  (hQ:∀ J,Q .normal [] (Wk c km (R73 b2 b7 t true (rK z rl l l.length) l.length (gK z gen l.length) J))) :
  lpS Try.prog G73 12 (CCode.at c73 [1,0,1,0,1,0,0,1,0,0]) [Fr.blk 2,Fr.seq (CCode.at c73 [1,0,1,0,1,0,1]),Fr.blk 1] Q (El73 l 0) (Wk c km (R73 b2 b7 t z rl rl.length gen [Tb t])) := by
 refine lp_count (sp73_ok 0 c t ⟨0,0,0⟩ km km [] []) (X := XQ 0 c t ⟨0,0,0⟩ km km [] []) l.length (fun _ => True) (El73 l) (fun k => Wk c km (R73 b2 b7 t z (rK z rl l k) (rK z rl l k).length (gK z gen k) [Tb t])) rfl ?_ trivial (fun k _ => ⟨rfl,rfl, ?_⟩) ?_
 ·cases z
  ·rw [hz2 rfl]; rfl
  ·rfl
 ·exact Wk_belr _ _ _ 13 (by decide) (R73_bel _ _ _ _ _ _ _ 13 _ (by decide) h2 h7 rfl)
 intro k hk _ Q' hn he hr
 rw [b73]
 have hlen := rK_len z rl l k
 have ed:∀ a b:Int,dec 1 gI 2 [D.int .i64 a,D.int .i64 b] = [a,b] := fun _ _ => rfl
 simp only [holds,Int.ofNat_eq_natCast,Int.toNat_natCast,cI_I,Nat.add_zero,Nat.add_eq,ed,true_and]
 refine ⟨fun e1 => ?_,fun e1 => ?_⟩
 ·have hlt:k < l.length := by have := of_decide_eq_true e1; omega
  have hn := hn [] hlt trivial
  refine ⟨⟨by omega,by omega,ok_I (by omega)⟩,fun hz0 => ?_,fun hz0 => ?_⟩
  ·have hz0:z = false := by simpa using hz0
   subst hz0
   have hlen:(rK false rl l k).length = k := hlen
   have er:enc eR (rK false rl l k) ++ [D.int .i64 (lat l (k:Nat)),D.int .i64 (lat l (k:Nat))] = enc eR (rK false rl l k ++ [⟨lat l (k:Nat),lat l (k:Nat)⟩]) := by rw [enc_append,enc_one]; rfl
   have hr2:k < (rK false rl l k ++ [⟨lat l (k:Nat),lat l (k:Nat)⟩]:List Rng).length := by simp [hlen]
   have hlr:(enc eR (rK false rl l k ++ [⟨lat l (k:Nat),lat l (k:Nat)⟩])).length = (k + 1) * 2 := by rw [enc_len (sz := 2) (f := eR) (fun _ => rfl)]; simp [hlen]
   simp only [rK,gK,Bool.false_eq_true,if_false] at hn
   generalize hr2d:rK false rl l k ++ [⟨lat l (k:Nat),lat l (k:Nat)⟩] = r2 at *
   have hput := put_R r2 k ⟨leastL [(lat r2 (k:Nat)).lo,lat l (k:Nat)],max2 (lat r2 (k:Nat)).hi (lat l (k:Nat))⟩ hr2
   have hlr2:r2.length = k + 1 := by rw [← hr2d]; simp [hlen]
   simp only at hput
   simp only [er,dI_R0 hr2,dI_R1 hr2,get_R0 hr2,get_R1 hr2,hput,hlr,hlen,List.length_cons,List.length_nil]
   simp only [List.length_set,hlr2] at hn
   have l1:(enc eR (rK false rl l k)).length = k * 2 := by rw [enc_len (sz := 2) (f := eR) (fun _ => rfl),hlen]
   exact ⟨⟨l1,trivial,by omega,by omega⟩,⟨⟨by omega,by omega⟩,by omega⟩,trivial,⟨⟨by omega,by omega⟩,by omega⟩,trivial,⟨⟨rfl,by decide⟩,by omega,by omega⟩,⟨⟨by omega,by omega⟩,by omega⟩,⟨by omega,trivial⟩,⟨by omega,by omega⟩,hn⟩
  ·have hz0:z = true := by simpa using hz0
   subst hz0
   have hlen:(rK true rl l k).length = l.length := hlen.trans (hz rfl)
   simp only [rK,gK,if_true] at hn
   have hr2:k < (rK true rl l k).length := by omega
   have hlr:(enc eR (rK true rl l k)).length = l.length * 2 := by rw [enc_len (sz := 2) (f := eR) (fun _ => rfl),hlen]
   generalize hr2d:rK true rl l k = r2 at *
   have hput := put_R r2 k ⟨leastL [(lat r2 (k:Nat)).lo,lat l (k:Nat)],max2 (lat r2 (k:Nat)).hi (lat l (k:Nat))⟩ hr2
   simp only at hput
   simp only [dI_R0 hr2,dI_R1 hr2,get_R0 hr2,get_R1 hr2,hput,hlr,hlen,List.length_cons,List.length_nil]
   simp only [List.length_set,hlen] at hn
   exact ⟨⟨⟨by omega,by omega⟩,by omega⟩,trivial,⟨⟨by omega,by omega⟩,by omega⟩,trivial,⟨⟨rfl,by decide⟩,by omega,by omega⟩,⟨⟨by omega,by omega⟩,by omega⟩,⟨by omega,trivial⟩,⟨by omega,by omega⟩,hn⟩
 ·have hge:k = l.length := by have := of_decide_eq_false e1; omega
  subst hge
  refine he _ _ _ (ret_tree (R := fun _ _ => True) (spNil_ok _) leafK_ok (t73 c km b2 b7 t z _ _ _ _ _ _ _ _) ?_)
  have e:(rK z rl l l.length).length = l.length := by
   rw [hlen]
   cases z
   ·rfl
   ·exact hz rfl
  rw [e]
  exact hQ [Tb t]
end
end Go.Proofs.Ytdnefcjbcieecaa
namespace Go.Proofs.Ytdnefcjbcieecaa
open Go Go.Proofs
noncomputable section
structure S73 where
 z:Bool
 rl:List Rng
 gen:Nat
def L73 (g:Nat) (d:Dvd) (st:LoopState):LoopB := ⟨G73,CCode.at c73 [1,0,1,0,0],CCode.at c73 [1,0,1,0,1],[13],E73 g d,st,none⟩
def kmOf (g:Nat) (M:Cmp → Tru → Dvd → List Int) (c:Cmp) (d:Dvd) (t:Tru) (km:List (Int × Int × Int)):List (Int × Int × Int) := open Classical in
 if h:∃ km',kmOk c km' ∧ ∀ rest,ACalls Try.prog g [.ptr 1 0 0,Uv t,Dv d] (Wk c km rest) fun v h => v = vsl eI (M c t d) ∧ h = Wk c km' rest then h.choose else km
theorem kmOf_ok {g:Nat} {M:Cmp → Tru → Dvd → List Int} (hOf:OfIs g M) {c:Cmp} {d:Dvd} {t:Tru} {km:List (Int × Int × Int)} (hf:faultM c = 0) (hdt:datedB c t = true) (hd:okDv d = true) (hkm:kmOk c km) :
  kmOk c (kmOf g M c d t km) ∧ ∀ rest,ACalls Try.prog g [.ptr 1 0 0,Uv t,Dv d] (Wk c km rest) fun v h => v = vsl eI (M c t d) ∧ h = Wk c (kmOf g M c d t km) rest := by
 have h := hOf c t d km hf hdt hd hkm
 unfold kmOf
 rw [dif_pos h]
 exact h.choose_spec
def K73 (c:Cmp) (g:Nat) (M:Cmp → Tru → Dvd → List Int) (N:Nat) (d:Dvd) (b2:Option Blk):Cons S73 where
 c := c
 step := fun t s => (true,⟨true,rK s.z s.rl (M c t d) (M c t d).length,gK s.z s.gen (M c t d).length⟩)
 A := fun _ s => (s.z = true → s.rl.length = N) ∧ (s.z = false → s.rl = [])
 b2 := fun _ => b2
 b3 := fun _ => B3
 b4 := fun s => some (.box [.own 8 s.gen s.rl.length])
 b5 := fun s => some (.box [vb s.z])
 b7 := fun _ => some (.loop (L73 g d .ready))
 b8 := fun s => some (.row 71 2 s.gen (enc eR s.rl))
 kmY := kmOf g M c d
theorem K73_ok {c:Cmp} {g:Nat} {M:Cmp → Tru → Dvd → List Int} {N:Nat} {d:Dvd} {b2:Option Blk} (hf:faultM c = 0) (hd:okDv d = true) (hOf:OfIs g M) (hN:∀ t,datedB c t = true → (M c t d).length = N) (hN2:N ≤ 1000) (h2:blkBel 12 b2 = true):(K73 c g M N d b2).Ok where
 fault := hf
 bel := fun _ s _ => by
  simp only [K73,List.all_cons,List.all_nil,h2,Bool.and_true,Bool.true_and]
  rfl
 yl := by
  intro t s km hA hkm hdt hfit
  obtain ⟨hkm2,hof⟩ := kmOf_ok hOf hf hdt hd hkm
  generalize hk2:kmOf g M c d t km = km2 at hkm2 hof
  have hA1 := hA.1
  have hA2 := hA.2
  have hlen := hN t hdt
  refine AYield.of_body (L := L73 g d .ready) rfl rfl rfl ?_
  show wpc Try.prog G73 12 (CCode.at c73 [1,0,1,0,0]) (begR Try.prog G73 12 (CCode.at c73 [1,0,1,0,1]) 7 _) ((13,Uv t) :: E73 g d) (Wk c km (R73 b2 (some (.loop (L73 g d .ready))) t s.z s.rl s.rl.length s.gen []))
  refine sx_sound (X := mkX spNil) (R := fun _ _ => True) (spNil_ok _) _ [] leafK _ [] _ leafK_ok (.nil _) ?_
  rw [a73]
  refine ⟨rfl, ?_⟩
  show wpc Try.prog G73 12 (CCode.at c73 [1,0,1,0,1]) (endR 7 _) (Ec73 g d) (Wk c km (R73 b2 (some (.loop (L73 g d .busy))) t s.z s.rl s.rl.length s.gen [Tb t]))
  refine sx_sound (X := XQ g c t d km km2 (R73 b2 (some (.loop (L73 g d .busy))) t s.z s.rl s.rl.length s.gen [Tb t]) (M c t d)) (R := fun _ _ => True) (sp73_ok _ _ _ _ _ _ _ _) _ [] leafK _ [] _ leafK_ok (.nil _) ?_
  rw [c73w]
  refine ⟨⟨rfl,rfl,rfl,hof _⟩, ?_⟩
  refine l73 c km2 b2 (some (.loop (L73 g d .busy))) t s.z s.rl s.gen (M c t d) 0 _ (blk_mono (by decide) h2) rfl (by omega) (fun h => by rw [hA1 h,hlen]) hA2 ?_
  intro J
  have e:(rK s.z s.rl (M c t d) (M c t d).length).length = (M c t d).length := by
   rw [rK_len]
   cases hz:s.z
   ·rfl
   ·rw [if_pos rfl,hA1 hz,hlen]
  show (K73 c g M N d b2).P _ (vb true) ((Wk c km2 (R73 b2 (some (.loop (L73 g d .busy))) t true (rK s.z s.rl (M c t d) (M c t d).length) (M c t d).length (gK s.z s.gen (M c t d).length) J)).set 7 (some (.loop (L73 g d .ready))))
  refine ⟨rfl,⟨fun _ => ?_,fun h => (by cases h)⟩, ?_,t,J, ?_⟩
  ·show (rK s.z s.rl (M c t d) (M c t d).length).length = N
   rw [e,hlen]
  ·show kmOk c (kmOf g M c d t km)
   rw [hk2]; exact hkm2
  ·show _ = Wk c (kmOf g M c d t km) (R73 b2 (some (.loop (L73 g d .ready))) t true (rK s.z s.rl (M c t d) (M c t d).length) (rK s.z s.rl (M c t d) (M c t d).length).length (gK s.z s.gen (M c t d).length) J)
   rw [e,hk2]; rfl
def XE:Sx := { mkX spNil with mrg := false }
def Db (d:Dvd):Option Blk := some (.box [vi d.ex,vi d.record,vi d.pence])
theorem w73c (c:Cmp) (km:List (Int × Int × Int)) (b2:Option Blk) (g:Nat) (d:Dvd) (z:Bool) (rl:List Rng) (gen:Nat) (J:Heap):sx XE (CCode.at c73 [1,1]) [] (doneK r73) (E73 g d) [] (Wk c km (b2 :: B3 :: some (.box [.own 8 gen rl.length]) :: some (.box [vb z]) :: Wc :: none :: some (.row 71 2 gen (enc eR rl)) :: J)) =
  let x1_ := (Blk.box [V.ptr 1 0 0])
  let y0_ := (Tr.done (V.tup [V.own 8 gen (List.length rl),V.d (D.bool z)]) (some (Blk.map (List.map entE km)) :: some (Blk.box [V.d (D.int .i64 (Cmp.houses c)),V.d (D.sl false (List.length (Cmp.held c)) (enc eI (Cmp.held c))),V.d (D.sl false (List.length (Cmp.trades c)) (enc eT (Cmp.trades c))),V.d (D.sl false (List.length (Cmp.divs c)) (enc eV (Cmp.divs c))),V.d (D.sl false (List.length (Cmp.splits c)) (enc eS (Cmp.splits c))),V.d (D.sl false (List.length (Cmp.closed c)) (enc eR (Cmp.closed c))),V.mp 0]) :: b2 :: some x1_ :: some (Blk.box [V.own 8 gen (List.length rl)]) :: some (Blk.box [V.d (D.bool z)]) :: some x1_ :: none :: some (Blk.row 71 2 gen (enc eR rl)) :: J))
  Tr.two y0_ y0_ := by kernel_rfl
theorem fin_73 (c:Cmp) (km:List (Int × Int × Int)) (d:Dvd) (z:Bool) (n gen:Nat) (ds:List D) (J:Heap):finX 3 (.tup [.own 8 gen n,vb z]) (Wk c km (Db d :: B3 :: some (.box [.own 8 gen n]) :: some (.box [vb z]) :: Wc :: none :: some (.row 71 2 gen ds) :: J)) = (.tup [.d (.sl false n ds),vb z],Wk c km [Db d]) := by
 have hW := Wk_bel c km 3 (by decide)
 simp [finX,rowsIn,rowsIn1,rowIn,frzRows,frzB,blkDs,fzV,fz2,fz1,Wk,Db,vb,vi,bel2,bel1,bel0] at hW ⊢
 exact ⟨hW.1,hW.2,rfl⟩
section
variable {P:Program} {G:Cfg} {n:Nat}
theorem wpc_seq' {a b:CCode} {Q:CExit → Env → Heap → Prop} {env:Env} {h:Heap} (hk:wpc P G n a (fun e env h => match e with
  | .normal => wpc P G n b Q env h
  | .exit id => Q (.exit id) env h
  | .ret => Q .ret env h) env h):wpc P G n (.seq a b) Q env h := hk
theorem wpc_block' {id:Nat} {c:CCode} {Q:CExit → Env → Heap → Prop} {env:Env} {h:Heap} (hk:wpc P G n c (fun e env h => match e with
  | .normal => Q .normal env h
  | .exit i => if i = id then Q .normal env h else Q (.exit i) env h
  | .ret => Q .ret env h) env h):wpc P G n (.block id c) Q env h := hk
theorem wpc_tree {X:Sx} (hX:SpOk P X.sp) {c:CCode} {Q:CExit → Env → Heap → Prop} {env:Env} {h:Heap} {T:Tr} (ht:sx X c [] leafK env [] h = T) (hh:holds P G n Q (fun _ _ => True) T):wpc P G n c Q env h :=
 sx_sound (R := fun _ _ => True) hX c [] leafK env [] h leafK_ok (.nil _) (by rw [ht]; exact hh)
end
def bndZ (c:Cmp) (g:Nat) (M:Cmp → Tru → Dvd → List Int) (N:Nat) (d:Dvd) (km:List (Int × Int × Int)):List (Int × Int × Int) × S73 := (runY (K73 c g M N d (Db d)).stepZ (comp c c.trades ⟨[],[]⟩) (km,⟨false,[],0⟩)).2
theorem a73r {c:Cmp} {g:Nat} {M:Cmp → Tru → Dvd → List Int} {N:Nat} {d:Dvd} {km:List (Int × Int × Int)} (hf:faultM c = 0) (hd:okDv d = true) (hOf:OfIs g M) (hN:∀ t,datedB c t = true → (M c t d).length = N) (hN2:N ≤ 1000) (hkm:kmOk c km) :
  ACalls Try.prog 73 [.ptr 1 0 0,.agg [.d (.fn (.func g))],Dv d] (Wk c km [Db d]) fun v h => v = .tup [vsl eR (bndZ c g M N d km).2.rl,vb (bndZ c g M N d km).2.z] ∧ kmOk c (bndZ c g M N d km).1 ∧ h = Wk c (bndZ c g M N d km).1 [Db d] := by
 have hK := K73_ok (N := N) (b2 := Db d) hf hd hOf hN hN2 rfl
 obtain ⟨fn,h1,h2,h3,h4,h5⟩ := q73
 refine ACalls.fin (acalls_of h1 h2 h3 h4 h5 (show 3 ≤ 56 by decide) ?_)
 show wpc Try.prog G73 3 (.seq (CCode.at c73 [0]) (.seq (.seq (CCode.at c73 [1,0,0]) (.block 0 (.rangeF (.tmp 12) [13] (CCode.at c73 [1,0,1,0,0]) (CCode.at c73 [1,0,1,0,1])))) (CCode.at c73 [1,1]))) _ _ _
 refine wpc_seq' (wpc_tree (X := mkX spNil) (spNil_ok _) (w73a c km (Db d) g d) ?_)
 refine wpc_seq' (wpc_seq' (wpc_tree (X := XA c km (Db d) B3 (some (.box [.d .nils])) (some (.box [vb false]))) (spAdd_ok (ent95At_ok c km (Db d) B3 _ _) (spNil_ok _)) (w73b c km (Db d) (some (.box [.d .nils])) (some (.box [vb false])) g d) ?_))
 refine ⟨⟨rfl,rfl⟩, ?_⟩
 have hA0:(K73 c g M N d (Db d)).A true ⟨false,[],0⟩ := ⟨fun h => (by cases h),fun _ => rfl⟩
 simp only [holds]
 show wpc Try.prog G73 3 (.block 0 (.rangeF (.tmp 12) [13] (CCode.at c73 [1,0,1,0,0]) (CCode.at c73 [1,0,1,0,1]))) _ (E73 g d) (Wk c km [Db d,B3,some (.box [.d .nils]),some (.box [vb false]),Wc])
 refine wpc_block' (rangeF_truths (K := K73 c g M N d (Db d)) hK (g := .tmp 12) (ps := [13]) (ca := CCode.at c73 [1,0,1,0,0]) (cb := CCode.at c73 [1,0,1,0,1]) (s := ⟨false,[],0⟩) (env := E73 g d) (Db d) B3 (some (.box [.d .nils])) (some (.box [vb false])) hA0 hkm rfl ?_ ?_ ?_)
 ·exact StLe.ghostBox (id := 4) (off := 0) (cs := [.d .nils]) 71 2 rfl rfl
 ·exact fun _ s _ => ⟨.ready,none,rfl,by decide⟩
 ·intro b' s' km' J st pe hs' hA' hkm' h8
  have h9:(some (Blk.loop (L73 g d .ready))) = some (.loop ⟨G73,CCode.at c73 [1,0,1,0,0],CCode.at c73 [1,0,1,0,1],[13],E73 g d,st,pe⟩) := h8
  simp only [L73,Option.some.injEq,Blk.loop.injEq,LoopB.mk.injEq,true_and] at h9
  obtain ⟨_,rfl⟩ := h9
  show wpc Try.prog G73 3 (CCode.at c73 [1,1]) _ (E73 g d) (Wk c km' (Db d :: B3 :: some (.box [.own 8 s'.gen s'.rl.length]) :: some (.box [vb s'.z]) :: Wc :: none :: some (.row 71 2 s'.gen (enc eR s'.rl)) :: J))
  refine sx_sound (X := XE) (R := fun v h1 => (finX 3 v h1).1 = .tup [vsl eR (bndZ c g M N d km).2.rl,vb (bndZ c g M N d km).2.z] ∧ kmOk c (bndZ c g M N d km).1 ∧ (finX 3 v h1).2 = Wk c (bndZ c g M N d km).1 [Db d]) (spNil_ok _) (CCode.at c73 [1,1]) [] (doneK r73) _ [] _ (doneK_ok rfl) (.nil _) ?_
  rw [w73c]
  have hend:(fun v h1 => (finX 3 v h1).1 = V.tup [vsl eR (bndZ c g M N d km).2.rl,vb (bndZ c g M N d km).2.z] ∧ kmOk c (bndZ c g M N d km).1 ∧ (finX 3 v h1).2 = Wk c (bndZ c g M N d km).1 [Db d]) (.tup [.own 8 s'.gen s'.rl.length,vb s'.z]) (Wk c km' (Db d :: B3 :: some (.box [.own 8 s'.gen s'.rl.length]) :: some (.box [vb s'.z]) :: Wc :: none :: some (.row 71 2 s'.gen (enc eR s'.rl)) :: J)) := by
   simp only [fin_73]
   have hb:bndZ c g M N d km = (km',s') := (congrArg Prod.snd hs').symm
   rw [hb]
   exact ⟨rfl,hkm',rfl⟩
  exact ⟨hend,hend⟩
end
end Go.Proofs.Ytdnefcjbcieecaa
namespace Go.Proofs.Ytdnefcjbcieecaa
open Go Go.Proofs
noncomputable section
def truthsP (c:Cmp):List Tru := (comp c c.trades ⟨[],[]⟩).filter fun t => fitsB c t
def bndL (M:Tru → List Int):List Tru → Bool × List Rng → Bool × List Rng
 | [],s => s
 | t :: l,s => bndL M l (true,rK s.1 s.2 (M t) (M t).length)
theorem bndZ_run (c:Cmp) (g:Nat) (M:Cmp → Tru → Dvd → List Int) (N:Nat) (d:Dvd) (b2:Option Blk):∀ (l:List Tru) (km:List (Int × Int × Int)) (s:S73),
  ((runY (K73 c g M N d b2).stepZ l (km,s)).2.2.z,(runY (K73 c g M N d b2).stepZ l (km,s)).2.2.rl) = bndL (fun t => M c t d) (l.filter fun t => fitsB c t) (s.z,s.rl)
 | [],km,s => rfl
 | t :: l,km,s => by
  by_cases h:fitsB c t = true
  ·have hz:(K73 c g M N d b2).stepZ t (km,s) = (true,(K73 c g M N d b2).kmY t (kmF c t km (kEnd c t)),⟨true,rK s.z s.rl (M c t d) (M c t d).length,gK s.z s.gen (M c t d).length⟩) := by
    unfold Cons.stepZ
    rw [if_pos (show fitsB (K73 c g M N d b2).c t = true from h)]; rfl
   rw [runY,hz,if_pos rfl,List.filter_cons_of_pos (by simpa using h),bndL]
   exact bndZ_run c g M N d b2 l _ _
  ·have hz:(K73 c g M N d b2).stepZ t (km,s) = (true,kmF c t km (kEnd c t),s) := by
    unfold Cons.stepZ
    rw [if_neg (show ¬ fitsB (K73 c g M N d b2).c t = true from h)]; rfl
   rw [runY,hz,if_pos rfl,List.filter_cons_of_neg (by simpa using h)]
   exact bndZ_run c g M N d b2 l _ _
def bndM (M:Cmp → Tru → Dvd → List Int) (c:Cmp) (d:Dvd):List Rng := (bndL (fun t => M c t d) (truthsP c) (false,[])).2
theorem bndZ_rl (c:Cmp) (g:Nat) (M:Cmp → Tru → Dvd → List Int) (N:Nat) (d:Dvd) (km:List (Int × Int × Int)):(bndZ c g M N d km).2.rl = bndM M c d :=
 congrArg Prod.snd (bndZ_run c g M N d (Db d) (comp c c.trades ⟨[],[]⟩) km ⟨false,[],0⟩)
theorem bndL_z (M:Tru → List Int):∀ (l:List Tru) (s:Bool × List Rng),(bndL M l s).1 = (s.1 || !l.isEmpty)
 | [],s => by simp [bndL]
 | t :: l,s => by rw [bndL,bndL_z M l]; simp
theorem bndZ_z (c:Cmp) (g:Nat) (M:Cmp → Tru → Dvd → List Int) (N:Nat) (d:Dvd) (km:List (Int × Int × Int)):(bndZ c g M N d km).2.z = !(truthsP c).isEmpty := by
 have h := congrArg Prod.fst (bndZ_run c g M N d (Db d) (comp c c.trades ⟨[],[]⟩) km ⟨false,[],0⟩)
 have h:(bndZ c g M N d km).2.z = (bndL (fun t => M c t d) (truthsP c) (false,[])).1 := h
 rw [h,bndL_z]; simp
def M73 (g:Nat):Cmp → Tru → Dvd → List Int := bif Nat.beq g 64 then paidM else bif Nat.beq g 66 then claimsM else rightsM
def N73 (g:Nat) (c:Cmp):Nat := bif Nat.beq g 66 then c.trades.length else c.held.length
def ent73:Ent := fun args h => match args,asW h with
 | [.ptr 1 0 0,.agg [.d (.fn (.func g))],y],some (c,km,[_]) => match asDv y with
  | some d => some ((g = 64 ∨ g = 66 ∨ g = 67) ∧ h = Wk c km [Db d] ∧ Dv d = y ∧ faultM c = 0 ∧ okDv d = true ∧ kmOk c km,.tup [vsl eR (bndM (M73 g) c d),vb (!(truthsP c).isEmpty)],some (Wk c (bndZ c g (M73 g) (N73 g c) d km).1 [Db d]))
  | none => none
 | _,_ => none
theorem ent73_at {g:Nat} {M:Cmp → Tru → Dvd → List Int} {n:Cmp → Nat} (hM:M73 g = M) (hn:∀ c,N73 g c = n c) {c:Cmp} {d:Dvd} {km:List (Int × Int × Int)} (hf:faultM c = 0) (hd:okDv d = true) (hOf:OfIs g M) (hN:∀ t,(M c t d).length = n c) (hN2:n c ≤ 1000) (hkm:kmOk c km) :
  ACalls Try.prog 73 [.ptr 1 0 0,.agg [.d (.fn (.func g))],Dv d] (Wk c km [Db d]) fun v h => v = .tup [vsl eR (bndM (M73 g) c d),vb (!(truthsP c).isEmpty)] ∧ h = heapO (Wk c km [Db d]) (some (Wk c (bndZ c g (M73 g) (N73 g c) d km).1 [Db d])) := by
 rw [hM,hn, ← bndZ_rl c g M (n c) d km, ← bndZ_z c g M (n c) d km]
 exact (a73r hf hd hOf (fun t _ => hN t) hN2 hkm).mono fun v h1 ⟨e1,_,e2⟩ => ⟨e1,e2⟩
theorem ent73_ok:EntOk Try.prog 73 ent73 := by
 intro args h p v h' he hp
 unfold ent73 at he
 split at he
 ·split at he
  ·cases he
   obtain ⟨hg,h1,rfl,h2,h3,h4⟩ := hp
   have hb := (fault_ok h2).1
   rw [h1]
   rcases hg with rfl | rfl | rfl
   ·exact ent73_at (g := 64) (M := paidM) (n := fun c => c.held.length) rfl (fun c => rfl) h2 h3 of64 (fun t => paidM_len _ _ _) (by omega) h4
   ·exact ent73_at (g := 66) (M := claimsM) (n := fun c => c.trades.length) rfl (fun c => rfl) h2 h3 of66 (fun t => claimsM_len _ _ _) (by omega) h4
   ·exact ent73_at (g := 67) (M := rightsM) (n := fun c => c.held.length) rfl (fun c => rfl) h2 h3 of67 (fun t => rightsM_len _ _ _) (by omega) h4
  ·cases he
 ·cases he
end
end Go.Proofs.Ytdnefcjbcieecaa
namespace Go.Proofs.Ytdnefcjbcieecaa
open Go Go.Proofs
noncomputable section
mutual
def V.ren (p:Nat → Nat):V → V
 | .any => .any
 | .d x => .d x
 | .agg cs => .agg (renL p cs)
 | .tup cs => .tup (renL p cs)
 | .own a b c => .own (p a) b c
 | .ptr a b c => .ptr (p a) b c
 | .rptr a b => .rptr a b
 | .fn f a c => .fn f (renL p a) (renL p c)
 | .mp a => .mp (p a)
 | .yl a => .yl (p a)
def renL (p:Nat → Nat):List V → List V
 | [] => []
 | v :: l => v.ren p :: renL p l
end
theorem renL_eq (p:Nat → Nat):∀ l:List V,renL p l = l.map (V.ren p)
 | [] => rfl
 | v :: l => by rw [renL,renL_eq p l]; rfl
mutual
theorem V.ren_ren {p q:Nat → Nat} (h:∀ i,q (p i) = i):∀ v:V,(v.ren p).ren q = v
 | .any => rfl
 | .d x => rfl
 | .agg cs => by rw [V.ren,V.ren,renL_renL h cs]
 | .tup cs => by rw [V.ren,V.ren,renL_renL h cs]
 | .own a b c => by rw [V.ren,V.ren,h]
 | .ptr a b c => by rw [V.ren,V.ren,h]
 | .rptr a b => rfl
 | .fn f a c => by rw [V.ren,V.ren,renL_renL h a,renL_renL h c]
 | .mp a => by rw [V.ren,V.ren,h]
 | .yl a => by rw [V.ren,V.ren,h]
theorem renL_renL {p q:Nat → Nat} (h:∀ i,q (p i) = i):∀ l:List V,renL q (renL p l) = l
 | [] => rfl
 | v :: l => by rw [renL,renL,V.ren_ren h v,renL_renL h l]
end
def Mem.ren (M:Mem) (q:Nat → Nat):Mem := { M with mu := fun i => M.mu (q i) }
theorem RepV.ren {M:Mem} {p q:Nat → Nat} (h:∀ i,q (p i) = i) {v:V} {c:Value} (hr:RepV M v c):RepV (M.ren q) (v.ren p) c := by
 have hmu:∀ i,(M.ren q).mu (p i) = M.mu i := fun i => by show M.mu (q (p i)) = _; rw [h]
 induction hr with
 | any v => exact .any v
 | d x v hx => exact .d x v hx
 | agg cs arr hl h0 h1 ih =>
  rw [V.ren,renL_eq]
  refine .agg _ arr (by simp [hl]) (fun k v c hv hc => ?_) h1
  rw [List.getElem?_map] at hv
  cases hk:cs[k]? with
  | none => rw [hk] at hv; cases hv
  | some x => rw [hk] at hv; cases hv; exact ih k x c hk hc
 | tup cs arr hl h0 ih =>
  rw [V.ren,renL_eq]
  refine .tup _ arr (by simp [hl]) (fun k v c hv hc => ?_)
  rw [List.getElem?_map] at hv
  cases hk:cs[k]? with
  | none => rw [hk] at hv; cases hv
  | some x => rw [hk] at hv; cases hv; exact ih k x c hk hc
 | own id g len r ao cap h1 hg hl hm hv => exact .own (p id) g len r ao cap (by rw [hmu]; exact h1) hg hl hm hv
 | ptr id g off r b h1 hg hv => exact .ptr (p id) g off r b (by rw [hmu]; exact h1) hg hv
 | rptr cs off b o vals hro hrep => exact .rptr cs off b o vals hro hrep
 | fn f first caps a1 a2 h1l h2l h1 h2 ih1 ih2 =>
  rw [V.ren,renL_eq,renL_eq]
  refine .fn f _ _ a1 a2 (by simp [h1l]) (by simp [h2l]) (fun k v c hv hc => ?_) (fun k v c hv hc => ?_)
  ·rw [List.getElem?_map] at hv
   cases hk:first[k]? with
   | none => rw [hk] at hv; cases hv
   | some x => rw [hk] at hv; cases hv; exact ih1 k x c hk hc
  ·rw [List.getElem?_map] at hv
   cases hk:caps[k]? with
   | none => rw [hk] at hv; cases hv
   | some x => rw [hk] at hv; cases hv; exact ih2 k x c hk hc
 | mp id r b h1 hv => exact .mp (p id) r b (by rw [hmu]; exact h1) hv
 | yl id r b h1 hv => exact .yl (p id) r b (by rw [hmu]; exact h1) hv
def Blk.ren (p:Nat → Nat):Blk → Blk
 | .box cs => .box (renL p cs)
 | .row e sz g cs => .row e sz g cs
 | .obj o => .obj o
 | .map es => .map (es.map fun e => (e.1.ren p,e.2.ren p))
 | .loop L => .loop { L with env := L.env.map fun e => (e.1,e.2.ren p) }
theorem env_ren (p:Nat → Nat):∀ (env:Env) (k:Nat),Env.get (env.map fun e => (e.1,e.2.ren p)) k = (env.get k).ren p
 | [],k => rfl
 | (j,v) :: r,k => by
  have ih := env_ren p r k
  show (if k = j then v.ren p else Env.get (r.map fun e => (e.1,e.2.ren p)) k) = (if k = j then v else Env.get r k).ren p
  split
  ·rfl
  ·exact ih
theorem BlkAt.ren {M:Mem} {w:World} {r:Ref} {p q:Nat → Nat} (h:∀ i,q (p i) = i) {b:Blk} (hb:BlkAt M w r b):BlkAt (M.ren q) w r (b.ren p) := by
 cases b with
 | box cs =>
  obtain ⟨h1,b,arr,T,h2,h3,h4,h5⟩ := hb
  refine ⟨h1,b,arr,T,h2,h3,⟨by rw [renL_eq]; simpa using h4.1,fun k v c hv hc => ?_⟩,h5⟩
  rw [renL_eq,List.getElem?_map] at hv
  cases hk:cs[k]? with
  | none => rw [hk] at hv; cases hv
  | some x => rw [hk] at hv; cases hv; exact (h4.2 k x c hk hc).ren h
 | row e sz g cs => exact hb
 | obj o => exact hb
 | map es =>
  obtain ⟨h1,b,arr,clock,h2,h3,h4,h5⟩ := hb
  refine ⟨h1,b,arr,clock,h2,h3,by simpa using h4,fun k e x he hx => ?_⟩
  rw [List.getElem?_map] at he
  cases hk:es[k]? with
  | none => rw [hk] at he; cases he
  | some y => rw [hk] at he; cases he; exact ⟨(h5 k y x hk hx).1.ren h,(h5 k y x hk hx).2.ren h⟩
 | loop L =>
  obtain ⟨h1,b,rec,h2,h3,h4,h5,h6,h7,h8,h9,h10⟩ := hb
  exact ⟨h1,b,rec,h2,h3,h4,h5,h6,h7,h8,h9,fun k => by
   show RepV _ (Env.get (L.env.map fun e => (e.1,e.2.ren p)) k) _
   rw [env_ren]; exact (h10 k).ren h⟩
theorem Blk.ren_ren {p q:Nat → Nat} (h:∀ i,q (p i) = i) (b:Blk):(b.ren p).ren q = b := by
 cases b with
 | box cs => simp only [Blk.ren,renL_renL h]
 | row e sz g cs => rfl
 | obj o => rfl
 | map es =>
  simp only [Blk.ren,List.map_map]
  congr 1
  conv => rhs; rw [← List.map_id es]
  refine List.map_congr_left fun e _ => ?_
  simp [V.ren_ren h]
 | loop L =>
  simp only [Blk.ren,List.map_map]
  have:(List.map ((fun e:Nat × V => (e.1,e.2.ren q)) ∘ fun e => (e.1,e.2.ren p)) L.env) = L.env := by
   conv => rhs; rw [← List.map_id L.env]
   refine List.map_congr_left fun e _ => ?_
   simp [V.ren_ren h]
  rw [this]
def HRen (p:Nat → Nat) (h h' : Heap):Prop := h'.length = h.length ∧ ∀ i,h'[p i]? = (h[i]?).map (Option.map (Blk.ren p))
theorem HRen.symm {p q:Nat → Nat} (h1:∀ i,q (p i) = i) (h2:∀ i,p (q i) = i) {h h' : Heap} (hr:HRen p h h'):HRen q h' h := by
 refine ⟨hr.1.symm,fun i => ?_⟩
 have := hr.2 (q i)
 rw [h2] at this
 rw [this]
 cases h[q i]? with
 | none => rfl
 | some b => cases b with
  | none => rfl
  | some b => simp [Blk.ren_ren h1]
theorem HRen.live {p q:Nat → Nat} (h1:∀ i,q (p i) = i) {M:Mem} {h h' : Heap} (hr:HRen p h h') {b:Nat} (hl:liveBlk M h b):liveBlk (M.ren q) h' b := by
 obtain ⟨i,blk,r,hi,hm,hb⟩ := hl
 refine ⟨p i,blk.ren p,r, ?_, ?_,hb⟩
 ·rw [hr.2,hi]; rfl
 ·show M.mu (q (p i)) = _
  rw [h1]; exact hm
theorem Mem.ren_ren {p q:Nat → Nat} (h2:∀ i,q (p i) = i) (M:Mem):(M.ren q).ren p = M := by
 show { M with mu := fun i => M.mu (q (p i)) } = M
 simp only [h2]
theorem Sim.ren {p q:Nat → Nat} (h1:∀ i,q (p i) = i) (h2:∀ i,p (q i) = i) {M:Mem} {h h' : Heap} {w:World} (hlen:∀ i,h.length ≤ i → h.length ≤ q i) (hr:HRen p h h') (hs:Sim M h w):Sim (M.ren q) h' w := by
 have hsy := hr.symm h1 h2
 have hlv:∀ b,liveBlk (M.ren q) h' b → liveBlk M h b := fun b hl => by
  have := hsy.live (q := p) h2 hl
  rw [Mem.ren_ren h1] at this; exact this
 refine ⟨fun i blk hi => ?_,fun i j bi bj ri rj b hi hj hri hrj hbi hbj => ?_,fun b o v hv => ⟨(hs.ro b o v hv).1,fun hl => (hs.ro b o v hv).2 (hlv b hl)⟩,fun i hi => hs.dom _ (hlen i (by rw [← hr.1]; exact hi)),fun b hb => ⟨(hs.df b hb).1,fun hl => (hs.df b hb).2 (hlv b hl)⟩⟩
 ·have e := hsy.2 i
  rw [hi] at e
  obtain ⟨r,hm,hat⟩ := hs.blks (q i) (blk.ren q) e
  refine ⟨r,hm, ?_⟩
  have := hat.ren (p := p) (q := q) h1
  rw [Blk.ren_ren h2] at this
  exact this
 ·have ei := hsy.2 i
  rw [hi] at ei
  have ej := hsy.2 j
  rw [hj] at ej
  have := hs.inj (q i) (q j) _ _ ri rj b ei ej hri hrj hbi hbj
  have := congrArg p this
  rw [h2,h2] at this
  exact this
theorem HRen.make {p q:Nat → Nat} (h1:∀ i,q (p i) = i) {n:Nat} (hid:∀ i,n ≤ i → p i = i) (k0:Heap) (hn:n ≤ k0.length):∃ k,HRen p k0 k := by
 have hlt:∀ i,i < k0.length → p i < k0.length := fun i hi => by
  rcases Nat.lt_or_ge (p i) k0.length with g | g
  ·exact g
  ·have e1 := hid (p i) (by omega)
   have e2 := h1 (p i)
   rw [e1,h1] at e2
   omega
 refine ⟨(List.range k0.length).map fun j => (k0[q j]?).join.map (Blk.ren p),by simp,fun i => ?_⟩
 rcases Nat.lt_or_ge i k0.length with g | g
 ·rw [List.getElem?_map,List.getElem?_range (hlt i g)]
  simp only [Option.map_some,h1]
  rw [List.getElem?_eq_getElem g]
  rfl
 ·rw [hid i (by omega),List.getElem?_eq_none (by simpa using g),List.getElem?_eq_none g]; rfl
theorem ACalls.ren {P:Program} {f:FuncId} {vs:List V} {h h' : Heap} {R:V → Heap → Prop} {p q:Nat → Nat} (h1:∀ i,q (p i) = i) (h2:∀ i,p (q i) = i) (hid:∀ i,h.length ≤ i → p i = i) (hr:HRen p h h')
  (hc:ACalls P f vs h R):ACalls P f (vs.map (V.ren p)) h' fun v k => ∃ v0 k0,R v0 k0 ∧ v = v0.ren p ∧ HRen p k0 k := by
 have hidq:∀ i,h.length ≤ i → q i = i := fun i hi => by
  have := h1 i
  rw [hid i hi] at this
  exact this
 refine ⟨hc.1,fun M w args hm hs hu => ?_⟩
 have hsy := hr.symm h1 h2
 have hs0:Sim (M.ren p) h w := hs.ren (p := q) (q := p) h2 h1 (fun i hi => by rw [hr.1] at hi ⊢; rw [hid i hi]; exact hi) hsy
 have hu0:RepL (M.ren p) vs args := ⟨by simpa using hu.1,fun k v c hv hc => by
  have := (hu.2 k (v.ren p) c (by rw [List.getElem?_map,hv]; rfl) hc).ren (p := q) (q := p) h2
  rw [V.ren_ren h1] at this
  exact this⟩
 refine (hc.2 (M.ren p) w args hm hs0 hu0).mono ?_
 rintro e w' ⟨cv,v,k0,M1,rfl,pp,hrv,hR⟩
 obtain ⟨k,hk⟩ := HRen.make h1 hid k0 pp.len
 have hlive:∀ b,liveBlk (M.ren p) h b → liveBlk M h' b := fun b hl => by
  have := hr.live (q := q) h1 hl
  rw [Mem.ren_ren h2] at this
  exact this
 have hlive1:∀ b,liveBlk (M1.ren q) k b → liveBlk M1 k0 b := fun b hl => by
  have := (hk.symm h1 h2).live (q := p) h2 hl
  rw [Mem.ren_ren h1] at this
  exact this
 have hl := pp.len
 refine ⟨cv,v.ren p,k,M1.ren q,rfl,⟨pp.ro,⟨⟨pp.dc.1.1,pp.dc.1.2.1,fun b o u hb hu => (pp.dc.1.2.2 b o u hb hu).elim .inl fun hl => .inr (hlive b hl)⟩,pp.dc.2⟩,fun i r hi => ?_,by rw [hk.1,hr.1]; exact hl,
  pp.sim.ren h1 h2 (fun i hi => by rw [hidq i (by omega)]; exact hi) hk,pp.os,pp.tape,pp.output,pp.size,fun b hb hnl => pp.keep b hb fun hl => hnl (hlive b hl),fun b hb hl => hlive b (pp.live b hb (hlive1 b hl))⟩,hrv.ren h1,v,k0,hR,rfl,hk⟩
 have := pp.le (q i) r (by show M.mu (p (q i)) = _; rw [h2]; exact hi)
 exact this
end
end Go.Proofs.Ytdnefcjbcieecaa
namespace Go.Proofs.Ytdnefcjbcieecaa
open Go Go.Proofs
noncomputable section
def Wbox1 (c:Cmp):List V := [vi c.houses,.d (.sl false c.held.length (enc eI c.held)),.d (.sl false c.trades.length (enc eT c.trades)),.d (.sl false c.divs.length (enc eV c.divs)),.d (.sl false c.splits.length (enc eS c.splits)),.d (.sl false c.closed.length (enc eR c.closed)),.mp 1]
def Wk1 (b:Option Blk) (c:Cmp) (km:List (Int × Int × Int)):Heap := [b,some (.map (km.map entE)),some (.box (Wbox1 c))]
def p1:Nat → Nat
 | 0 => 1
 | 1 => 2
 | 2 => 0
 | n + 3 => n + 3
def q1:Nat → Nat
 | 0 => 2
 | 1 => 0
 | 2 => 1
 | n + 3 => n + 3
theorem q1_p1:∀ i,q1 (p1 i) = i
 | 0 => rfl
 | 1 => rfl
 | 2 => rfl
 | n + 3 => rfl
theorem p1_q1:∀ i,p1 (q1 i) = i
 | 0 => rfl
 | 1 => rfl
 | 2 => rfl
 | n + 3 => rfl
theorem entE_ren (km:List (Int × Int × Int)):((km.map entE).map fun e => (e.1.ren p1,e.2.ren p1)) = km.map entE := by
 rw [List.map_map]
 refine List.map_congr_left fun e _ => ?_
 simp [entE,V.ren,renL,vi]
theorem ren_Wk (c:Cmp) (km:List (Int × Int × Int)) (d:Dvd):HRen p1 (Wk c km [Db d]) (Wk1 (Db d) c km) := by
 refine ⟨rfl,fun i => ?_⟩
 match i with
 | 0 =>
  show some (some (Blk.map (km.map entE))) = some (some (Blk.map ((km.map entE).map fun e => (e.1.ren p1,e.2.ren p1))))
  rw [entE_ren]
 | 1 => rfl
 | 2 => rfl
 | n + 3 => simp [p1,Wk1,Wk]
theorem HRen.uniq {p q:Nat → Nat} (h2:∀ i,p (q i) = i) {h a b:Heap} (ha:HRen p h a) (hb:HRen p h b):a = b := by
 apply List.ext_getElem?
 intro i
 have e1 := ha.2 (q i)
 have e2 := hb.2 (q i)
 rw [h2] at e1 e2
 rw [e1,e2]
theorem w72b (b:Option Blk) (c:Cmp):sx (mkX spNil) c72 [] (doneK r72) (envOf [Cv c]) [] [b] =
  Tr.need (DP.P (dp True)) (Tr.done (V.ptr 2 0 0) [b,some (Blk.map []),some (Blk.box [V.d (D.int .i64 (Cmp.houses c)),V.d (D.sl false (List.length (Cmp.held c)) (enc eI (Cmp.held c))),V.d (D.sl false (List.length (Cmp.trades c)) (enc eT (Cmp.trades c))),V.d (D.sl false (List.length (Cmp.divs c)) (enc eV (Cmp.divs c))),V.d (D.sl false (List.length (Cmp.splits c)) (enc eS (Cmp.splits c))),V.d (D.sl false (List.length (Cmp.closed c)) (enc eR (Cmp.closed c))),V.mp 1])]) := by kernel_rfl
theorem ent73_ren {g:Nat} {c:Cmp} {d:Dvd} {km km' : List (Int × Int × Int)} {v:V} (hv:v.ren p1 = v) (hc:ACalls Try.prog 73 [.ptr 1 0 0,.agg [.d (.fn (.func g))],Dv d] (Wk c km [Db d]) fun v1 h1 => v1 = v ∧ h1 = Wk c km' [Db d]) :
  ACalls Try.prog 73 [.ptr 2 0 0,.agg [.d (.fn (.func g))],Dv d] (Wk1 (Db d) c km) fun v1 h1 => v1 = v ∧ h1 = Wk1 (Db d) c km' := by
 have h := ACalls.ren q1_p1 p1_q1 (fun i hi => by
  match i,hi with
  | n + 3,_ => rfl) (ren_Wk c km d) hc
 have e:List.map (V.ren p1) [.ptr 1 0 0,.agg [.d (.fn (.func g))],Dv d] = [.ptr 2 0 0,.agg [.d (.fn (.func g))],Dv d] := by
  simp [V.ren,renL,Dv,p1,vi]
 rw [e] at h
 refine h.mono ?_
 rintro v1 h1 ⟨v0,k0,⟨rfl,rfl⟩,rfl,hk⟩
 exact ⟨hv,HRen.uniq p1_q1 hk (ren_Wk c km' d)⟩
def ent72x:Ent := fun args h => match args,h with
 | [x],[] => match asC x with
  | some c => some (Cv c = x,.ptr 1 0 0,some (Wk c [] []))
  | none => none
 | [x],[b] => match asC x with
  | some c => some (Cv c = x,.ptr 2 0 0,some (Wk1 b c []))
  | none => none
 | _,_ => none
theorem ent72x_ok:EntOk Try.prog 72 ent72x := by
 intro args h p v h' he hp
 unfold ent72x at he
 split at he
 ·split at he
  ·cases he; rw [← hp]; exact a72 _
  ·cases he
 ·split at he
  ·cases he; rw [← hp]
   refine q72.calls (X := mkX spNil) (spNil_ok _) rfl (w72b _ _) ?_
   exact ⟨trivial,rfl,rfl⟩
  ·cases he
 ·cases he
def asW1 (h:Heap):Option (Cmp × List (Int × Int × Int) × Option Blk) := match h with
 | [b,some (.map es),some (.box [x0,x1,x2,x3,x4,x5,.mp 1])] => match asC (.agg [x0,x1,x2,x3,x4,x5]) with
  | some c => some (c,dK es,b)
  | none => none
 | _ => none
def ent73y:Ent := fun args h => match args,asW1 h with
 | [.ptr 2 0 0,.agg [.d (.fn (.func g))],y],some (c,km,_) => match asDv y with
  | some d => some ((g = 64 ∨ g = 66 ∨ g = 67) ∧ h = Wk1 (Db d) c km ∧ Dv d = y ∧ faultM c = 0 ∧ okDv d = true ∧ kmOk c km,.tup [vsl eR (bndM (M73 g) c d),vb (!(truthsP c).isEmpty)],some (Wk1 (Db d) c (bndZ c g (M73 g) (N73 g c) d km).1))
  | none => none
 | _,_ => none
theorem ent73y_ok:EntOk Try.prog 73 ent73y := by
 intro args h p v h' he hp
 unfold ent73y at he
 split at he
 ·split at he
  ·cases he
   obtain ⟨hg,h1,rfl,h2,h3,h4⟩ := hp
   have hb := (fault_ok h2).1
   rw [h1]
   refine ent73_ren (by simp [V.ren,renL,vb,vsl]) ?_
   rcases hg with rfl | rfl | rfl
   ·exact ent73_at (g := 64) (M := paidM) (n := fun c => c.held.length) rfl (fun c => rfl) h2 h3 of64 (fun t => paidM_len _ _ _) (by omega) h4
   ·exact ent73_at (g := 66) (M := claimsM) (n := fun c => c.trades.length) rfl (fun c => rfl) h2 h3 of66 (fun t => claimsM_len _ _ _) (by omega) h4
   ·exact ent73_at (g := 67) (M := rightsM) (n := fun c => c.held.length) rfl (fun c => rfl) h2 h3 of67 (fun t => rightsM_len _ _ _) (by omega) h4
  ·cases he
 ·cases he
def ent73x:Ent := fun args h => match ent73 args h with
 | some r => some r
 | none => ent73y args h
theorem ent73x_ok:EntOk Try.prog 73 ent73x := by
 intro args h p v h' he hp
 unfold ent73x at he
 split at he
 ·rename_i r e
  cases he
  exact ent73_ok _ _ _ _ _ e hp
 ·exact ent73y_ok _ _ _ _ _ he hp
theorem q33:FunIs Try.prog 33 G33 c33 r33 := ⟨Try.f33,Try.func33,k33,e33,by kernel_rfl,by kernel_rfl⟩
def tab33:Spec := spAdd 73 ent73x (spAdd 72 ent72x (spAdd 71 ent71 (spAdd 52 ent52 spNil)))
theorem tab33_ok:SpOk Try.prog tab33 := spAdd_ok ent73x_ok (spAdd_ok ent72x_ok (spAdd_ok ent71_ok (spAdd_ok ent52_ok (spNil_ok _))))
def X33:Sx := mkX tab33
theorem w33 (c:Cmp) (n:Int):sx X33 c33 [] (doneP r33) (envOf [Cv c,vi n]) [] [] =
  let x1_ := (List.length (Cmp.divs c))
  let x2_ := ((64:FuncId) = (64:FuncId) ∨ (64:FuncId) = (66:FuncId) ∨ (64:FuncId) = (67:FuncId))
  let x3_ := (D.int .i64 (Cmp.houses (dCe c)))
  let x4_ := (D.sl false (List.length (Cmp.held (dCe c))) (enc eI (Cmp.held (dCe c))))
  let x5_ := (D.sl false (List.length (Cmp.trades (dCe c))) (enc eT (Cmp.trades (dCe c))))
  let x6_ := (D.sl false (List.length (Cmp.divs (dCe c))) (enc eV (Cmp.divs (dCe c))))
  let x7_ := (D.sl false (List.length (Cmp.splits (dCe c))) (enc eS (Cmp.splits (dCe c))))
  let x8_ := (D.sl false (List.length (Cmp.closed (dCe c))) (enc eR (Cmp.closed (dCe c))))
  let y5_ := (enc eV (Cmp.divs c))
  let x9_ := [V.d (D.int .i64 (cI y5_ 3 n 0)),V.d (D.int .i64 (cI y5_ 3 n 1)),V.d (D.int .i64 (cI y5_ 3 n 2))]
  let x10_ := (!!List.isEmpty (truthsP (dCe (dCe c))))
  let x11_ := ((66:FuncId) = (64:FuncId) ∨ (66:FuncId) = (66:FuncId) ∨ (66:FuncId) = (67:FuncId))
  let y1_ := ({ ex := cI y5_ 3 n 0,record := cI y5_ 3 n 1,pence := cI y5_ 3 n 2 }:Dvd)
  let y7_ := (dK (List.map entE []))
  let x12_ := (Prod.fst (bndZ (dCe (dCe c)) (64:FuncId) (M73 (64:FuncId)) (N73 (64:FuncId) (dCe (dCe c))) y1_ y7_))
  let x13_ := (dK (List.map entE x12_))
  let x14_ := [V.d (D.int .i64 (Dvd.ex y1_)),V.d (D.int .i64 (Dvd.record y1_)),V.d (D.int .i64 (Dvd.pence y1_))]
  let x15_ := ((67:FuncId) = (64:FuncId) ∨ (67:FuncId) = (66:FuncId) ∨ (67:FuncId) = (67:FuncId))
  let y0_ := ({ ex := Dvd.ex y1_,record := Dvd.record y1_,pence := Dvd.pence y1_ }:Dvd)
  let y4_ := (dCe (dCe (dCe c)))
  let x16_ := (Prod.fst (bndZ y4_ (66:FuncId) (M73 (66:FuncId)) (N73 (66:FuncId) y4_) y0_ x13_))
  let x17_ := (dCe y4_)
  let x18_ := (dK (List.map entE x16_))
  let x19_ := [V.d (D.int .i64 (Dvd.ex y0_)),V.d (D.int .i64 (Dvd.record y0_)),V.d (D.int .i64 (Dvd.pence y0_))]
  let x20_ := (bndM (M73 (64:FuncId)) (dCe (dCe c)) y1_)
  let x21_ := (bndM (M73 (66:FuncId)) y4_ y0_)
  let y2_ := ({ ex := Dvd.ex y0_,record := Dvd.record y0_,pence := Dvd.pence y0_ }:Dvd)
  let x22_ := (bndM (M73 (67:FuncId)) x17_ y2_)
  let x23_ := (D.int .i64 0)
  let x24_ := (Blk.box [V.d x23_,V.d x23_,V.d x23_])
  let x25_ := (Db y1_)
  let x26_ := (Db y0_)
  let y3_ := (Tr.done (V.tup [V.d (D.sl false (List.length x20_) (enc eR x20_)),V.d (D.sl false (List.length x21_) (enc eR x21_)),V.d (D.sl false (List.length x22_) (enc eR x22_)),V.d x23_]) [])
  let y6_ := (Tr.done (V.tup [V.d D.nils,V.d D.nils,V.d D.nils,V.d (D.int .i64 (9:Int))]) [])
  Tr.need (Cv (dCe c) = Cv c ∧ True) (Tr.br (faultM (dCe c) != (0:Int)) (Tr.done (V.tup [V.d D.nils,V.d D.nils,V.d D.nils,V.d (D.int .i64 (faultM (dCe c)))]) []) (Tr.need (-9223372036854775808 ≤ Int.ofNat x1_ - (1:Int) ∧ Int.ofNat x1_ - (1:Int) ≤ 9223372036854775807) (Tr.need True (Tr.br (!inR n (0:Int) (Int.ofNat x1_ - (1:Int))) (Tr.done (V.tup [V.d D.nils,V.d D.nils,V.d D.nils,V.d (D.int .i64 (2:Int))]) []) (Tr.need ((0:Int) ≤ n ∧ n < Int.ofNat x1_ ∧ okEl [0,0,0] y5_ 3 n) (Tr.two (Tr.need (Cv (dCe c) = Cv c) (Tr.need (HLe [] (Wk (dCe c) [] [])) (Tr.need (x2_ ∧ [some (Blk.map []),some (Blk.box [V.d x3_,V.d x4_,V.d x5_,V.d x6_,V.d x7_,V.d x8_,V.mp 0]),some (Blk.box x9_)] = Wk (dCe (dCe c)) y7_ [Db y1_] ∧ Dv y1_ = V.agg x9_ ∧ faultM (dCe (dCe c)) = (0:Int) ∧ okDv y1_ = true ∧ kmOk (dCe (dCe c)) y7_) (Tr.br x10_ y6_ (Tr.need (x11_ ∧ Wk (dCe (dCe c)) x12_ [Db y1_] = Wk y4_ x13_ [Db y0_] ∧ Dv y0_ = V.agg x14_ ∧ faultM y4_ = (0:Int) ∧ okDv y0_ = true ∧ kmOk y4_ x13_) (Tr.need (x15_ ∧ Wk y4_ x16_ [Db y0_] = Wk x17_ x18_ [Db y2_] ∧ Dv y2_ = V.agg x19_ ∧ faultM x17_ = (0:Int) ∧ okDv y2_ = true ∧ kmOk x17_ x18_) y3_)))))) (Tr.need (Cv (dCe c) = Cv c) (Tr.need (HLe [some x24_] (Wk1 (some x24_) (dCe c) [])) (Tr.need (x2_ ∧ [some (Blk.box x9_),some (Blk.map []),some (Blk.box [V.d x3_,V.d x4_,V.d x5_,V.d x6_,V.d x7_,V.d x8_,V.mp 1])] = Wk1 x25_ (dCe (dCe c)) y7_ ∧ Dv y1_ = V.agg x9_ ∧ faultM (dCe (dCe c)) = (0:Int) ∧ okDv y1_ = true ∧ kmOk (dCe (dCe c)) y7_) (Tr.br x10_ y6_ (Tr.need (x11_ ∧ Wk1 x25_ (dCe (dCe c)) x12_ = Wk1 x26_ y4_ x13_ ∧ Dv y0_ = V.agg x14_ ∧ faultM y4_ = (0:Int) ∧ okDv y0_ = true ∧ kmOk y4_ x13_) (Tr.need (x15_ ∧ Wk1 x26_ y4_ x16_ = Wk1 (Db y2_) x17_ x18_ ∧ Dv y2_ = V.agg x19_ ∧ faultM x17_ = (0:Int) ∧ okDv y2_ = true ∧ kmOk x17_ x18_) y3_)))))))))))) := by kernel_rfl
end
end Go.Proofs.Ytdnefcjbcieecaa
namespace Go.Proofs.Ytdnefcjbcieecaa
open Go Go.Proofs
noncomputable section
def bdE (c:Cmp) (n:Int):Int := if faultM c ≠ 0 then faultM c else if inR n 0 (c.divs.length - 1) = false then 2 else if (truthsP c).isEmpty = true then 9 else 0
def bdL (M:Cmp → Tru → Dvd → List Int) (c:Cmp) (n:Int):List Rng := if bdE c n = 0 then bndM M c (lat c.divs n) else []
theorem nil4 (n:Int):VLe (.tup [V.d D.nils,V.d D.nils,V.d D.nils,V.d (D.int .i64 n)]) (.tup [vsl eR [],vsl eR [],vsl eR [],vi n]) := .tup (.cons .nilsF (.cons .nilsF (.cons .nilsF (.cons (.refl _) .nil))))
theorem HLe_nil (h:Heap):HLe [] h := fun i b hb _ => by simp at hb
theorem HLe_one (b:Option Blk) (h:Heap):HLe [b] (b :: h) := fun i x hx _ => by
 cases i with
 | zero => exact hx
 | succ i => simp at hx
theorem kmOf_km {g:Nat} {M:Cmp → Tru → Dvd → List Int} {c:Cmp} {d:Dvd} {t:Tru} {km:List (Int × Int × Int)} (hkm:kmOk c km):kmOk c (kmOf g M c d t km) := by
 unfold kmOf
 split
 ·rename_i h; exact h.choose_spec.1
 ·exact hkm
theorem runZ_km {c:Cmp} {g:Nat} {M:Cmp → Tru → Dvd → List Int} {N:Nat} {d:Dvd} {b2:Option Blk}:∀ (l:List Tru) (km:List (Int × Int × Int)) (s:S73),kmOk c km → kmOk c (runY (K73 c g M N d b2).stepZ l (km,s)).2.1
 | [],km,s,h => h
 | t :: l,km,s,h => by
  have h2:kmOk c ((K73 c g M N d b2).stepZ t (km,s)).2.1 := by
   unfold Cons.stepZ
   split
   ·exact kmOf_km (kmF_ok h t _)
   ·exact kmF_ok h t _
  rw [runY]
  split
  ·exact runZ_km l _ _ h2
  ·exact h2
theorem bndZ_km {c:Cmp} (g:Nat) (M:Cmp → Tru → Dvd → List Int) (N:Nat) (d:Dvd) {km:List (Int × Int × Int)} (h:kmOk c km):kmOk c (bndZ c g M N d km).1 := runZ_km _ _ _ h
theorem y33 (c:Cmp) (n:Int):Yields Try.prog 33 [Cv c,vi n] (.tup [vsl eR (bdL paidM c n),vsl eR (bdL claimsM c n),vsl eR (bdL rightsM c n),vi (bdE c n)]) := by
 refine q33.yieldsP (X := X33) tab33_ok rfl rfl rfl (w33 c n) ?_
 simp only [holds,Int.ofNat_eq_natCast,cI_V0,cI_V1,cI_V2,dCe,dC_enc,true_and,and_true,dK_map,List.map_nil]
 refine ⟨fun h1 => ?_,fun h1 => ?_⟩
 ·have h1:faultM c ≠ 0 := by simpa using h1
  have e:bdE c n = faultM c := by simp [bdE,h1]
  simp only [bdL,e,if_neg h1]
  exact nil4 _
 have h1:faultM c = 0 := by simpa using h1
 have hb := (fault_ok h1).1
 refine ⟨by omega,fun h2 => ?_,fun h2 => ?_⟩
 ·have h2:inR n 0 (c.divs.length - 1) = false := by simpa using h2
  have e:bdE c n = 2 := by simp [bdE,h1,h2]
  have e0:¬ (2:Int) = 0 := by decide
  simp only [bdL,e,if_neg e0]
  exact nil4 _
 have h2:inR n 0 (c.divs.length - 1) = true := by simpa using h2
 have h3:0 ≤ n ∧ n < (c.divs.length:Int) := by simp only [inR,decide_eq_true_eq] at h2; omega
 have hd := divs_ok h1 h3.1 h3.2
 have m64:M73 64 = paidM := rfl
 have m66:M73 66 = claimsM := rfl
 have m67:M73 67 = rightsM := rfl
 have k0 := kmOk_nil c
 refine ⟨⟨h3.1,h3.2,ok_V (by omega)⟩, ?_⟩
 have k1 := bndZ_km 64 (M73 64) (N73 64 c) (lat c.divs n) k0
 have k2 := bndZ_km 66 (M73 66) (N73 66 c) (lat c.divs n) k1
 have f1:(!!(truthsP c).isEmpty) = true → VLe (.tup [V.d D.nils,V.d D.nils,V.d D.nils,V.d (D.int .i64 9)]) (.tup [vsl eR (bdL paidM c n),vsl eR (bdL claimsM c n),vsl eR (bdL rightsM c n),vi (bdE c n)]) := fun h4 => by
  have h4:(truthsP c).isEmpty = true := by simpa using h4
  have e:bdE c n = 9 := by simp [bdE,h1,h2,h4]
  have e0:¬ (9:Int) = 0 := by decide
  simp only [bdL,e,if_neg e0]
  exact nil4 _
 have f2:(!!(truthsP c).isEmpty) = false → VLe (.tup [vsl eR (bndM paidM c (lat c.divs n)),vsl eR (bndM claimsM c (lat c.divs n)),vsl eR (bndM rightsM c (lat c.divs n)),vi 0]) (.tup [vsl eR (bdL paidM c n),vsl eR (bdL claimsM c n),vsl eR (bdL rightsM c n),vi (bdE c n)]) := fun h4 => by
  have h4:(truthsP c).isEmpty = false := by simpa using h4
  have e:bdE c n = 0 := by simp [bdE,h1,h2,h4]
  simp only [bdL,e,if_true]
  exact .refl _
 simp only [m64,m66] at k1 k2
 simp only [m64,m66,m67]
 refine ⟨⟨HLe_nil _,⟨.inl trivial,rfl,rfl,h1,hd,k0⟩,f1,fun h4 => ⟨⟨.inr (.inl trivial),rfl,h1,hd,k1⟩,⟨.inr (.inr trivial),rfl,h1,hd,k2⟩,f2 h4⟩⟩, ?_⟩
 exact ⟨HLe_one _ _,⟨.inl trivial,rfl,rfl,h1,hd,k0⟩,f1,fun h4 => ⟨⟨.inr (.inl trivial),rfl,h1,hd,k1⟩,⟨.inr (.inr trivial),rfl,h1,hd,k2⟩,f2 h4⟩⟩
end
end Go.Proofs.Ytdnefcjbcieecaa
namespace Go.Proofs.Ytdnefcjbcieecaa
open Go Go.Proofs
noncomputable section
theorem q77:FunIs Try.prog 77 G77 c77 r77 := ⟨Try.f77,Try.func77,k77,e77,by kernel_rfl,by kernel_rfl⟩
theorem pad_get {h:Heap} {k i:Nat} {x:Blk} (hx:(h ++ List.replicate k none)[i]? = some (some x)):h[i]? = some (some x) := by
 rcases Nat.lt_or_ge i h.length with g | g
 ·rwa [List.getElem?_append_left g] at hx
 ·rw [List.getElem?_append_right g] at hx
  rw [List.getElem?_replicate] at hx
  split at hx <;> simp at hx
theorem StLe.pad {n sz:Nat} {env:Env} {h:Heap} (k:Nat):StLe n sz env h env (h ++ List.replicate k none) := by
 intro M w a hs hn hE
 have hlive:∀ b,liveBlk M (h ++ List.replicate k none) b → liveBlk M h b := fun b ⟨j,blk,r,hj,hr,hb⟩ => ⟨j,blk,r,pad_get hj,hr,hb⟩
 have hs2:Sim M (h ++ List.replicate k none) w := ⟨fun i blk hi => hs.blks i blk (pad_get hi),fun i j bi bj ri rj b hi hj hri hrj h1 h2 => hs.inj i j bi bj ri rj b (pad_get hi) (pad_get hj) hri hrj h1 h2,
  fun b o v hv => ⟨(hs.ro b o v hv).1,fun hl => (hs.ro b o v hv).2 (hlive b hl)⟩,fun i hi => hs.dom i (by simp at hi; omega),fun b hb => ⟨(hs.df b hb).1,fun hl => (hs.df b hb).2 (hlive b hl)⟩⟩
 exact ⟨M,⟨fun _ _ _ h => h,⟨⟨fun _ h => h,fun _ _ h => h,fun _ _ _ _ h => .inl h⟩,rfl⟩,MuLe.refl M,by simp; omega,hs2,rfl,rfl,rfl,Nat.le_refl _,fun _ _ _ => rfl,fun b hb hl => hlive b hl⟩,hE⟩
def Fb:Option Blk := some (.box [vb false])
theorem w77a (c:Cmp):sx (mkX spNil) (CCode.at c77 [0]) [] leafK (envOf [Cv c]) [] [] =
  Tr.leaf CExit.normal [(1,V.rptr (Cds c) 0),(2,V.ptr 0 0 0)] [some (Blk.box [V.d (D.bool false)])] := by kernel_rfl
theorem w95b (c:Cmp):sx (mkX spNil) c95 [] (doneK r95) (envOf [.ptr 2 0 0]) [] (Wk1 Fb c []) =
  Tr.done (V.fn (Fn.func 111) [] [V.ptr 3 0 0]) [some (Blk.box [V.d (D.bool false)]),some (Blk.map []),some (Blk.box [V.d (D.int .i64 (Cmp.houses c)),V.d (D.sl false (List.length (Cmp.held c)) (enc eI (Cmp.held c))),V.d (D.sl false (List.length (Cmp.trades c)) (enc eT (Cmp.trades c))),V.d (D.sl false (List.length (Cmp.divs c)) (enc eV (Cmp.divs c))),V.d (D.sl false (List.length (Cmp.splits c)) (enc eS (Cmp.splits c))),V.d (D.sl false (List.length (Cmp.closed c)) (enc eR (Cmp.closed c))),V.mp 1]),some (Blk.box [V.ptr 2 0 0])] := by kernel_rfl
def Wc2:Option Blk := some (.box [.ptr 2 0 0])
def ent95b (c:Cmp):Ent := fun args h => some (args = [.ptr 2 0 0] ∧ h = Wk1 Fb c [],.fn (.func 111) [] [.ptr 3 0 0],some (Wk1 Fb c [] ++ [Wc2]))
theorem ent95b_ok (c:Cmp):EntOk Try.prog 95 (ent95b c) := by
 intro args h p v ho he hp
 unfold ent95b at he
 cases he
 obtain ⟨rfl,rfl⟩ := hp
 refine q95.calls (X := mkX spNil) (spNil_ok _) rfl (w95b c) ?_
 exact ⟨rfl,rfl⟩
def X77 (c:Cmp):Sx := mkX (spAdd 72 ent72x (spAdd 95 (ent95b c) spNil))
theorem X77_ok (c:Cmp):SpOk Try.prog (X77 c).sp := spAdd_ok ent72x_ok (spAdd_ok (ent95b_ok c) (spNil_ok _))
theorem w77b (c:Cmp):sx (X77 c) (CCode.at c77 [1,0,0]) [] leafK [(1,.rptr (Cds c) 0),(2,.ptr 0 0 0)] [] [Fb] =
  Tr.need (Cv (dCe c) = Cv c) (Tr.need ([V.ptr 2 0 0] = [V.ptr 2 0 0] ∧ Wk1 Fb (dCe c) [] = Wk1 Fb c []) (Tr.leaf CExit.normal [(2,V.ptr 0 0 0),(5,V.fn (Fn.func 111) [] [V.ptr 3 0 0])] [some (Blk.box [V.d (D.bool false)]),some (Blk.map []),some (Blk.box [V.d (D.int .i64 (Cmp.houses c)),V.d (D.sl false (List.length (Cmp.held c)) (enc eI (Cmp.held c))),V.d (D.sl false (List.length (Cmp.trades c)) (enc eT (Cmp.trades c))),V.d (D.sl false (List.length (Cmp.divs c)) (enc eV (Cmp.divs c))),V.d (D.sl false (List.length (Cmp.splits c)) (enc eS (Cmp.splits c))),V.d (D.sl false (List.length (Cmp.closed c)) (enc eR (Cmp.closed c))),V.mp 1]),some (Blk.box [V.ptr 2 0 0])])) := by kernel_rfl
def E77:Env := [(2,.ptr 2 0 0),(5,.fn (.func 111) [] [.ptr 6 0 0])]
def E77a:Env := [(2,.ptr 0 0 0),(5,.fn (.func 111) [] [.ptr 3 0 0])]
def L77 (e:Env) (st:LoopState) (pe:Option CExit):LoopB := ⟨G77,CCode.at c77 [1,0,1,0,0],CCode.at c77 [1,0,1,0,1],[6],e,st,pe⟩
theorem b77 (c:Cmp) (km:List (Int × Int × Int)) (b7:Option Blk) (t:Tru):sx (mkX spNil) (CCode.at c77 [1,0,1,0,1]) [] leafK ((6,Uv t) :: E77) [] (HI c km Fb none none none b7 none t []) =
  Tr.leaf CExit.ret [(2,V.ptr 2 0 0)] [some (Blk.map (List.map entE km)),some (Blk.box [V.d (D.int .i64 (Cmp.houses c)),V.d (D.sl false (List.length (Cmp.held c)) (enc eI (Cmp.held c))),V.d (D.sl false (List.length (Cmp.trades c)) (enc eT (Cmp.trades c))),V.d (D.sl false (List.length (Cmp.divs c)) (enc eV (Cmp.divs c))),V.d (D.sl false (List.length (Cmp.splits c)) (enc eS (Cmp.splits c))),V.d (D.sl false (List.length (Cmp.closed c)) (enc eR (Cmp.closed c))),V.mp 0]),some (Blk.box [V.d (D.bool true)]),none,none,none,some (Blk.box [V.ptr 1 0 0]),b7,none,some (Blk.box [V.yl 7]),some (Blk.box [V.d (D.sl false (List.length (Tru.sold t)) (enc eI (Tru.sold t))),V.d (D.sl false (List.length (Tru.deliv t)) (enc eI (Tru.deliv t)))]),some (Blk.box [V.fn (Fn.func 112) [] [V.ptr 6 0 0,V.ptr 10 0 0,V.ptr 9 0 0,V.ptr 11 0 0]])] := by kernel_rfl
def K77 (c:Cmp):Cons Bool where
 c := c
 step := fun _ _ => (false,true)
 A := fun b s => s = !b
 b2 := fun s => some (.box [vb s])
 b3 := fun _ => none
 b4 := fun _ => none
 b5 := fun _ => none
 b7 := fun s => some (.loop (L77 E77 (bif s then .done else .ready) (bif s then some .ret else none)))
 b8 := fun _ => none
 kmY := fun _ km => km
theorem K77_ok {c:Cmp} (hf:faultM c = 0):(K77 c).Ok where
 fault := hf
 bel := fun b s _ => by
  simp only [K77,List.all_cons,List.all_nil,Bool.and_true]
  rfl
 yl := by
  intro t s km hA hkm hdt hfit
  have hs:s = false := hA
  subst hs
  refine AYield.of_body (L := L77 E77 .ready none) rfl rfl rfl ?_
  show (LoopState.ready = LoopState.ready) ∧ wpc Try.prog G77 12 (CCode.at c77 [1,0,1,0,1]) (endR 7 _) ((6,Uv t) :: E77) (HI c km Fb none none none (some (.loop (L77 E77 .busy none))) none t [])
  refine ⟨rfl, ?_⟩
  refine sx_sound (X := mkX spNil) (R := fun _ _ => True) (spNil_ok _) _ [] leafK _ [] _ leafK_ok (.nil _) ?_
  rw [b77]
  show (K77 c).P (false,km,true) (vb false) _
  exact ⟨rfl,rfl,hkm,t,[],rfl⟩
theorem run77 {c:Cmp}:∀ (l:List Tru) (km:List (Int × Int × Int)),(runY (K77 c).stepZ l (km,false)).1 = (l.filter fun t => fitsB c t).isEmpty
 | [],km => rfl
 | t :: l,km => by
  rw [runY,List.filter_cons]
  by_cases h:fitsB c t = true
  ·have e:(K77 c).stepZ t (km,false) = (false,kmF c t km (kEnd c t),true) := by unfold Cons.stepZ; rw [if_pos (show fitsB (K77 c).c t = true from h)]; rfl
   rw [e,if_neg (show ¬ (false = true) by decide),if_pos h]; rfl
  ·have e:(K77 c).stepZ t (km,false) = (true,kmF c t km (kEnd c t),false) := by unfold Cons.stepZ; rw [if_neg (show ¬ fitsB (K77 c).c t = true from h)]; rfl
   rw [e,if_pos rfl,if_neg h]
   exact run77 l _
def p7:Nat → Nat
 | 0 => 1
 | 1 => 2
 | 2 => 0
 | 3 => 5
 | 4 => 6
 | 5 => 7
 | 6 => 3
 | 7 => 4
 | n + 8 => n + 8
def q7' : Nat → Nat
 | 0 => 2
 | 1 => 0
 | 2 => 1
 | 3 => 6
 | 4 => 7
 | 5 => 3
 | 6 => 4
 | 7 => 5
 | n + 8 => n + 8
theorem q7_p7:∀ i,q7' (p7 i) = i
 | 0 | 1 | 2 | 3 | 4 | 5 | 6 | 7 => rfl
 | n + 8 => rfl
theorem p7_q7:∀ i,p7 (q7' i) = i
 | 0 | 1 | 2 | 3 | 4 | 5 | 6 | 7 => rfl
 | n + 8 => rfl
theorem ren77 (c:Cmp):HRen p7 ((K77 c).H9 [] false) ((Wk1 Fb c [] ++ [Wc2,some (.loop (L77 E77a .ready none))]) ++ List.replicate 4 none) := by
 refine ⟨rfl,fun i => ?_⟩
 match i with
 | 0 | 1 | 2 | 3 | 4 | 5 | 6 | 7 | 8 => rfl
 | n + 9 => simp [p7,Wk1,Wk,Cons.H9]
theorem a111b {c:Cmp} (hf:faultM c = 0):ACalls Try.prog 111 [.yl 4,.ptr 3 0 0] (Wk1 Fb c [] ++ [Wc2,some (.loop (L77 E77a .ready none))]) fun _ k =>
  ∃ b1 b2 b3 J,k = some (.box [vb (!(truthsP c).isEmpty)]) :: b1 :: b2 :: b3 :: some (.loop (L77 E77a (bif !(truthsP c).isEmpty then .done else .ready) (bif !(truthsP c).isEmpty then some .ret else none))) :: J := by
 refine ACalls.le (StLe.pad 4) (by simp) ?_
 have h := ACalls.ren q7_p7 p7_q7 (fun i hi => by
  match i,hi with
  | n + 9,_ => rfl) (ren77 c) (a111 (K77_ok hf) (s := false) (km := []) rfl (kmOk_nil c))
 refine ACalls.mono h ?_
 rintro v k ⟨v0,k0,⟨hA,hkm,J,rfl⟩,rfl,hk⟩
 have hr := run77 (c := c) (comp c c.trades ⟨[],[]⟩) []
 have hA' : (runY (K77 c).stepZ (comp c c.trades ⟨[],[]⟩) ([],false)).2.2 = !(truthsP c).isEmpty := by
  have:(runY (K77 c).stepZ (comp c c.trades ⟨[],[]⟩) ([],false)).2.2 = !(runY (K77 c).stepZ (comp c c.trades ⟨[],[]⟩) ([],false)).1 := hA
  rw [this,hr]; rfl
 have hl := hk.1
 have h0 := hk.2 2
 have h4 := hk.2 7
 have e0:∀ km s,((K77 c).H9 km s ++ J)[2]? = some (some (.box [vb s])) := fun _ _ => rfl
 have e4:∀ km s,((K77 c).H9 km s ++ J)[7]? = some (some (.loop (L77 E77 (bif s then .done else .ready) (bif s then some .ret else none)))) := fun _ _ => rfl
 rw [e0] at h0
 rw [e4] at h4
 have hlen:9 ≤ k.length := by
  rw [hl]
  show 9 ≤ ((K77 c).H9 _ _ ++ J).length
  rw [List.length_append]
  have:((K77 c).H9 (runY (K77 c).stepZ (comp (K77 c).c (K77 c).c.trades ⟨[],[]⟩) ([],false)).2.1 (runY (K77 c).stepZ (comp (K77 c).c (K77 c).c.trades ⟨[],[]⟩) ([],false)).2.2).length = 9 := rfl
  omega
 rcases k with _ | ⟨x0,_ | ⟨x1,_ | ⟨x2,_ | ⟨x3,_ | ⟨x4,k⟩⟩⟩⟩⟩
 ·simp at hlen
 ·simp at hlen
 ·simp at hlen
 ·simp at hlen
 ·simp at hlen
 have g0:x0 = some (.box [vb (runY (K77 c).stepZ (comp c c.trades ⟨[],[]⟩) ([],false)).2.2]) := Option.some.inj h0
 have g4:x4 = some (.loop (L77 E77a (bif (runY (K77 c).stepZ (comp c c.trades ⟨[],[]⟩) ([],false)).2.2 then .done else .ready) (bif (runY (K77 c).stepZ (comp c c.trades ⟨[],[]⟩) ([],false)).2.2 then some .ret else none))) := Option.some.inj h4
 rw [hA'] at g0 g4
 exact ⟨x1,x2,x3,k,by rw [g0,g4]⟩
theorem w77c (b0:Bool) (b1 b2 b3:Option Blk) (J:Heap):sx (mkX spNil) (CCode.at c77 [1,1]) [] (doneK r77) E77a [] (some (.box [vb b0]) :: b1 :: b2 :: b3 :: none :: J) =
  Tr.done (V.d (D.bool false)) (some (Blk.box [V.d (D.bool false)]) :: b1 :: b2 :: b3 :: none :: J) := by kernel_rfl
theorem y77 (c:Cmp) (hf:faultM c = 0):Yields Try.prog 77 [Cv c] (vb (!(truthsP c).isEmpty)) := by
 refine .of rfl rfl ?_
 obtain ⟨fn,h1,h2,h3,h4,h5⟩ := q77
 refine acalls_of h1 h2 h3 h4 h5 (show 1 ≤ G77.sz by decide) ?_
 show wpc Try.prog G77 0 (.seq (CCode.at c77 [0]) (.seq (.seq (CCode.at c77 [1,0,0]) (.block 0 (.rangeF (.tmp 5) [6] (CCode.at c77 [1,0,1,0,0]) (CCode.at c77 [1,0,1,0,1])))) (CCode.at c77 [1,1]))) _ _ _
 refine wpc_seq' (wpc_tree (X := mkX spNil) (spNil_ok _) (w77a c) ?_)
 refine wpc_seq' (wpc_seq' (wpc_tree (X := X77 c) (X77_ok c) (w77b c) ?_))
 have hC:Cv (dCe c) = Cv c := by simp only [dCe,dC_enc]
 simp only [holds,dCe,dC_enc,true_and]
 refine wpc_block' ?_
 show callF Try.prog (.fn (.func 111) [] [.ptr 3 0 0]) [.yl 4] (Wk1 Fb c [] ++ [Wc2,some (.loop (L77 E77a .ready none))]) fun _ h' => doneR 4 E77a h' _
 refine ACalls.mono (a111b hf) ?_
 rintro v k ⟨b1,b2,b3,J,rfl⟩
 generalize (!(truthsP c).isEmpty) = b
 show (bif b then LoopState.done else LoopState.ready) ≠ LoopState.busy ∧ _
 cases b with
 | true =>
  refine ⟨by decide, ?_⟩
  show resV E77a (some (.box [vb true]) :: b1 :: b2 :: b3 :: none :: J) r77 fun vs => VLe (oneV vs) (vb true)
  exact ⟨_,rfl,rfl,.refl _⟩
 | false =>
  refine ⟨by decide, ?_⟩
  show wpc Try.prog G77 0 (CCode.at c77 [1,1]) _ E77a (some (.box [vb false]) :: b1 :: b2 :: b3 :: none :: J)
  refine sx_sound (X := mkX spNil) (R := fun v _ => VLe v (vb false)) (spNil_ok _) (CCode.at c77 [1,1]) [] (doneK r77) _ [] _ (doneK_ok rfl) (.nil _) ?_
  rw [w77c]
  exact .refl _
end
end Go.Proofs.Ytdnefcjbcieecaa
namespace Go.Proofs.Ytdnefcjbcieecaa
open Go Go.Proofs
noncomputable section
theorem q97:FunIs Try.prog 97 G97 c97 r97 := ⟨Try.f97,Try.func97,k97,e97,by kernel_rfl,by kernel_rfl⟩
theorem q76:FunIs Try.prog 76 G76 c76 r76 := ⟨Try.f76,Try.func76,k76,e76,by kernel_rfl,by kernel_rfl⟩
theorem q75:FunIs Try.prog 75 G75 c75 r75 := ⟨Try.f75,Try.func75,k75,e75,by kernel_rfl,by kernel_rfl⟩
theorem q38:FunIs Try.prog 38 G38 c38 r38 := ⟨Try.f38,Try.func38,k38,e38,by kernel_rfl,by kernel_rfl⟩
theorem w97 (l:List Int) (v:Int):sx (mkX spNil) c97 [] (doneK r97) (envOf [vsl eI l,vi v]) [] [] =
  Tr.lp (CCode.at c97 [1,0,1,0,0]) [Fr.blk 0,Fr.seq (CCode.at c97 [1,1])] [(0,V.d (D.sl false (List.length l) (enc eI l))),(1,V.d (D.int .i64 v)),(7,V.d (D.int .i64 (Int.ofNat (List.length l)))),(8,V.d (D.int .i64 0))] [] := by kernel_rfl
def E97 (l:List Int) (v:Int) (k:Nat):Env := [(0,.d (.sl false l.length (enc eI l))),(1,vi v),(7,vi l.length),(8,vi k)]
theorem b97 (l:List Int) (v:Int) (k:Nat):sx (mkX spNil) (CCode.at c97 [1,0,1,0,0]) [] (bodyK r97) (E97 l v k) [] [] =
  let y0_ := (List.length l)
  let y1_ := (decide (Int.ofNat k < Int.ofNat y0_))
  let y2_ := (7,V.d (D.int .i64 (Int.ofNat y0_)))
  let y3_ := (0,V.d (D.sl false y0_ (enc eI l)))
  Tr.br y1_ (Tr.need ((0:Int) ≤ Int.ofNat k ∧ Int.ofNat k < Int.ofNat y0_ ∧ okEl [0] (enc eI l) 1 (Int.ofNat k)) (Tr.br (v == cI (enc eI l) 1 (Int.ofNat k) 0) (Tr.done (V.d (D.int .i64 (Int.ofNat k))) []) (Tr.need (-9223372036854775808 ≤ Int.ofNat k + (1:Int) ∧ Int.ofNat k + (1:Int) ≤ 9223372036854775807) (Tr.leaf CExit.normal [y3_,(1,V.d (D.int .i64 v)),y2_,(8,V.d (D.int .i64 (Int.ofNat k + (1:Int))))] [])))) (Tr.leaf (CExit.exit 0) [y3_,(1,V.d (D.int .i64 v)),y2_,(8,V.d (D.int .i64 (Int.ofNat k))),(9,V.d (D.bool y1_))] []) := by kernel_rfl
theorem x97 (u0 u1 u2 u3:V) (b:Bool):sS (mkX spNil) (doneK r97) [Fr.blk 0,Fr.seq (CCode.at c97 [1,1])] (.exit 0) [(0,u0),(1,u1),(7,u2),(8,u3),(9,vb b)] [] [] =
  Tr.done (V.d (D.int .i64 (-1:Int))) [] := by kernel_rfl
def idx:List Int → Int → Nat
 | [],_ => 0
 | x :: l,v => if x = v then 0 else idx l v + 1
theorem idx_at:∀ (l:List Int) (v:Int) (k:Nat),k ≤ l.length → (∀ j,j < k → lat l (j:Nat) ≠ v) → (k < l.length → lat l (k:Nat) = v) → idx l v = k
 | [],v,k,h,_,_ => by simp at h; simp [idx,h]
 | x :: l,v,0,h,_,he => by
  have:x = v := by simpa [lat] using he (by simp)
  simp [idx,this]
 | x :: l,v,k + 1,h,hn,he => by
  have h0:x ≠ v := by simpa [lat] using hn 0 (by omega)
  rw [idx,if_neg h0,idx_at l v k (by simpa using h) (fun j hj => by simpa [lat] using hn (j + 1) (by omega)) (fun hk => by simpa [lat] using he (by simpa using hk))]
def hasI (l:List Int) (v:Int):Bool := decide (idx l v < l.length)
theorem y97 (l:List Int) (v:Int) (hl:l.length ≤ 1000000):Yields Try.prog 97 [vsl eI l,vi v] (vi (if idx l v < l.length then (idx l v:Nat) else -1)) := by
 refine q97.yieldsK (X := mkX spNil) (spNil_ok _) rfl rfl rfl (w97 l v) ?_
 simp only [holds]
 refine lp_countK (X := mkX spNil) (spNil_ok _) rfl l.length (fun k => ∀ j,j < k → lat l (j:Nat) ≠ v) (fun k => E97 l v k) (fun _ => []) rfl rfl (fun j hj => by omega) (fun k _ => ⟨rfl,rfl,rfl⟩) ?_
 intro k hk hA Q' hn he
 rw [b97]
 simp only [holds,Int.ofNat_eq_natCast,cI_I]
 refine ⟨fun e1 => ?_,fun e1 => ?_⟩
 ·have hlt:k < l.length := by have := of_decide_eq_true e1; omega
  refine ⟨⟨by omega,by omega,ok_I (by omega)⟩,fun h2 => ?_,fun h2 => ⟨⟨by omega,by omega⟩,hn [] hlt fun j hj => ?_⟩⟩
  ·have h2:lat l (k:Nat) = v := by simpa using (eq_comm.1 (eq_of_beq h2))
   have e := idx_at l v k hk hA (fun _ => h2)
   rw [if_pos (by omega),e]
   exact .refl _
  ·rcases Nat.lt_or_ge j k with g | g
   ·exact hA j g
   ·have:j = k := by omega
    subst this
    intro h
    rw [h] at h2
    simp at h2
 ·have hge:k = l.length := by have := of_decide_eq_false e1; omega
  subst hge
  refine he _ _ _ (ret_tree (X := mkX spNil) (R := fun v1 _ => VLe v1 (vi (if idx l v < l.length then (idx l v:Nat) else -1))) (spNil_ok _) (doneK_ok rfl) (x97 _ _ _ _ _) ?_)
  have e := idx_at l v l.length (Nat.le_refl _) hA (fun h => by omega)
  rw [e,if_neg (by omega)]
  exact .refl _
def ent97:Ent := fun args _ => match args with
 | [.d (.sl false n cs),.d (.int .i64 v)] => some (enc eI (dec 1 gI n cs) = cs ∧ n ≤ 1000000,vi (if idx (dec 1 gI n cs) v < (dec 1 gI n cs).length then (idx (dec 1 gI n cs) v:Nat) else -1),none)
 | _ => none
theorem ent97_ok:EntOk Try.prog 97 ent97 := by
 intro args h p v h' he hp
 unfold ent97 at he
 split at he
 ·cases he
  rw [show V.d (.sl false _ _) = vsl eI (dec 1 gI _ _) from (by unfold vsl dsl; rw [hp.1,dec_len])]
  exact y97 _ _ (by rw [dec_len]; exact hp.2) h
 ·cases he
def tab76:Spec := (spAdd 97 ent97 spNil)
theorem tab76_ok:SpOk Try.prog tab76 := (spAdd_ok ent97_ok (spNil_ok _))
def X76:Sx := mkX tab76
theorem X76_ok:SpOk Try.prog X76.sp := tab76_ok
theorem w76 (l:List Int) (v:Int):sx X76 c76 [] (doneK r76) (envOf [vsl eI l,vi v]) [] [] =
  let y0_ := (dec 1 gI (List.length l) (enc eI l))
  Tr.need (enc eI y0_ = enc eI l ∧ List.length l ≤ 1000000) (Tr.done (V.d (D.bool (decide ((0:Int) ≤ if idx y0_ v < List.length y0_ then Int.ofNat (idx y0_ v) else (-1:Int))))) []) := by kernel_rfl
theorem y76 (l:List Int) (v:Int) (hl:l.length ≤ 1000000):Yields Try.prog 76 [vsl eI l,vi v] (vb (hasI l v)) := by
 refine q76.yieldsK X76_ok rfl rfl rfl (w76 l v) ?_
 simp only [holds,dec_I,true_and]
 refine ⟨hl,.of_eq (congrArg vb ?_)⟩
 unfold hasI
 by_cases h:idx l v < l.length
 ·rw [if_pos h]; simp; omega
 ·rw [if_neg h]; simp; omega
def ent77 := entC (fun c => faultM c = 0) (fun c => vb (!(truthsP c).isEmpty))
theorem ent77_ok:EntOk Try.prog 77 ent77 := entC_ok fun c h => y77 c h
def ent76x (l:List Int):Ent := fun args _ => match args with
 | [o,.d (.int .i64 v)] => some (o = vsl eI l ∧ l.length ≤ 1000000,vb (hasI l v),none)
 | _ => none
theorem ent76x_ok (l:List Int):EntOk Try.prog 76 (ent76x l) := by
 intro args h p v h' he hp
 unfold ent76x at he
 split at he
 ·cases he
  rw [hp.1]
  exact y76 _ _ hp.2 h
 ·cases he
def X75 (l:List Int):Sx := { mkX (spAdd 76 (ent76x l) (spAdd 77 ent77 spNil)) with sfz := true }
theorem X75_ok (l:List Int):SpOk Try.prog (X75 l).sp := spAdd_ok (ent76x_ok l) (spAdd_ok ent77_ok (spNil_ok _))
def Cb6 (c:Cmp) (v:V):List V := [vi c.houses,.d (.sl false c.held.length (enc eI c.held)),v,.d (.sl false c.divs.length (enc eV c.divs)),.d (.sl false c.splits.length (enc eS c.splits)),.d (.sl false c.closed.length (enc eR c.closed))]
def H75 (c:Cmp) (fo:D) (rest:Heap):Heap := some (.box (Cb6 c (.d (.sl false c.trades.length (enc eT c.trades))))) :: some (.box [.d fo]) :: some (.box [.fn (.func 75) [] [.ptr 0 0 0,.ptr 1 0 0,.ptr 2 0 0]]) :: rest
theorem w75 (c:Cmp) (l:List Int) (fo:D) (f:Int):sx (X75 l) c75 [] (doneK r75) (envOf [vsl eI l,vi f,vi 0,.ptr 0 0 0,.ptr 1 0 0,.ptr 2 0 0]) [] (H75 c fo []) =
  let x1_ := (List.length (Cmp.trades c))
  let x2_ := (D.sl false x1_ (enc eT (Cmp.trades c)))
  let x3_ := (D.int .i64 0)
  let x4_ := (D.int .i64 (Cmp.houses c))
  let x5_ := (D.sl false (List.length (Cmp.held c)) (enc eI (Cmp.held c)))
  let x6_ := (D.sl false (List.length (Cmp.divs c)) (enc eV (Cmp.divs c)))
  let x7_ := (D.sl false (List.length (Cmp.splits c)) (enc eS (Cmp.splits c)))
  let x8_ := (D.sl false (List.length (Cmp.closed c)) (enc eR (Cmp.closed c)))
  let x9_ := (Blk.box [V.d x4_,V.d x5_,V.d x2_,V.d x6_,V.d x7_,V.d x8_])
  let x10_ := (Blk.box [V.fn (Fn.func 75) [] [V.ptr 0 0 0,V.ptr 1 0 0,V.ptr 2 0 0]])
  let y0_ := (0,V.d (D.sl false (List.length l) (enc eI l)))
  Tr.br ((0:Int) == (0:Int)) (Tr.lp (CCode.at c75 [1,0,1,0,1,1,0,1,0,0]) [Fr.blk 0,Fr.seq (CCode.at c75 [1,0,1,0,1,1,1]),Fr.seq (CCode.at c75 [1,1])] [y0_,(4,V.ptr 1 0 0),(10,V.ptr 3 0 0),(19,V.d x2_),(20,V.d (D.int .i64 (Int.ofNat x1_))),(21,V.d x3_)] [some x9_,some (Blk.box [V.d fo]),some x10_,some (Blk.box [V.d x4_,V.d x5_,V.d D.nils,V.d x6_,V.d x7_,V.d x8_])]) (Tr.lp (CCode.at c75 [1,1,0,1,0,0]) [Fr.blk 2,Fr.seq (CCode.at c75 [1,1,1])] [y0_,(2,V.d x3_),(3,V.ptr 0 0 0),(5,V.ptr 2 0 0),(13,V.d (D.int .i64 f))] [some x9_,some (Blk.box [V.d fo]),some x10_]) := by kernel_rfl
def E75 (c:Cmp) (l:List Int) (k:Nat):Env := [(0,vsl eI l),(4,.ptr 1 0 0),(10,.ptr 3 0 0),(19,.d (.sl false c.trades.length (enc eT c.trades))),(20,vi c.trades.length),(21,vi k)]
theorem b75 (c:Cmp) (l:List Int) (fo:D) (r:List Trd) (k:Nat):sx (X75 l) (CCode.at c75 [1,0,1,0,1,1,0,1,0,0]) [] leafK (E75 c l k) [] (H75 c fo [some (.box (Cb6 c (.own 4 r.length r.length))),some (.row 93 7 r.length (enc eT r))]) =
  let x1_ := (List.length (Cmp.trades c))
  let x2_ := (decide (Int.ofNat k < Int.ofNat x1_))
  let x3_ := (D.sl false (List.length l) (enc eI l))
  let y1_ := (enc eT (Cmp.trades c))
  let x4_ := (cI y1_ 7 (Int.ofNat k) 0)
  let x5_ := (cI y1_ 7 (Int.ofNat k) 1)
  let x6_ := (cI y1_ 7 (Int.ofNat k) 2)
  let x7_ := (cI y1_ 7 (Int.ofNat k) 3)
  let x8_ := (cI y1_ 7 (Int.ofNat k) 4)
  let x9_ := (cI y1_ 7 (Int.ofNat k) 5)
  let x10_ := (cI y1_ 7 (Int.ofNat k) 6)
  let x11_ := [D.int .i64 x4_,D.int .i64 x5_,D.int .i64 x6_,D.int .i64 x7_,D.int .i64 x8_,D.int .i64 x9_,D.int .i64 x10_]
  let x12_ := (List.length r + 1)
  let x13_ := (-9223372036854775808 ≤ Int.ofNat k + (1:Int) ∧ Int.ofNat k + (1:Int) ≤ 9223372036854775807)
  let x14_ := (D.sl false x1_ y1_)
  let x15_ := (D.int .i64 (Cmp.houses c))
  let x16_ := (D.sl false (List.length (Cmp.held c)) (enc eI (Cmp.held c)))
  let x17_ := (D.sl false (List.length (Cmp.divs c)) (enc eV (Cmp.divs c)))
  let x18_ := (D.sl false (List.length (Cmp.splits c)) (enc eS (Cmp.splits c)))
  let x19_ := (D.sl false (List.length (Cmp.closed c)) (enc eR (Cmp.closed c)))
  let x20_ := (Blk.box [V.d x15_,V.d x16_,V.d x14_,V.d x17_,V.d x18_,V.d x19_])
  let x21_ := (Blk.box [V.fn (Fn.func 75) [] [V.ptr 0 0 0,V.ptr 1 0 0,V.ptr 2 0 0]])
  let y3_ := (List.length r)
  let x22_ := (Nat.add y3_ 1)
  let x23_ := (Blk.box [V.d (D.int .i64 x4_),V.d (D.int .i64 x5_),V.d (D.int .i64 x6_),V.d (D.int .i64 x7_),V.d (D.int .i64 x8_),V.d (D.int .i64 x9_),V.d (D.int .i64 x10_)])
  let x24_ := (Blk.box [V.d x15_,V.d x16_,V.own 4 y3_ y3_,V.d x17_,V.d x18_,V.d x19_])
  let x25_ := (Blk.row 93 7 y3_ (enc eT r))
  let y2_ := (20,V.d (D.int .i64 (Int.ofNat x1_)))
  let y0_ := [(0,V.d x3_),(4,V.ptr 1 0 0),(10,V.ptr 3 0 0),(19,V.d x14_),y2_,(21,V.d (D.int .i64 (Int.ofNat k + (1:Int))))]
  Tr.br x2_ (Tr.need ((0:Int) ≤ Int.ofNat k ∧ Int.ofNat k < Int.ofNat x1_ ∧ okEl [0,0,0,0,0,0,0] y1_ 7 (Int.ofNat k)) (Tr.need (V.d x3_ = vsl eI l ∧ List.length l ≤ 1000000) (Tr.br (!hasI l (Int.ofNat k)) (Tr.need (List.length r = List.length r ∧ 93 = 93 ∧ 7 = 7 ∧ List.length (enc eT r) = List.length r * 7 ∧ List.length x11_ = 1 * 7 ∧ List.length r + 1 ≤ 140737488355328 ∧ x12_ * 56 ≤ 140737488355328) (Tr.need x13_ (Tr.leaf CExit.normal y0_ [some x20_,some (Blk.box [V.d fo]),some x21_,some (Blk.box [V.d x15_,V.d x16_,V.own 4 x22_ x12_,V.d x17_,V.d x18_,V.d x19_]),some (Blk.row 93 7 x22_ (enc eT r ++ x11_)),some x23_]))) (Tr.need x13_ (Tr.leaf CExit.normal y0_ [some x20_,some (Blk.box [V.d fo]),some x21_,some x24_,some x25_,some x23_]))))) (Tr.leaf (CExit.exit 0) [(0,V.d x3_),(4,V.ptr 1 0 0),(10,V.ptr 3 0 0),(19,V.d x14_),y2_,(21,V.d (D.int .i64 (Int.ofNat k))),(22,V.d (D.bool x2_))] [some x20_,some (Blk.box [V.d fo]),some x21_,some x24_,some x25_]) := by kernel_rfl
theorem x75 (c:Cmp) (l:List Int) (fo:D) (r:List Trd) (k:Nat) (b:Bool):sS (X75 l) (doneK r75) [Fr.blk 0,Fr.seq (CCode.at c75 [1,0,1,0,1,1,1]),Fr.seq (CCode.at c75 [1,1])] (.exit 0) [(0,vsl eI l),(4,.ptr 1 0 0),(10,.ptr 3 0 0),(19,.d (.sl false c.trades.length (enc eT c.trades))),(20,vi c.trades.length),(21,vi k),(22,vb b)] [] (H75 c fo [some (.box (Cb6 c (.own 4 r.length r.length))),some (.row 93 7 r.length (enc eT r))]) =
  let x1_ := (List.length r = List.length r)
  let x2_ := (List.length (Cmp.held c))
  let x3_ := (List.length (Cmp.divs c))
  let x4_ := (List.length (Cmp.splits c))
  let x5_ := (List.length (Cmp.closed c))
  let x6_ := (dC (Cmp.houses c) x2_ (enc eI (Cmp.held c)) (List.length r) (enc eT r) x3_ (enc eV (Cmp.divs c)) x4_ (enc eS (Cmp.splits c)) x5_ (enc eR (Cmp.closed c)))
  let x7_ := (D.int .i64 (Cmp.houses c))
  let x8_ := (D.sl false x2_ (enc eI (Cmp.held c)))
  let x9_ := (D.sl false x3_ (enc eV (Cmp.divs c)))
  let x10_ := (D.sl false x4_ (enc eS (Cmp.splits c)))
  let x11_ := (D.sl false x5_ (enc eR (Cmp.closed c)))
  let x12_ := [V.d x7_,V.d x8_,V.d (D.sl false (List.length r) (enc eT r)),V.d x9_,V.d x10_,V.d x11_]
  Tr.need x1_ (Tr.need x1_ (Tr.need (Cv x6_ = V.agg x12_ ∧ faultM x6_ = (0:Int)) (Tr.done (V.d (D.bool !List.isEmpty (truthsP x6_))) [some (Blk.box [V.d x7_,V.d x8_,V.d (D.sl false (List.length (Cmp.trades c)) (enc eT (Cmp.trades c))),V.d x9_,V.d x10_,V.d x11_]),some (Blk.box [V.d (D.sl false (List.length l) (enc eI l))]),some (Blk.box [V.fn (Fn.func 75) [] [V.ptr 0 0 0,V.ptr 1 0 0,V.ptr 2 0 0]]),some (Blk.box x12_),none]))) := by kernel_rfl
def keptK (c:Cmp) (l:List Int):Nat → List Trd
 | 0 => []
 | k + 1 => if hasI l (k:Nat) = true then keptK c l k else keptK c l k ++ [lat c.trades (k:Nat)]
def Cmp.keep (c:Cmp) (l:List Int):Cmp := { c with trades := keptK c l c.trades.length }
theorem keptK_len (c:Cmp) (l:List Int):∀ k,(keptK c l k).length ≤ k
 | 0 => Nat.le_refl _
 | k + 1 => by
  have := keptK_len c l k
  rw [keptK]
  split
  ·omega
  ·simp; omega
theorem a75_0 (c:Cmp) (l:List Int) (fo:D) (f:Int) (hf:faultM c = 0) (hfk:faultM (c.keep l) = 0) (hl:l.length ≤ 1000000) :
  ACalls Try.prog 75 [vsl eI l,vi f,vi 0,.ptr 0 0 0,.ptr 1 0 0,.ptr 2 0 0] (H75 c fo []) fun v h => v = vb (!(truthsP (c.keep l)).isEmpty) ∧ h = H75 c (dsl eI l) [] := by
 have hb := (fault_ok hf).1
 refine ACalls.cutAt (q75.calls (X75_ok l) (show Nat.ble 6 G75.sz = true from rfl) (w75 c l fo f) ?_)
 simp only [holds]
 refine ⟨fun _ => ?_,fun h => by simp at h⟩
 refine LoopP.state (StLe.ghostBox (id := 3) (off := 2) 93 7 rfl rfl) ?_
 refine lp_count (X75_ok l) c.trades.length (fun _ => True) (fun k => E75 c l k) (fun k => H75 c fo [some (.box (Cb6 c (.own 4 (keptK c l k).length (keptK c l k).length))),some (.row 93 7 (keptK c l k).length (enc eT (keptK c l k)))]) rfl rfl trivial (fun k _ => ⟨rfl,rfl,rfl⟩) ?_
 intro k hk _ Q' hn he hr
 rw [b75]
 have hlen := keptK_len c l k
 simp only [holds,Int.ofNat_eq_natCast,len_T,true_and,and_true,List.length_cons,List.length_nil,Nat.add_eq,cI_T0,cI_T1,cI_T2,cI_T3,cI_T4,cI_T5,cI_T6]
 refine ⟨fun e1 => ?_,fun e1 => ?_⟩
 ·have hlt:k < c.trades.length := by have := of_decide_eq_true e1; omega
  have hn := fun J => hn J hlt trivial
  refine ⟨⟨by omega,by omega,ok_T (by omega)⟩,⟨rfl,hl⟩,fun h2 => ?_,fun h2 => ?_⟩
  ·have h2:¬ hasI l (k:Nat) = true := by simpa using h2
   simp only [keptK,if_neg h2,List.length_append,List.length_cons,List.length_nil,enc_append,enc_one] at hn
   refine ⟨⟨by omega,by omega⟩,⟨by omega,by omega⟩, ?_⟩
   exact hn [_]
  ·have h2:hasI l (k:Nat) = true := by simpa using h2
   simp only [keptK,if_pos h2] at hn
   exact ⟨⟨by omega,by omega⟩,hn [_]⟩
 ·have hge:k = c.trades.length := by have := of_decide_eq_false e1; omega
  subst hge
  refine he _ _ _ (ret_tree (R := fun v1 h1 => ∃ m,(H75 c fo []).length ≤ m ∧ m ≤ h1.length ∧ bel2 m v1 = true ∧ (h1.take m).all (blkBel m) = true ∧ (v1 = vb (!(truthsP (c.keep l)).isEmpty) ∧ h1.take m = H75 c (dsl eI l) [])) (X75_ok l) (doneK_ok rfl) (x75 _ _ _ _ _ _) ?_)
  have hK:dC c.houses c.held.length (enc eI c.held) (keptK c l c.trades.length).length (enc eT (keptK c l c.trades.length)) c.divs.length (enc eV c.divs) c.splits.length (enc eS c.splits) c.closed.length (enc eR c.closed) = c.keep l := by
   simp only [dC,dec_I,dec_T,dec_V,dec_S,dec_R]; rfl
  simp only [holds,true_and,hK]
  exact ⟨⟨rfl,hfk⟩,3,Nat.le_refl _,by simp,rfl,rfl,rfl,rfl⟩
theorem ACalls.frz {P:Program} {f:FuncId} {vs:List V} {h:Heap} {id g:Nat} {ds:List D} {b:Option Blk} {R:V → Heap → Prop} (hb:h[id]? = some b) (hd:blkDs b = some (g,ds)) (hc:ACalls P f (vs.map (fzV id g ds)) (fzH id g ds h) R):ACalls P f vs h R := by
 refine ⟨hc.1,fun M w args hm hs hu => ?_⟩
 obtain ⟨M2,r,z,hs2,hnw⟩ := freeze_sim hs hb hd
 have hp := freeze_post (.refl hs (Nat.le_refl _)) z hs2 hnw
 have hu2:RepL M2 (vs.map (fzV id g ds)) args := ⟨by simpa using hu.1,fun k v c hv hcc => by
  rw [List.getElem?_map] at hv
  cases hx:vs[k]? with
  | none => rw [hx] at hv; simp at hv
  | some x =>
   rw [hx] at hv
   simp at hv
   subst hv
   exact z.rep (hu.2 k x c hx hcc)⟩
 refine (hc.2 M2 w args (hp.cc hm) hs2 hu2).mono fun e w' hq => ?_
 obtain ⟨cv,v,h2,M3,e1,p2,hv,hr⟩ := hq
 exact ⟨cv,v,h2,M3,e1,hp.trans (p2.mono (by simp [fzH])),hv,hr⟩
end
end Go.Proofs.Ytdnefcjbcieecaa
namespace Go.Proofs.Ytdnefcjbcieecaa
open Go Go.Proofs
noncomputable section
theorem keep_nil (c:Cmp):c.keep [] = c := by
 have:∀ j,j ≤ c.trades.length → keptK c [] j = c.trades.take j := by
  intro j
  induction j with
  | zero => intro _; rfl
  | succ j ih =>
   intro hj
   have hj2:j < c.trades.length := hj
   have e:lat c.trades (j:Nat) = c.trades[j] := by simp [lat,hj2]
   rw [keptK,ih (by omega),if_neg (by simp [hasI,idx]),List.take_succ_eq_append_getElem hj,e]
 unfold Cmp.keep
 rw [this _ (Nat.le_refl _),List.take_length]
def tab38t:Spec := (spAdd 52 ent52 spNil)
theorem tab38t_ok:SpOk Try.prog tab38t := (spAdd_ok ent52_ok (spNil_ok _))
def X38t:Sx := { mkX tab38t with md := fun t => bif Nat.beq t 23 then 1 else 0 }
theorem X38t_ok:SpOk Try.prog X38t.sp := tab38t_ok
theorem w38t (c:Cmp):sx X38t c38 [] (doneP r38) (envOf [Cv c]) [] [] =
  let y0_ := (List.length (Cmp.trades c))
  Tr.need (Cv (dCe c) = Cv c ∧ True) (Tr.br (faultM (dCe c) != (0:Int)) (Tr.done (V.tup [V.d D.nils,V.d (D.int .i64 (faultM (dCe c)))]) []) (Tr.need (-9223372036854775808 ≤ Int.ofNat y0_ + (1:Int) ∧ Int.ofNat y0_ + (1:Int) ≤ 9223372036854775807) (Tr.lp (CCode.at c38 [1,1,1,1,1,1,0,1,0,0]) [Fr.blk 0,Fr.seq (CCode.at c38 [1,1,1,1,1,1,1])] [(5,V.ptr 1 0 0),(6,V.ptr 2 0 0),(17,V.d (D.int .i64 (Int.ofNat y0_ + (1:Int)))),(18,V.d (D.int .i64 0))] [some (Blk.box [V.d (D.int .i64 (Cmp.houses c)),V.d (D.sl false (List.length (Cmp.held c)) (enc eI (Cmp.held c))),V.d (D.sl false y0_ (enc eT (Cmp.trades c))),V.d (D.sl false (List.length (Cmp.divs c)) (enc eV (Cmp.divs c))),V.d (D.sl false (List.length (Cmp.splits c)) (enc eS (Cmp.splits c))),V.d (D.sl false (List.length (Cmp.closed c)) (enc eR (Cmp.closed c)))]),some (Blk.box [V.d D.nils]),some (Blk.box [V.fn (Fn.func 75) [] [V.ptr 0 0 0,V.ptr 1 0 0,V.ptr 2 0 0]])]))) := by kernel_rfl
def E38t (c:Cmp) (k:Nat):Env := [(5,.ptr 1 0 0),(6,.ptr 2 0 0),(17,vi ((c.trades.length:Int) + 1)),(18,vi k)]
theorem b38t (c:Cmp) (fo:D) (k:Nat):sx X38t (CCode.at c38 [1,1,1,1,1,1,0,1,0,0]) [] leafK (E38t c k) [] (H75 c fo []) =
  let y2_ := (List.length (Cmp.trades c))
  let y5_ := [V.ptr 0 0 0,V.ptr 1 0 0,V.ptr 2 0 0]
  let y0_ := [some (Blk.box [V.d (D.int .i64 (Cmp.houses c)),V.d (D.sl false (List.length (Cmp.held c)) (enc eI (Cmp.held c))),V.d (D.sl false y2_ (enc eT (Cmp.trades c))),V.d (D.sl false (List.length (Cmp.divs c)) (enc eV (Cmp.divs c))),V.d (D.sl false (List.length (Cmp.splits c)) (enc eS (Cmp.splits c))),V.d (D.sl false (List.length (Cmp.closed c)) (enc eR (Cmp.closed c)))]),some (Blk.box [V.d fo]),some (Blk.box [V.fn (Fn.func 75) [] y5_])]
  let y1_ := (17,V.d (D.int .i64 (Int.ofNat y2_ + (1:Int))))
  let y3_ := (decide (Int.ofNat k < Int.ofNat y2_ + (1:Int)))
  let y4_ := (D.int .i64 (Int.ofNat k))
  Tr.br y3_ (Tr.clB false (V.fn (Fn.func 75) [] y5_) [V.d D.nils,V.d (D.int .i64 0),V.d y4_] y0_ fun b h' => Tr.br b (Tr.leaf (CExit.exit 0) [(5,V.ptr 1 0 0),(6,V.ptr 2 0 0),y1_,(18,V.d y4_),(23,V.d (D.bool b))] h') (Tr.need (-9223372036854775808 ≤ Int.ofNat k + (1:Int) ∧ Int.ofNat k + (1:Int) ≤ 9223372036854775807) (Tr.leaf CExit.normal [(5,V.ptr 1 0 0),(6,V.ptr 2 0 0),y1_,(18,V.d (D.int .i64 (Int.ofNat k + (1:Int))))] h'))) (Tr.leaf (CExit.exit 0) [(5,V.ptr 1 0 0),(6,V.ptr 2 0 0),y1_,(18,V.d y4_),(19,V.d (D.bool y3_))] y0_) := by kernel_rfl
theorem x38t (c:Cmp) (fo:D) (u0:V) (k:Int) (b:Bool):sS X38t (doneP r38) [Fr.blk 0,Fr.seq (CCode.at c38 [1,1,1,1,1,1,1])] (.exit 0) [(5,.ptr 1 0 0),(6,.ptr 2 0 0),(17,u0),(18,vi k),(23,vb b)] [] (H75 c fo []) =
  Tr.done (V.tup [V.d fo,V.d (D.int .i64 0)]) [] := by kernel_rfl
theorem y38t (c:Cmp) (hf:faultM c = 0) (ht:(truthsP c).isEmpty = false):Yields Try.prog 38 [Cv c] (.tup [vsl eI [],vi 0]) := by
 have hb := (fault_ok hf).1
 refine q38.yieldsP X38t_ok rfl rfl rfl (w38t c) ?_
 simp only [holds,Int.ofNat_eq_natCast,dCe,dC_enc,true_and,hf,bne_self_eq_false,Bool.false_eq_true,false_imp_iff,true_imp_iff]
 refine ⟨⟨by omega,by omega⟩, ?_⟩
 refine lp_count X38t_ok 0 (fun _ => True) (fun k => E38t c k) (fun _ => H75 c .nils []) rfl rfl trivial (fun k _ => ⟨rfl,rfl,rfl⟩) ?_
 intro k hk _ Q' hn he hrr
 have hk:k = 0 := by omega
 subst hk
 rw [b38t]
 simp only [holds,Int.ofNat_eq_natCast]
 refine ⟨fun e1 => ?_,fun e1 => ?_⟩
 ·have h0 := a75_0 c [] .nils 0 hf (by rw [keep_nil]; exact hf) (by simp)
  have hc:ACalls Try.prog 75 [.d .nils,vi 0,vi 0,.ptr 0 0 0,.ptr 1 0 0,.ptr 2 0 0] (H75 c .nils []) _ := ACalls.args (.cons .nilsF (.cons (.refl _) (.cons (.refl _) (.cons (.refl _) (.cons (.refl _) (.cons (.refl _) .nil)))))) h0
  refine callV_holds ?_ hc
  rintro v h' ⟨rfl,rfl⟩
  rw [keep_nil,ht]
  refine ⟨_,rfl,fun h => (by cases h),fun hb1 => ?_,fun hb1 => by cases hb1⟩
  refine he _ _ _ (ret_tree (R := fun v1 h1 => VLe v1 (.tup [vsl eI [],vi 0])) X38t_ok (doneP_ok rfl) (x38t _ _ _ _ _) ?_)
  exact .refl _
 ·have := of_decide_eq_false e1
  omega
def ent38t := entC (fun c => faultM c = 0 ∧ (truthsP c).isEmpty = false) (fun _ => .tup [vsl eI [],vi 0])
theorem ent38t_ok:EntOk Try.prog 38 ent38t := entC_ok fun c h => y38t c h.1 h.2
end
end Go.Proofs.Ytdnefcjbcieecaa
namespace Go.Proofs.Ytdnefcjbcieecaa
open Go Go.Proofs
def r70:List CRes := [.tmp 2]
theorem e70:compRes Try.prog Try.f70.results.toList = some r70 := by kernel_rfl
def G5:Cfg := ⟨[11],[(0,[1,2]),(1,[1,2,18]),(2,[4]),(3,[1,2,5,6,7,8]),(4,[1,2,5,6,7,8,9]),(5,[1,2,5,6,7,8,9,41]),(6,[1,2,5,6,7,8,9]),(7,[1,2,5,6,7,8,9,10]),(8,[1,2,5,6,7,8,9,10,43]),(9,[1,2,5,6,7,8,9,10]),(10,[1,2,5,6,7,8,9,10,48]),(11,[1,2,5,6,7,8,9,10]),(12,[1,2,5,6,7,8,9,10,50]),(13,[4]),(14,[2,5,6,7,8,10,11]),(15,[2,5,6,7,8,10,11,12,13,14]),(16,[2,5,6,7,8,10,11,12,13,14,15]),(17,[2,5,6,7,8,10,11,12,13,14,15,76]),(19,[2,5,6,7,8,10,11,12,13,14,15]),(18,[2,5,6,7,8,10,11,12,13,14,15]),(20,[4])],132,[]⟩
def r5:List CRes := [.tmp 4]
def c5:CCode :=
(.seq (.region [
 rs 2 (.box false (.tmp 0)),
 mB 4 false] (some [1,2]))
(.seq (.seq (.region [
 lS 16 6 2,
 ⟨(some 17),none,.call (.func 32) [(.tmp 16),(ci 150)]⟩,
 rs 18 (.un .not (.tmp 17))] (some [1,2,18]))
(.cond (.tmp 18) (.seq (.region [
 ⟨(some 19),none,.call (.func 18) []⟩,
 mV 4 19] (some [4]))
 .ret)
 .skip))
(.seq (.region [
 lS 21 6 2,
 kL1 22 20 21,
 mV 23 1,
 kL2 24 33 22 23,
 mV 20 24,
 rs 25 (.extract (.tmp 20) 0),
 rs 26 (.extract (.tmp 20) 1),
 rs 27 (.extract (.tmp 20) 2),
 rs 28 (.extract (.tmp 20) 3),
 mV 5 25,
 mV 6 26,
 mV 7 27,
 mV 8 28] (some [1,2,5,6,7,8]))
(.seq (.region [
 lS 29 6 2,
 kL1 30 34 29,
 mV 9 30] (some [1,2,5,6,7,8,9]))
(.seq (.seq (.region [
 mV 31 9,
 rs 32 (.bin .eql (.tmp 31) (ci 0)),
 mV 33 32,
 qV 34 33 true 1,
 qA 35 33 true 3 2,
 qL 36 33 true 35,
 rg 37 33 true (.len (.tmp 36)),
 rg 38 33 true (.bin .sub (.tmp 37) (ci 1)),
 ⟨(some 39),(some (33,true)),.call (.func 23) [(.tmp 34),(ci 0),(.tmp 38)]⟩,
 rg 40 33 true (.un .not (.tmp 39)),
 pA 41 33 40] (some [1,2,5,6,7,8,9,41]))
(.cond (.tmp 41) (.region [
 mI 9 2] (some [1,2,5,6,7,8,9]))
 .skip))
(.seq (.region [
 rs 10 (.move (.const (.slice none 0 0)))] (some [1,2,5,6,7,8,9,10]))
(.seq (.seq (.region [
 mV 42 9,
 rs 43 (.bin .eql (.tmp 42) (ci 0))] (some [1,2,5,6,7,8,9,10,43]))
(.cond (.tmp 43) (.seq (.region [
 lS 44 6 2,
 kL1 45 35 44,
 mV 10 45] (some [1,2,5,6,7,8,9,10])) (.seq (.region [
 mV 46 10,
 rs 47 (.len (.tmp 46)),
 rs 48 (.bin .eql (.tmp 47) (ci 0))] (some [1,2,5,6,7,8,9,10,48])) (.cond (.tmp 48) (.region [
 mI 9 9] (some [1,2,5,6,7,8,9,10]))
 .skip)))
 .skip))
(.seq (.seq (.region [
 mV 49 9,
 rs 50 (.bin .neq (.tmp 49) (ci 0))] (some [1,2,5,6,7,8,9,10,50]))
(.cond (.tmp 50) (.seq (.region [
 mV 51 8,
 mV 52 9,
 rs 53 (.bin .eql (.tmp 51) (.tmp 52)),
 mV 54 53,
 qV 55 54 true 5,
 rg 56 54 true (.len (.tmp 55)),
 qV 57 54 true 6,
 rg 58 54 true (.len (.tmp 57)),
 rg 59 54 true (.bin .add (.tmp 56) (.tmp 58)),
 qV 60 54 true 7,
 rg 61 54 true (.len (.tmp 60)),
 rg 62 54 true (.bin .add (.tmp 59) (.tmp 61)),
 rg 63 54 true (.bin .eql (.tmp 62) (ci 0)),
 pA 64 54 63,
 mV 65 64,
 ⟨(some 66),(some (65,true)),.call (.func 18) []⟩,
 pA 67 65 66,
 mV 4 67] (some [4]))
 .ret)
 .skip))
(.seq (.region [
 fA 68 3 2,
 lD 69 68,
 mV 70 1,
 iX 71 3 69 70,
 lS 72 3 71,
 rs 11 (.alloc [(.d (.int .i64 0)),(.d (.int .i64 0)),(.d (.int .i64 0))]),
 rn (.store 3 (.tmp 11) (.tmp 72))] (some [2,5,6,7,8,10,11]))
(.seq (.region [
 rs 12 (.move (.const (.slice none 0 0))),
 rs 13 (.move (.const (.slice none 0 0))),
 rs 14 (.move (.const (.slice none 0 0)))] (some [2,5,6,7,8,10,11,12,13,14]))
(.seq (.seq (.region [
 mI 15 0] (some [2,5,6,7,8,10,11,12,13,14,15]))
(.block 0 (.loop (.seq (.seq (.region [
 mV 73 15,
 mV 74 10,
 rs 75 (.len (.tmp 74)),
 rs 76 (.bin .lss (.tmp 73) (.tmp 75))] (some [2,5,6,7,8,10,11,12,13,14,15,76])) (.cond (.tmp 76) .skip (.exit 0))) (.seq (.block 1 (.region [
 mV 79 12,
 lS 80 6 2,
 mV 81 10,
 mV 82 15,
 iX 83 2 81 82,
 lS 84 2 83,
 lS 85 3 11,
 mV 87 15,
 rs 88 (.bin .eql (.tmp 87) (ci 0)),
 mV 90 13,
 lS 91 6 2,
 mV 92 10,
 mV 93 15,
 iX 94 2 92 93,
 lS 95 2 94,
 lS 96 3 11,
 mV 98 15,
 rs 99 (.bin .eql (.tmp 98) (ci 0)),
 mV 101 14,
 lS 102 6 2,
 mV 103 10,
 mV 104 15,
 iX 105 2 103 104,
 lS 106 2 105,
 lS 107 3 11,
 mV 109 15,
 rs 110 (.bin .eql (.tmp 109) (ci 0)),
 ⟨(some 86),none,.callx (.func 29) [(.tmp 80),(.tmp 84),(.tmp 85)]⟩,
 ⟨(some 89),none,.callx (.func 36) [(.tmp 79),(.tmp 86),(.tmp 88)]⟩,
 ⟨(some 97),none,.callx (.func 30) [(.tmp 91),(.tmp 95),(.tmp 96)]⟩,
 ⟨(some 100),none,.callx (.func 36) [(.tmp 90),(.tmp 97),(.tmp 99)]⟩,
 ⟨(some 108),none,.callx (.func 31) [(.tmp 102),(.tmp 106),(.tmp 107)]⟩,
 kL3 111 36 101 108 110,
 mV 12 89,
 mV 13 100,
 mV 14 111] (some [2,5,6,7,8,10,11,12,13,14,15]))) (.region [
 mV 77 15,
 rs 78 (.bin .add (.tmp 77) (ci 1)),
 mV 15 78] (some [2,5,6,7,8,10,11,12,13,14,15])))))))
(.seq (.region [
 mV 112 8,
 rs 113 (.bin .eql (.tmp 112) (ci 0)),
 mV 114 113,
 qV 115 114 true 5,
 qV 116 114 true 12,
 ⟨(some 117),(some (114,true)),.call (.func 37) [(.tmp 115),(.tmp 116)]⟩,
 pA 118 114 117,
 mV 119 118,
 qV 120 119 true 6,
 qV 121 119 true 13,
 ⟨(some 122),(some (119,true)),.call (.func 37) [(.tmp 120),(.tmp 121)]⟩,
 pA 123 119 122,
 mV 124 123,
 qV 125 124 true 7,
 qV 126 124 true 14,
 ⟨(some 127),(some (124,true)),.call (.func 37) [(.tmp 125),(.tmp 126)]⟩,
 pA 128 124 127,
 mV 129 128,
 ⟨(some 130),(some (129,true)),.call (.func 18) []⟩,
 pA 131 129 130,
 mV 4 131] (some [4]))
.ret))))))))))))
theorem k5:Try.f5.body.bind (compC Try.prog G5) = some c5 := by kernel_rfl
theorem e5:compRes Try.prog Try.f5.results.toList = some r5 := by kernel_rfl
end Go.Proofs.Ytdnefcjbcieecaa
