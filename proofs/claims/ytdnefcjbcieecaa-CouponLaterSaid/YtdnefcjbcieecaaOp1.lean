/- Small functions of numbers and ranges. -/
import Derived.Test.YtdnefcjbcieecaaOpM
import Derived.Test.YtdnefcjbcieecaaCodeP
import Derived.Test.YtdnefcjbcieecaaCode0
import Derived.Test.YtdnefcjbcieecaaCode1
import Derived.Test.YtdnefcjbcieecaaCode2
import Derived.Test.YtdnefcjbcieecaaCode3
import Derived.Test.YtdnefcjbcieecaaCode4
import Derived.KernelRfl
set_option linter.unusedVariables false
set_option linter.unusedSimpArgs false
namespace Go.Proofs.Ytdnefcjbcieecaa
open Go Go.Proofs
noncomputable section
theorem q23 : FunIs Try.prog 23 G23 c23 r23 := ⟨Try.f23, Try.func23, k23, e23, by kernel_rfl, by kernel_rfl⟩
theorem q43 : FunIs Try.prog 43 G43 c43 r43 := ⟨Try.f43, Try.func43, k43, e43, by kernel_rfl, by kernel_rfl⟩
theorem q71 : FunIs Try.prog 71 G71 c71 r71 := ⟨Try.f71, Try.func71, k71, e71, by kernel_rfl, by kernel_rfl⟩
theorem q59 : FunIs Try.prog 59 G59 c59 r59 := ⟨Try.f59, Try.func59, k59, e59, by kernel_rfl, by kernel_rfl⟩
theorem q91 : FunIs Try.prog 91 G91 c91 r91 := ⟨Try.f91, Try.func91, k91, e91, by kernel_rfl, by kernel_rfl⟩
theorem q85 : FunIs Try.prog 85 G85 c85 r85 := ⟨Try.f85, Try.func85, k85, e85, by kernel_rfl, by kernel_rfl⟩
theorem q101 : FunIs Try.prog 101 G101 c101 r101 := ⟨Try.f101, Try.func101, k101, e101, by kernel_rfl, by kernel_rfl⟩
theorem q100 : FunIs Try.prog 100 G100 c100 r100 := ⟨Try.f100, Try.func100, k100, e100, by kernel_rfl, by kernel_rfl⟩
theorem q83 : FunIs Try.prog 83 G83 c83 r83 := ⟨Try.f83, Try.func83, k83, e83, by kernel_rfl, by kernel_rfl⟩
theorem q88 : FunIs Try.prog 88 G88 c88 r88 := ⟨Try.f88, Try.func88, k88, e88, by kernel_rfl, by kernel_rfl⟩
theorem q17 : FunIs Try.prog 17 G17 c17 r17 := ⟨Try.f17, Try.func17, k17, e17, by kernel_rfl, by kernel_rfl⟩
theorem q61 : FunIs Try.prog 61 G61 c61 r61 := ⟨Try.f61, Try.func61, k61, e61, by kernel_rfl, by kernel_rfl⟩
theorem q55 : FunIs Try.prog 55 G55 c55 r55 := ⟨Try.f55, Try.func55, k55, e55, by kernel_rfl, by kernel_rfl⟩
def X0 : Sx := mkX spNil
theorem X0_ok : SpOk Try.prog X0.sp := spNil_ok _
theorem w23 (n lo hi : Int) : sx X0 c23 [] (doneF 0 r23) (envOf [vi n, vi lo, vi hi]) [] [] =
    Tr.br (decide (lo ≤ n)) (Tr.done (V.d (D.bool (decide (n ≤ hi)))) []) (Tr.done (V.d (D.bool false)) []) := by kernel_rfl

theorem y23 (n lo hi : Int) : Yields Try.prog 23 [vi n, vi lo, vi hi] (vb (inR n lo hi)) := by
  refine q23.yields X0_ok rfl rfl rfl (w23 n lo hi) ?_
  simp only [holds]
  grind [VLe.of_eq, inR, vb]
theorem w71 (n lo hi : Int) : sx X0 c71 [] (doneF 0 r71) (envOf [vi n, vi lo, vi hi]) [] [] =
    Tr.br (decide (lo ≤ n)) (Tr.done (V.d (D.bool (decide (n ≤ hi)))) []) (Tr.done (V.d (D.bool false)) []) := by kernel_rfl

theorem y71 (n lo hi : Int) : Yields Try.prog 71 [vi n, vi lo, vi hi] (vb (inR n lo hi)) := by
  refine q71.yields X0_ok rfl rfl rfl (w71 n lo hi) ?_
  simp only [holds]
  grind [VLe.of_eq, inR, vb]
theorem w61 (r : Rng) : sx X0 c61 [] (doneF 0 r61) (envOf [Rv r]) [] [] =
    Tr.done (V.agg [V.d (D.int IntKind.i64 (Rng.lo r)), V.d (D.int IntKind.i64 (Rng.hi r))]) [] := by kernel_rfl

theorem y61 (r : Rng) : Yields Try.prog 61 [Rv r] (Rv r) := by
  refine q61.yields X0_ok rfl rfl rfl (w61 r) ?_
  simp only [holds]
  exact .refl _
theorem w55 (lo hi : Int) : sx X0 c55 [] (doneF 0 r55) (envOf [vi lo, vi hi]) [] [] =
    Tr.done (V.agg [V.d (D.int IntKind.i64 lo), V.d (D.int IntKind.i64 hi)]) [] := by kernel_rfl

theorem y55 (lo hi : Int) : Yields Try.prog 55 [vi lo, vi hi] (Rv ⟨lo, hi⟩) := by
  refine q55.yields X0_ok rfl rfl rfl (w55 lo hi) ?_
  simp only [holds]
  exact .refl _
def thin (c : Cmp) (t : Tru) : Bool := decide (c.held.length ≤ 7 ∧ c.trades.length ≤ 7 ∧ c.divs.length ≤ 7 ∧ c.splits.length ≤ 7 ∧ c.closed.length ≤ 7 ∧ t.sold.length ≤ 7 ∧ t.deliv.length ≤ 7)
theorem w17 (c : Cmp) (t : Tru) : sx X0 c17 [] (doneF 0 r17) (envOf [Cv c, Uv t]) [] [] =
    Tr.br (decide (Int.ofNat (List.length (Cmp.held c)) ≤ (7 : Int))) (Tr.br (decide (Int.ofNat (List.length (Cmp.trades c)) ≤ (7 : Int))) (Tr.br (decide (Int.ofNat (List.length (Cmp.divs c)) ≤ (7 : Int))) (Tr.br (decide (Int.ofNat (List.length (Cmp.splits c)) ≤ (7 : Int))) (Tr.br (decide (Int.ofNat (List.length (Cmp.closed c)) ≤ (7 : Int))) (Tr.br (decide (Int.ofNat (List.length (Tru.sold t)) ≤ (7 : Int))) (Tr.done (V.d (D.bool (decide (Int.ofNat (List.length (Tru.deliv t)) ≤ (7 : Int))))) []) (Tr.done (V.d (D.bool false)) [])) (Tr.done (V.d (D.bool false)) [])) (Tr.done (V.d (D.bool false)) [])) (Tr.done (V.d (D.bool false)) [])) (Tr.done (V.d (D.bool false)) [])) (Tr.done (V.d (D.bool false)) []) := by kernel_rfl

theorem y17 (c : Cmp) (t : Tru) : Yields Try.prog 17 [Cv c, Uv t] (vb (thin c t)) := by
  refine q17.yields X0_ok rfl rfl rfl (w17 c t) ?_
  simp only [holds]
  grind [VLe.of_eq, thin, vb]
/-! The table of the first functions. -/
def entIII (m : Int → Int → Int → V) : Ent := fun args h => match args with
  | [.d (.int .i64 a), .d (.int .i64 b), .d (.int .i64 c)] => some (True, m a b c, none)
  | _ => none
theorem entIII_ok {P : Program} {f : Nat} {m : Int → Int → Int → V} (hy : ∀ a b c, Yields P f [vi a, vi b, vi c] (m a b c)) : EntOk P f (entIII m) := by
  intro args h p v h' he hp
  unfold entIII at he
  split at he
  · cases he; exact hy _ _ _ h
  · cases he
def entI (m : Int → V) : Ent := fun args h => match args with
  | [.d (.int .i64 a)] => some (True, m a, none)
  | _ => none
theorem entI_ok {P : Program} {f : Nat} {m : Int → V} (hy : ∀ a, Yields P f [vi a] (m a)) : EntOk P f (entI m) := by
  intro args h p v h' he hp
  unfold entI at he
  split at he
  · cases he; exact hy _ h
  · cases he
def entII (m : Int → Int → V) : Ent := fun args h => match args with
  | [.d (.int .i64 a), .d (.int .i64 b)] => some (True, m a b, none)
  | _ => none
theorem entII_ok {P : Program} {f : Nat} {m : Int → Int → V} (hy : ∀ a b, Yields P f [vi a, vi b] (m a b)) : EntOk P f (entII m) := by
  intro args h p v h' he hp
  unfold entII at he
  split at he
  · cases he; exact hy _ _ h
  · cases he
def entR (m : Rng → V) : Ent := fun args h => match args with
  | [.agg [.d (.int .i64 a), .d (.int .i64 b)]] => some (True, m ⟨a, b⟩, none)
  | _ => none
theorem entR_ok {P : Program} {f : Nat} {m : Rng → V} (hy : ∀ r, Yields P f [Rv r] (m r)) : EntOk P f (entR m) := by
  intro args h p v h' he hp
  unfold entR at he
  split at he
  · cases he; exact hy ⟨_, _⟩ h
  · cases he
def entRI (m : Rng → Int → V) : Ent := fun args h => match args with
  | [.agg [.d (.int .i64 a), .d (.int .i64 b)], .d (.int .i64 n)] => some (True, m ⟨a, b⟩ n, none)
  | _ => none
theorem entRI_ok {P : Program} {f : Nat} {m : Rng → Int → V} (hy : ∀ r n, Yields P f [Rv r, vi n] (m r n)) : EntOk P f (entRI m) := by
  intro args h p v h' he hp
  unfold entRI at he
  split at he
  · cases he; exact hy ⟨_, _⟩ _ h
  · cases he
/-- The company that some arguments are. -/
def asC : V → Option Cmp
  | .agg [.d (.int .i64 hs), .d (.sl false n1 d1), .d (.sl false n2 d2), .d (.sl false n3 d3), .d (.sl false n4 d4), .d (.sl false n5 d5)] => some (dC hs n1 d1 n2 d2 n3 d3 n4 d4 n5 d5)
  | _ => none
def asU : V → Option Tru
  | .agg [.d (.sl false n1 d1), .d (.sl false n2 d2)] => some (dU n1 d1 n2 d2)
  | _ => none
def ent23 := entIII fun n lo hi => vb (inR n lo hi)
theorem ent23_ok : EntOk Try.prog 23 ent23 := entIII_ok y23
def ent71 := entIII fun n lo hi => vb (inR n lo hi)
theorem ent71_ok : EntOk Try.prog 71 ent71 := entIII_ok y71
def ent61 := entR fun r => Rv r
theorem ent61_ok : EntOk Try.prog 61 ent61 := entR_ok y61
def ent55 := entII fun lo hi => Rv ⟨lo, hi⟩
theorem ent55_ok : EntOk Try.prog 55 ent55 := entII_ok y55
def tab1 : Spec := (spAdd 55 ent55 (spAdd 61 ent61 (spAdd 71 ent71 (spAdd 23 ent23 spNil))))
theorem tab1_ok : SpOk Try.prog tab1 := (spAdd_ok ent55_ok (spAdd_ok ent61_ok (spAdd_ok ent71_ok (spAdd_ok ent23_ok (spNil_ok _)))))
def X1 : Sx := mkX tab1
theorem X1_ok : SpOk Try.prog X1.sp := tab1_ok
theorem w59 (n : Int) : sx X1 c59 [] (doneF 0 r59) (envOf [vi n]) [] [] =
    Tr.need True (Tr.done (V.d (D.bool (inR n (0 : Int) (11 : Int)))) []) := by kernel_rfl

theorem y59 (n : Int) : Yields Try.prog 59 [vi n] (vb (isDay n)) := by
  refine q59.yields X1_ok rfl rfl rfl (w59 n) ?_
  simp only [holds]
  grind [VLe.of_eq, isDay, inR, vb]
theorem w43 (r : Rng) : sx X1 c43 [] (doneF 0 r43) (envOf [Rv r]) [] [] =
    Tr.need True (Tr.br (inR (Rng.lo r) (0 : Int) (Rng.hi r)) (Tr.done (V.d (D.bool (decide (Rng.hi r ≤ (11 : Int))))) []) (Tr.done (V.d (D.bool false)) [])) := by kernel_rfl

theorem y43 (r : Rng) : Yields Try.prog 43 [Rv r] (vb r.days) := by
  refine q43.yields X1_ok rfl rfl rfl (w43 r) ?_
  simp only [holds]
  grind [VLe.of_eq, Rng.days, inR, vb]
theorem w85 (r : Rng) (n : Int) : sx X1 c85 [] (doneF 0 r85) (envOf [Rv r, vi n]) [] [] =
    Tr.need True (Tr.done (V.d (D.bool (inR n (Rng.lo r) (Rng.hi r)))) []) := by kernel_rfl

theorem y85 (r : Rng) (n : Int) : Yields Try.prog 85 [Rv r, vi n] (vb (r.has n)) := by
  refine q85.yields X1_ok rfl rfl rfl (w85 r n) ?_
  simp only [holds]
  grind [VLe.of_eq, Rng.has, inR, vb]
theorem w100 (c : Cmp) (n : Int) (hc : 1 ≤ c.houses) (hc2 : c.houses ≤ 9223372036854775807) : sx X1 c100 [] (doneF 0 r100) (envOf [Cv c, vi n]) [] [] =
    Tr.need ((-9223372036854775808 : Int) ≤ Cmp.houses c - (1 : Int) ∧ Cmp.houses c - (1 : Int) ≤ (9223372036854775807 : Int)) (Tr.need True (Tr.done (V.d (D.bool (inR n (0 : Int) (Cmp.houses c - (1 : Int))))) [])) := by kernel_rfl

theorem y100 (c : Cmp) (n : Int) (hc : 1 ≤ c.houses) (hc2 : c.houses ≤ 9223372036854775807) : Yields Try.prog 100 [Cv c, vi n] (vb (inR n 0 (c.houses - 1))) := by
  refine q100.yields X1_ok rfl rfl rfl (w100 c n hc hc2) ?_
  simp only [holds]
  grind [VLe.of_eq, inR, vb]
def ent59 := entI fun n => vb (isDay n)
theorem ent59_ok : EntOk Try.prog 59 ent59 := entI_ok y59
def ent43 := entR fun r => vb r.days
theorem ent43_ok : EntOk Try.prog 43 ent43 := entR_ok y43
def ent85 := entRI fun r n => vb (r.has n)
theorem ent85_ok : EntOk Try.prog 85 ent85 := entRI_ok y85
def tab2 : Spec := (spAdd 85 ent85 (spAdd 43 ent43 (spAdd 59 ent59 tab1)))
theorem tab2_ok : SpOk Try.prog tab2 := (spAdd_ok ent85_ok (spAdd_ok ent43_ok (spAdd_ok ent59_ok tab1_ok)))
def X2 : Sx := mkX tab2
theorem X2_ok : SpOk Try.prog X2.sp := tab2_ok
theorem w91 (r : Rng) : sx X2 c91 [] (doneF 0 r91) (envOf [Rv r]) [] [] =
    Tr.need True (Tr.br (isDay (Rng.lo r)) (Tr.need True (Tr.br (isDay (Rng.hi r)) (Tr.done (V.d (D.bool (decide (Rng.lo r ≤ Rng.hi r)))) []) (Tr.done (V.d (D.bool false)) []))) (Tr.done (V.d (D.bool false)) [])) := by kernel_rfl

theorem y91 (r : Rng) : Yields Try.prog 91 [Rv r] (vb r.days) := by
  refine q91.yields X2_ok rfl rfl rfl (w91 r) ?_
  simp only [holds]
  grind [VLe.of_eq, Rng.days, isDay, inR, vb]
def ent91 := entR fun r => vb r.days
theorem ent91_ok : EntOk Try.prog 91 ent91 := entR_ok y91
def tab3 : Spec := (spAdd 91 ent91 tab2)
theorem tab3_ok : SpOk Try.prog tab3 := (spAdd_ok ent91_ok tab2_ok)
def X3 : Sx := mkX tab3
theorem X3_ok : SpOk Try.prog X3.sp := tab3_ok
theorem w101 (r : Rng) : sx X3 c101 [] (doneF 0 r101) (envOf [Rv r]) [] [] =
    Tr.need True (Tr.br (Rng.days { lo := Rng.lo r, hi := Rng.hi r }) (Tr.need ((-9223372036854775808 : Int) ≤ Rng.hi r - Rng.lo r ∧ Rng.hi r - Rng.lo r ≤ (9223372036854775807 : Int)) (Tr.done (V.d (D.bool (decide (Rng.hi r - Rng.lo r ≤ (2 : Int))))) [])) (Tr.done (V.d (D.bool false)) [])) := by kernel_rfl

theorem y101 (r : Rng) : Yields Try.prog 101 [Rv r] (vb r.short) := by
  refine q101.yields X3_ok rfl rfl rfl (w101 r) ?_
  simp only [holds]
  grind [VLe.of_eq, Rng.days, Rng.short, inR, vb]
theorem w88 (d : Dvd) : sx X3 c88 [] (doneF 0 r88) (envOf [Dv d]) [] [] =
    Tr.need True (Tr.br (Rng.days { lo := Dvd.ex d, hi := Dvd.record d }) (Tr.need True (Tr.done (V.d (D.bool (inR (Dvd.pence d) (0 : Int) (50 : Int)))) [])) (Tr.done (V.d (D.bool false)) [])) := by kernel_rfl

theorem y88 (d : Dvd) : Yields Try.prog 88 [Dv d] (vb (okDv d)) := by
  refine q88.yields X3_ok rfl rfl rfl (w88 d) ?_
  simp only [holds]
  grind [VLe.of_eq, Rng.days, okDv, inR, vb]
end
end Go.Proofs.Ytdnefcjbcieecaa
