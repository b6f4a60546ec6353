/- A trade that is delivered later. -/
import Derived.Test.YtdnefcjbcieecaaOp6
import Derived.Test.YtdnefcjbcieecaaAw2
set_option linter.unusedVariables false
set_option linter.unusedSimpArgs false
namespace Go.Proofs.Ytdnefcjbcieecaa
open Go Go.Proofs
noncomputable section
theorem q12 : FunIs Try.prog 12 G12 c12 r12 := ⟨Try.f12, Try.func12, k12, e12, by kernel_rfl, by kernel_rfl⟩
theorem y18 : Yields Try.prog 18 [] (vb true) := Aw7_ok 18 [] (vb true) (by kernel_rfl)
def ent18 : Ent := fun args _ => match args with
  | [] => some (True, vb true, none)
  | _ => none
theorem ent18_ok : EntOk Try.prog 18 ent18 := by
  intro args h p v h' he hp
  unfold ent18 at he
  split at he
  · cases he; exact y18 h
  · cases he
def entCU (q : Cmp → Tru → Prop) (m : Cmp → Tru → V) : Ent := fun args _ => match args with
  | [x, y] => match asC x, asU y with
    | some c, some t => some (Cv c = x ∧ Uv t = y ∧ q c t, m c t, none)
    | _, _ => none
  | _ => none
theorem entCU_ok {P : Program} {f : Nat} {q : Cmp → Tru → Prop} {m : Cmp → Tru → V} (hy : ∀ c t, q c t → Yields P f [Cv c, Uv t] (m c t)) : EntOk P f (entCU q m) := by
  intro args h p v h' he hp
  unfold entCU at he
  split at he
  · split at he
    · cases he; rw [← hp.1, ← hp.2.1]; exact hy _ _ hp.2.2 h
    · cases he
  · cases he
def ent17 := entCU (fun _ _ => True) (fun c t => vb (thin c t))
theorem ent17_ok : EntOk Try.prog 17 ent17 := entCU_ok fun c t _ => y17 c t
def small (c : Cmp) : Prop := c.held.length ≤ 1000000 ∧ c.trades.length ≤ 1000000 ∧ c.divs.length ≤ 1000000 ∧ c.splits.length ≤ 1000000 ∧ c.closed.length ≤ 1000000
def ent20 := entC small (fun c => Cv c)
theorem ent20_ok : EntOk Try.prog 20 ent20 := entC_ok fun c h => y20 c h.1 h.2.1 h.2.2.1 h.2.2.2.1 h.2.2.2.2
def tab12 : Spec := (spAdd 20 ent20 (spAdd 17 ent17 (spAdd 18 ent18 tab11)))
theorem tab12_ok : SpOk Try.prog tab12 := (spAdd_ok ent20_ok (spAdd_ok ent17_ok (spAdd_ok ent18_ok tab11_ok)))
def X12 : Sx := mkX tab12
theorem X12_ok : SpOk Try.prog X12.sp := tab12_ok
theorem dec_snoc {α : Type} {sz : Nat} {f : α → List D} {g : List D → α} (hf : ∀ x, (f x).length = sz) (hg : ∀ x, g (f x) = x) (l : List α) (x : α) : dec sz g (0 + l.length + 1) ([] ++ enc f l ++ f x) = l ++ [x] := by
  have e : ([] ++ enc f l ++ f x) = enc f (l ++ [x]) := by rw [enc_append, enc_one]; rfl
  have e2 : 0 + l.length + 1 = (l ++ [x]).length := by simp
  rw [e, e2, dec_enc hf hg]
/-- A company with one more range of closed books. -/
def Cmp.shut (c : Cmp) (m : Rng) : Cmp := { c with closed := c.closed ++ [m] }
theorem dC_shut (c : Cmp) (m : Rng) : dC c.houses c.held.length (enc eI c.held) c.trades.length (enc eT c.trades) c.divs.length (enc eV c.divs) c.splits.length (enc eS c.splits) (0 + c.closed.length + 1) ([] ++ enc eR c.closed ++ [D.int IntKind.i64 m.lo, D.int IntKind.i64 m.hi]) = c.shut m := by
  have := dec_snoc (sz := 2) (f := eR) (g := gR) (fun _ => rfl) (fun _ => rfl) c.closed m
  simp only [eR] at this
  simp only [dC, dec_I, dec_T, dec_V, dec_S, Cmp.shut]
  rw [← this]
theorem Cv_shut (c : Cmp) (m : Rng) : Cv (c.shut m) = V.agg [.d (.int .i64 c.houses), .d (.sl false c.held.length (enc eI c.held)), .d (.sl false c.trades.length (enc eT c.trades)), .d (.sl false c.divs.length (enc eV c.divs)), .d (.sl false c.splits.length (enc eS c.splits)), .d (.sl false (0 + c.closed.length + 1) ([] ++ enc eR c.closed ++ [D.int IntKind.i64 m.lo, D.int IntKind.i64 m.hi]))] := by
  simp [Cv, Cmp.shut, enc_append, enc_one, eR]
theorem regF_in (cl : List Rng) : ∀ (k : Nat) (n : Int), regF cl k n = -1 ∨ (n ≤ regF cl k n ∧ regF cl k n < n + k)
  | 0, n => .inl rfl
  | k + 1, n => by
    rw [regF]
    split
    · exact .inr ⟨Int.le_refl _, by omega⟩
    · rcases regF_in cl k (n + 1) with h | h
      · exact .inl h
      · exact .inr ⟨by omega, by omega⟩
/-- Later is no earlier. -/
theorem regF_later (cl : List Rng) (N : Nat) : ∀ (j : Nat) (n : Int), 0 ≤ n → (regF cl (j + N) n = -1 → regF cl N (n + j) = -1) ∧ (regF cl N (n + j) ≠ -1 → regF cl (j + N) n ≠ -1 ∧ regF cl (j + N) n ≤ regF cl N (n + j))
  | 0, n, _ => by simp
  | j + 1, n, h0 => by
    have e : j + 1 + N = (j + N) + 1 := by omega
    have e2 : n + ((j + 1 : Nat) : Int) = (n + 1) + j := by omega
    rw [e, regF, e2]
    have ih := regF_later cl N j (n + 1) (by omega)
    split
    · refine ⟨fun h => by omega, fun h => ⟨by omega, ?_⟩⟩
      rcases regF_in cl N (n + 1 + j) with h1 | h1
      · exact (h h1).elim
      · omega
    · exact ih
theorem open_shut {cl : List Rng} {m : Rng} {n : Int} (h : openB (cl ++ [m]) n = true) : openB cl n = true := by
  simp only [openB, List.any_append, Bool.not_eq_true', Bool.or_eq_false_iff] at h ⊢
  exact h.1
theorem regF_shut (cl : List Rng) (m : Rng) : ∀ (k : Nat) (n : Int), 0 ≤ n → regF (cl ++ [m]) k n = -1 ∨ (regF cl k n ≠ -1 ∧ regF cl k n ≤ regF (cl ++ [m]) k n)
  | 0, n, _ => .inl rfl
  | k + 1, n, h0 => by
    rw [regF, regF]
    by_cases h : openB (cl ++ [m]) n = true
    · rw [if_pos h, if_pos (open_shut h)]
      exact .inr ⟨by omega, Int.le_refl _⟩
    · rw [if_neg h]
      have ih := regF_shut cl m k (n + 1) (by omega)
      split
      · rcases regF_in (cl ++ [m]) k (n + 1) with h1 | h1
        · exact .inl h1
        · exact .inr ⟨by omega, by omega⟩
      · exact ih
theorem wrap_small {n : Int} (h0 : -9223372036854775808 ≤ n) (h1 : n ≤ 9223372036854775807) : IntKind.wrap .i64 n = n := by
  simp only [IntKind.wrap, IntKind.signed, IntKind.bits]
  simp only [Bool.true_and]
  split
  · rename_i h; have h := of_decide_eq_true h; omega
  · rename_i h; have h : ¬ (n % 2 ^ 64 ≥ 2 ^ (64 - 1)) := fun e => h (decide_eq_true e); omega
theorem w12 (c : Cmp) (a b : Int) (m : Rng) : sx X12 c12 [] (doneP r12) (envOf [Cv c, .d (.int .u8 a), .d (.int .u8 b), Rv m]) [] [] =
    let x1_ := (dU (0 : Nat) [] (0 : Nat) [])
    let x2_ := (IntKind.wrap IntKind.i64 a)
    let x3_ := (IntKind.wrap IntKind.i64 b)
    let x4_ := ((12 : Int) - Int.tmod x2_ (12 : Int))
    let x5_ := ((0 : Nat) + List.length (Cmp.closed c))
    let x6_ := ((0 : Nat) = (0 : Nat) ∧ (73 : Nat) = (73 : Nat) ∧ (2 : Nat) = (2 : Nat) ∧ 0 = (0 : Nat) * (2 : Nat) ∧ List.length (enc eR (Cmp.closed c)) = List.length (Cmp.closed c) * (2 : Nat) ∧ (0 : Nat) + List.length (Cmp.closed c) ≤ (140737488355328 : Nat) ∧ x5_ * (16 : Nat) ≤ (140737488355328 : Nat))
    let x7_ := [D.int IntKind.i64 (Rng.lo m), D.int IntKind.i64 (Rng.hi m)]
    let x8_ := ((0 : Nat) + List.length (Cmp.closed c) + (1 : Nat))
    let x9_ := (1 = 1 ∧ (73 : Nat) = (73 : Nat) ∧ (2 : Nat) = (2 : Nat) ∧ List.length ([] ++ enc eR (Cmp.closed c)) = x5_ * (2 : Nat) ∧ List.length x7_ = (1 : Nat) * (2 : Nat) ∧ (0 : Nat) + List.length (Cmp.closed c) + (1 : Nat) ≤ (140737488355328 : Nat) ∧ x8_ * (16 : Nat) ≤ (140737488355328 : Nat))
    let x10_ := (Int.tmod x2_ (12 : Int))
    let x11_ := (Int.tmod x2_ (12 : Int) + Int.tmod x3_ x4_)
    let x12_ := (D.int IntKind.i64 (Cmp.houses c))
    let x13_ := (List.length (Cmp.held c))
    let x14_ := (D.sl false x13_ (enc eI (Cmp.held c)))
    let x15_ := (List.length (Cmp.trades c))
    let x16_ := (D.sl false x15_ (enc eT (Cmp.trades c)))
    let x17_ := (List.length (Cmp.divs c))
    let x18_ := (D.sl false x17_ (enc eV (Cmp.divs c)))
    let x19_ := (List.length (Cmp.splits c))
    let x20_ := (D.sl false x19_ (enc eS (Cmp.splits c)))
    let x21_ := ([] ++ enc eR (Cmp.closed c) ++ x7_)
    let x22_ := [some (Blk.box [V.d x12_, V.d x14_, V.d x16_, V.d x18_, V.d x20_, V.own (1) (2) x8_]), some (Blk.row (73) (2) (2) x21_)]
    let x23_ := ([(4, V.rptr (Cds c) (0)), (9, V.d (D.int IntKind.i64 x10_)), (10, V.d (D.int IntKind.i64 x11_)), (11, V.ptr (0) (0) (0))] = [(4, V.rptr (Cds c) (0)), (9, V.d (D.int IntKind.i64 x10_)), (10, V.d (D.int IntKind.i64 x11_)), (11, V.ptr (0) (0) (0))] ∧ x22_ = x22_)
    let x24_ := (Cv (dCe c) = Cv c ∧ small (dCe c))
    let x25_ := (Cv (dCe (dCe c)) = Cv (dCe c) ∧ True)
    let x26_ := (regN (dCe (dCe c)) x10_ != (-1 : Int))
    let x27_ := (regN (dCe (dCe c)) x11_ != (-1 : Int))
    let x28_ := (dC (Cmp.houses c) x13_ (enc eI (Cmp.held c)) x15_ (enc eT (Cmp.trades c)) x17_ (enc eV (Cmp.divs c)) x19_ (enc eS (Cmp.splits c)) x8_ x21_)
    let x29_ := [V.d x12_, V.d x14_, V.d x16_, V.d x18_, V.d x20_, V.d (D.sl false x8_ x21_)]
    Tr.need (Cv (dCe c) = Cv c ∧ Uv x1_ = V.agg [V.d (D.sl false (0) []), V.d (D.sl false (0) [])] ∧ True) (Tr.br (!thin (dCe c) x1_) (Tr.need True (Tr.done (V.d (D.bool true)) [])) (Tr.need (Cv (dCe c) = Cv c ∧ True) (Tr.br (faultM (dCe c) != (0 : Int)) (Tr.need True (Tr.done (V.d (D.bool true)) [])) (Tr.need ((12 : Int) ≠ (0 : Int)) (Tr.need ((-9223372036854775808 : Int) ≤ (12 : Int) - Int.tmod x2_ (12 : Int) ∧ (12 : Int) - Int.tmod x2_ (12 : Int) ≤ (9223372036854775807 : Int)) (Tr.need ((12 : Int) - Int.tmod x2_ (12 : Int) ≠ (0 : Int)) (Tr.need ((-9223372036854775808 : Int) ≤ Int.tmod x2_ (12 : Int) + Int.tmod x3_ x4_ ∧ Int.tmod x2_ (12 : Int) + Int.tmod x3_ x4_ ≤ (9223372036854775807 : Int)) (Tr.need x6_ (Tr.need x9_ (Tr.need x6_ (Tr.need x9_ (Tr.need x23_ (Tr.need x6_ (Tr.need x9_ (Tr.need x23_ (Tr.need x24_ (Tr.need x25_ (Tr.need x24_ (Tr.need x25_ (Tr.br (regE (dCe (dCe c)) x10_ != (0 : Int)) (Tr.done (V.d (D.bool false)) []) (Tr.br (regE (dCe (dCe c)) x11_ != (0 : Int)) (Tr.done (V.d (D.bool false)) []) (Tr.br x26_ (Tr.br (decide (regN (dCe (dCe c)) x10_ < Int.tmod x2_ (12 : Int))) (Tr.done (V.d (D.bool false)) []) (Tr.br (decide ((11 : Int) < regN (dCe (dCe c)) x10_)) (Tr.done (V.d (D.bool false)) []) (Tr.br (regN (dCe (dCe c)) x10_ == (-1 : Int)) (Tr.br x27_ (Tr.done (V.d (D.bool false)) []) (Tr.br x27_ (Tr.br (decide (regN (dCe (dCe c)) x11_ < regN (dCe (dCe c)) x10_)) (Tr.done (V.d (D.bool false)) []) (Tr.need (Cv x28_ = V.agg x29_ ∧ True) (Tr.br (faultM x28_ != (0 : Int)) (Tr.need True (Tr.done (V.d (D.bool true)) [])) (Tr.need (Cv x28_ = V.agg x29_ ∧ small x28_) (Tr.need (Cv (dCe x28_) = Cv x28_ ∧ True) (Tr.br (regE (dCe x28_) x10_ == (0 : Int)) (Tr.br (regN (dCe x28_) x10_ == (-1 : Int)) (Tr.need True (Tr.done (V.d (D.bool true)) [])) (Tr.br x26_ (Tr.br (decide (regN (dCe (dCe c)) x10_ ≤ regN (dCe x28_) x10_)) (Tr.need True (Tr.done (V.d (D.bool true)) [])) (Tr.done (V.d (D.bool false)) [])) (Tr.done (V.d (D.bool false)) []))) (Tr.done (V.d (D.bool false)) []))))))) (Tr.need (Cv x28_ = V.agg x29_ ∧ True) (Tr.br (faultM x28_ != (0 : Int)) (Tr.need True (Tr.done (V.d (D.bool true)) [])) (Tr.need (Cv x28_ = V.agg x29_ ∧ small x28_) (Tr.need (Cv (dCe x28_) = Cv x28_ ∧ True) (Tr.br (regE (dCe x28_) x10_ == (0 : Int)) (Tr.br (regN (dCe x28_) x10_ == (-1 : Int)) (Tr.need True (Tr.done (V.d (D.bool true)) [])) (Tr.br x26_ (Tr.br (decide (regN (dCe (dCe c)) x10_ ≤ regN (dCe x28_) x10_)) (Tr.need True (Tr.done (V.d (D.bool true)) [])) (Tr.done (V.d (D.bool false)) [])) (Tr.done (V.d (D.bool false)) []))) (Tr.done (V.d (D.bool false)) [])))))))) (Tr.br x27_ (Tr.br (decide (regN (dCe (dCe c)) x11_ < regN (dCe (dCe c)) x10_)) (Tr.done (V.d (D.bool false)) []) (Tr.need (Cv x28_ = V.agg x29_ ∧ True) (Tr.br (faultM x28_ != (0 : Int)) (Tr.need True (Tr.done (V.d (D.bool true)) [])) (Tr.need (Cv x28_ = V.agg x29_ ∧ small x28_) (Tr.need (Cv (dCe x28_) = Cv x28_ ∧ True) (Tr.br (regE (dCe x28_) x10_ == (0 : Int)) (Tr.br (regN (dCe x28_) x10_ == (-1 : Int)) (Tr.need True (Tr.done (V.d (D.bool true)) [])) (Tr.br x26_ (Tr.br (decide (regN (dCe (dCe c)) x10_ ≤ regN (dCe x28_) x10_)) (Tr.need True (Tr.done (V.d (D.bool true)) [])) (Tr.done (V.d (D.bool false)) [])) (Tr.done (V.d (D.bool false)) []))) (Tr.done (V.d (D.bool false)) []))))))) (Tr.need (Cv x28_ = V.agg x29_ ∧ True) (Tr.br (faultM x28_ != (0 : Int)) (Tr.need True (Tr.done (V.d (D.bool true)) [])) (Tr.need (Cv x28_ = V.agg x29_ ∧ small x28_) (Tr.need (Cv (dCe x28_) = Cv x28_ ∧ True) (Tr.br (regE (dCe x28_) x10_ == (0 : Int)) (Tr.br (regN (dCe x28_) x10_ == (-1 : Int)) (Tr.need True (Tr.done (V.d (D.bool true)) [])) (Tr.br x26_ (Tr.br (decide (regN (dCe (dCe c)) x10_ ≤ regN (dCe x28_) x10_)) (Tr.need True (Tr.done (V.d (D.bool true)) [])) (Tr.done (V.d (D.bool false)) [])) (Tr.done (V.d (D.bool false)) []))) (Tr.done (V.d (D.bool false)) [])))))))))) (Tr.br (regN (dCe (dCe c)) x10_ == (-1 : Int)) (Tr.br x27_ (Tr.done (V.d (D.bool false)) []) (Tr.br x27_ (Tr.br (decide (regN (dCe (dCe c)) x11_ < regN (dCe (dCe c)) x10_)) (Tr.done (V.d (D.bool false)) []) (Tr.need (Cv x28_ = V.agg x29_ ∧ True) (Tr.br (faultM x28_ != (0 : Int)) (Tr.need True (Tr.done (V.d (D.bool true)) [])) (Tr.need (Cv x28_ = V.agg x29_ ∧ small x28_) (Tr.need (Cv (dCe x28_) = Cv x28_ ∧ True) (Tr.br (regE (dCe x28_) x10_ == (0 : Int)) (Tr.br (regN (dCe x28_) x10_ == (-1 : Int)) (Tr.need True (Tr.done (V.d (D.bool true)) [])) (Tr.br x26_ (Tr.br (decide (regN (dCe (dCe c)) x10_ ≤ regN (dCe x28_) x10_)) (Tr.need True (Tr.done (V.d (D.bool true)) [])) (Tr.done (V.d (D.bool false)) [])) (Tr.done (V.d (D.bool false)) []))) (Tr.done (V.d (D.bool false)) []))))))) (Tr.need (Cv x28_ = V.agg x29_ ∧ True) (Tr.br (faultM x28_ != (0 : Int)) (Tr.need True (Tr.done (V.d (D.bool true)) [])) (Tr.need (Cv x28_ = V.agg x29_ ∧ small x28_) (Tr.need (Cv (dCe x28_) = Cv x28_ ∧ True) (Tr.br (regE (dCe x28_) x10_ == (0 : Int)) (Tr.br (regN (dCe x28_) x10_ == (-1 : Int)) (Tr.need True (Tr.done (V.d (D.bool true)) [])) (Tr.br x26_ (Tr.br (decide (regN (dCe (dCe c)) x10_ ≤ regN (dCe x28_) x10_)) (Tr.need True (Tr.done (V.d (D.bool true)) [])) (Tr.done (V.d (D.bool false)) [])) (Tr.done (V.d (D.bool false)) []))) (Tr.done (V.d (D.bool false)) [])))))))) (Tr.br x27_ (Tr.br (decide (regN (dCe (dCe c)) x11_ < regN (dCe (dCe c)) x10_)) (Tr.done (V.d (D.bool false)) []) (Tr.need (Cv x28_ = V.agg x29_ ∧ True) (Tr.br (faultM x28_ != (0 : Int)) (Tr.need True (Tr.done (V.d (D.bool true)) [])) (Tr.need (Cv x28_ = V.agg x29_ ∧ small x28_) (Tr.need (Cv (dCe x28_) = Cv x28_ ∧ True) (Tr.br (regE (dCe x28_) x10_ == (0 : Int)) (Tr.br (regN (dCe x28_) x10_ == (-1 : Int)) (Tr.need True (Tr.done (V.d (D.bool true)) [])) (Tr.br x26_ (Tr.br (decide (regN (dCe (dCe c)) x10_ ≤ regN (dCe x28_) x10_)) (Tr.need True (Tr.done (V.d (D.bool true)) [])) (Tr.done (V.d (D.bool false)) [])) (Tr.done (V.d (D.bool false)) []))) (Tr.done (V.d (D.bool false)) []))))))) (Tr.need (Cv x28_ = V.agg x29_ ∧ True) (Tr.br (faultM x28_ != (0 : Int)) (Tr.need True (Tr.done (V.d (D.bool true)) [])) (Tr.need (Cv x28_ = V.agg x29_ ∧ small x28_) (Tr.need (Cv (dCe x28_) = Cv x28_ ∧ True) (Tr.br (regE (dCe x28_) x10_ == (0 : Int)) (Tr.br (regN (dCe x28_) x10_ == (-1 : Int)) (Tr.need True (Tr.done (V.d (D.bool true)) [])) (Tr.br x26_ (Tr.br (decide (regN (dCe (dCe c)) x10_ ≤ regN (dCe x28_) x10_)) (Tr.need True (Tr.done (V.d (D.bool true)) [])) (Tr.done (V.d (D.bool false)) [])) (Tr.done (V.d (D.bool false)) []))) (Tr.done (V.d (D.bool false)) [])))))))))))))))))))))))))))))) := by kernel_rfl

theorem later_law (c : Cmp) (m : Rng) (i k : Int) (hi : 0 ≤ i) (hk : i ≤ k) (hk2 : k ≤ 11) (hf : faultM c = 0) :
    regE c i = 0 ∧ regE c k = 0 ∧ (regN c i = -1 ∨ (i ≤ regN c i ∧ regN c i ≤ 11)) ∧ (regN c i = -1 → regN c k = -1) ∧ (regN c k ≠ -1 → regN c i ≤ regN c k) ∧
      (faultM (c.shut m) = 0 → regE (c.shut m) i = 0 ∧ (regN (c.shut m) i = -1 ∨ (regN c i ≠ -1 ∧ regN c i ≤ regN (c.shut m) i))) := by
  have d1 : isDay i = true := by simp [isDay, inR]; omega
  have d2 : isDay k = true := by simp [isDay, inR]; omega
  simp only [regE, regN, hf, d1, d2, regM, if_pos hi, if_pos (show 0 ≤ k by omega)]
  have h1 := regF_in c.closed (12 - i).toNat i
  have h2 := regF_later c.closed (12 - k).toNat (k - i).toNat i hi
  have e1 : (k - i).toNat + (12 - k).toNat = (12 - i).toNat := by omega
  have e2 : i + ((k - i).toNat : Int) = k := by omega
  rw [e1, e2] at h2
  have h3 := regF_shut c.closed m (12 - i).toNat i hi
  have e3 : (c.shut m).closed = c.closed ++ [m] := rfl
  refine ⟨by simp, by simp, ?_, ?_, ?_, fun h => ?_⟩
  · simp; omega
  · simpa using h2.1
  · intro h; simpa using (h2.2 (by simpa using h)).2
  · simp [h, e3]; simpa using h3
theorem y12 (c : Cmp) (a b : Int) (m : Rng) (ha : 0 ≤ a) (ha2 : a ≤ 255) (hb : 0 ≤ b) (hb2 : b ≤ 255) : Yields Try.prog 12 [Cv c, .d (.int .u8 a), .d (.int .u8 b), Rv m] (vb true) := by
  refine q12.yieldsP X12_ok rfl rfl rfl (w12 c a b m) ?_
  have e0 : dU 0 [] 0 [] = ⟨[], []⟩ := rfl
  have e1 : Uv ⟨[], []⟩ = V.agg [V.d (D.sl false 0 []), V.d (D.sl false 0 [])] := rfl
  simp only [holds, dCe, dC_enc, dC_shut, Cv_shut, e0, e1, wrap_small (show -9223372036854775808 ≤ a by omega) (by omega), wrap_small (show -9223372036854775808 ≤ b by omega) (by omega), Int.tmod_eq_emod_of_nonneg ha, Int.tmod_eq_emod_of_nonneg hb, true_and]
  have hi : 0 ≤ a % 12 ∧ a % 12 ≤ 11 := by omega
  generalize a % 12 = i at hi ⊢
  have hq : 0 ≤ b % (12 - i) ∧ b % (12 - i) < 12 - i := ⟨Int.emod_nonneg _ (by omega), Int.emod_lt_of_pos _ (by omega)⟩
  generalize b % (12 - i) = q at hq ⊢
  have hlaw := later_law c m i (i + q) hi.1 (by omega) (by omega)
  have hlen : thin c ⟨[], []⟩ = true → small c ∧ small (c.shut m) ∧ c.closed.length ≤ 7 := fun h => by
    simp only [thin, decide_eq_true_eq] at h
    simp only [small, Cmp.shut, List.length_append, List.length_cons, List.length_nil]
    omega
  have hl := len_R c.closed
  have hkk : i ≤ i + q ∧ i + q ≤ 11 := by omega
  generalize i + q = k at hlaw hkk ⊢
  have hT : VLe (V.d (D.bool true)) (vb true) := .refl _
  by_cases ht : thin c ⟨[], []⟩ = true
  · obtain ⟨s1, s2, s3⟩ := hlen ht
    by_cases hf : faultM c = 0
    · obtain ⟨L1, L2, L3, L4, L5, L6⟩ := hlaw hf
      simp only [ht, hf, L1, L2, s1, s2, hl, hT, bne_self_eq_false, Bool.not_true, Bool.false_eq_true, false_imp_iff, forall_const, true_and, and_true, imp_self, Bool.true_eq_false]
      clear hlaw hlen
      by_cases hx : faultM (c.shut m) = 0
      · obtain ⟨M1, M2⟩ := L6 hx
        simp only [hx, M1, bne_self_eq_false, Bool.false_eq_true, false_imp_iff, forall_const, true_and, beq_self_eq_true, Bool.true_eq_false, and_true]
        clear L6
        repeat' (first | (refine And.intro ?_ ?_) | (refine fun (_ : _ = _) => ?_))
        all_goals first
          | exact .refl _
          | omega
          | grind
      · repeat' (first | (refine And.intro ?_ ?_) | (refine fun (_ : _ = _) => ?_))
        all_goals first
          | exact .refl _
          | omega
          | grind
    · simp only [ht]
      repeat' (first | (refine And.intro ?_ ?_) | (refine fun (_ : _ = _) => ?_))
      all_goals first
        | exact .refl _
        | (rename_i h; simp [hf] at h; done)
        | grind
  · repeat' (first | (refine And.intro ?_ ?_) | (refine fun (_ : _ = _) => ?_))
    all_goals first
      | exact .refl _
      | grind
end
end Go.Proofs.Ytdnefcjbcieecaa
