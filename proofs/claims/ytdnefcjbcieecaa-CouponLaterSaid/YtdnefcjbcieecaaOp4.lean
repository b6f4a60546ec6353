/- The day of registration. -/
import Derived.Test.YtdnefcjbcieecaaOp3
set_option linter.unusedVariables false
set_option linter.unusedSimpArgs false
namespace Go.Proofs.Ytdnefcjbcieecaa
open Go Go.Proofs
noncomputable section
theorem q99 : FunIs Try.prog 99 G99 c99 r99 := ⟨Try.f99, Try.func99, k99, e99, by kernel_rfl, by kernel_rfl⟩
theorem q82 : FunIs Try.prog 82 G82 c82 r82 := ⟨Try.f82, Try.func82, k82, e82, by kernel_rfl, by kernel_rfl⟩
theorem q50 : FunIs Try.prog 50 G50 c50 r50 := ⟨Try.f50, Try.func50, k50, e50, by kernel_rfl, by kernel_rfl⟩
theorem q81 : FunIs Try.prog 81 G81 c81 r81 := ⟨Try.f81, Try.func81, k81, e81, by kernel_rfl, by kernel_rfl⟩
theorem q49 : FunIs Try.prog 49 G49 c49 r49 := ⟨Try.f49, Try.func49, k49, e49, by kernel_rfl, by kernel_rfl⟩
def openB (cl : List Rng) (n : Int) : Bool := !(cl.any fun r => r.has n)
def regF (cl : List Rng) : Nat → Int → Int
  | 0, _ => -1
  | k + 1, n => if openB cl n = true then n else regF cl k (n + 1)
def regM (cl : List Rng) (n : Int) : Int := if 0 ≤ n then regF cl (12 - n).toNat n else -1
theorem found_any {α : Type} [Inhabited α] {l : List α} {p : α → Bool} {H : Nat → Heap} {v : V} {h' : Heap} (hf : Found l.length (fun k => p (lat l (k : Nat))) H (fun _ => vb true) (vb false) v h') : v = .d (.bool (l.any p)) := by
  obtain ⟨m, hm, hA, ⟨h1, rfl, rfl⟩ | ⟨h1, h2, rfl, rfl⟩⟩ := hf
  · have : l.any p = false := by
      rw [List.any_eq_false]
      intro x hx
      obtain ⟨j, hj, rfl⟩ := List.getElem_of_mem hx
      have := hA j (by omega)
      simpa [lat, hj] using this
    rw [this]; rfl
  · have : l.any p = true := by
      rw [List.any_eq_true]
      exact ⟨lat l (m : Nat), by simp [lat, h1], h2⟩
    rw [this]; rfl
theorem w99 (r : Rng) (n : Int) : sx X3 c99 [] (doneK r99) (envOf [Rv r, .ptr 0 0 0]) [] [some (.box [vi n])] =
    Tr.need True (Tr.done (V.d (D.bool (Rng.has { lo := Rng.lo r, hi := Rng.hi r } n))) [some (Blk.box [V.d (D.int IntKind.i64 n)])]) := by kernel_rfl

theorem cl99 (r : Rng) (n : Int) : ACalls Try.prog 99 [Rv r, .ptr 0 0 0] [some (.box [vi n])] fun v h' => v = vb (r.has n) ∧ h' = [some (.box [vi n])] :=
  q99.calls X3_ok (h := [some (.box [vi n])]) rfl (w99 r n) (by simp only [holds]; exact ⟨trivial, rfl, rfl⟩)
theorem a98 (l : List Rng) (n : Int) (hl : l.length ≤ 140737488355328) : ACalls Try.prog 98 [vsl eR l, .fn (.func 99) [] [.ptr 0 0 0]] [some (.box [vi n])] fun v h' => v = vb (!(openB l n)) ∧ h' = [some (.box [vi n])] := by
  refine (i98 l 99 [] [.ptr 0 0 0] (fun _ => [some (.box [vi n])]) (fun k => Rng.has (lat l (k : Nat)) n) hl (fun _ => ⟨rfl, rfl⟩) rfl (fun k hk _ => cl99 _ _)).mono ?_
  intro v h' hf
  have := found_any (p := fun r : Rng => r.has n) hf
  obtain ⟨m, hm, hA, ⟨h1, h2, h3⟩ | ⟨h1, h2, h3, h4⟩⟩ := hf
  · exact ⟨by rw [this]; simp [openB, vb], h3⟩
  · exact ⟨by rw [this]; simp [openB, vb], h4⟩
def ent98 : Ent := fun args h => match args, h with
  | [.d (.sl false n cs), .fn (.func 99) [] [.ptr 0 0 0]], [some (.box [.d (.int .i64 m)])] => some (okL eR 2 gR n cs, vb (!(openB (dec 2 gR n cs) m)), none)
  | _, _ => none
theorem ent98_ok : EntOk Try.prog 98 ent98 := by
  intro args h p v h' he hp
  unfold ent98 at he
  split at he
  · cases he; rw [okL_vsl hp]; exact a98 _ _ (by rw [dec_len]; exact hp.2)
  · cases he
def tab7 : Spec := (spAdd 98 ent98 tab6)
theorem tab7_ok : SpOk Try.prog tab7 := (spAdd_ok ent98_ok tab6_ok)
def X7 : Sx := mkX tab7
theorem X7_ok : SpOk Try.prog X7.sp := tab7_ok
def E82 (c : Cmp) : Env := [(2, .rptr (Cds c) 0), (3, .ptr 0 0 0)]
theorem w82 (c : Cmp) (n : Int) : sx X7 c82 [] (doneK r82) (envOf [Cv c, vi n]) [] [] =
    Tr.lp (CCode.at c82 [(1 : Nat), (0 : Nat), (0 : Nat), (0 : Nat)]) [Fr.blk (0), Fr.seq (CCode.at c82 [(1 : Nat), (1 : Nat)])] [(2, V.rptr (Cds c) (0)), (3, V.ptr (0) (0) (0))] [some (Blk.box [V.d (D.int IntKind.i64 n)])] := by kernel_rfl

theorem b82 (c : Cmp) (n : Int) : sx X7 (CCode.at c82 [1,0,0,0]) [] leafK (E82 c) [] [some (.box [vi n])] =
    Tr.need True (Tr.br (isDay n) (Tr.need (okL eR (2 : Nat) gR (List.length (Cmp.closed c)) (enc eR (Cmp.closed c))) (Tr.br (!!openB (dec (2 : Nat) gR (List.length (Cmp.closed c)) (enc eR (Cmp.closed c))) n) (Tr.leaf CExit.ret [(4, V.d (D.int IntKind.i64 n))] [some (Blk.box [V.d (D.int IntKind.i64 n)])]) (Tr.need ((-9223372036854775808 : Int) ≤ n + (1 : Int) ∧ n + (1 : Int) ≤ (9223372036854775807 : Int)) (Tr.leaf CExit.normal [(2, V.rptr (Cds c) (0)), (3, V.ptr (0) (0) (0))] [some (Blk.box [V.d (D.int IntKind.i64 (n + (1 : Int)))])])))) (Tr.leaf (CExit.exit (0)) [(2, V.rptr (Cds c) (0)), (3, V.ptr (0) (0) (0)), (6, V.d (D.bool (isDay n)))] [some (Blk.box [V.d (D.int IntKind.i64 n)])])) := by kernel_rfl

theorem x82 (env : Env) (h : Heap) : sS X7 (doneK r82) [Fr.blk 0, Fr.seq (CCode.at c82 [1, 1])] (.exit 0) env [] h =
    Tr.done (V.d (D.int IntKind.i64 (-1 : Int))) h := by kernel_rfl

theorem t82 (n : Int) (h : Heap) : sS X7 (doneK r82) [Fr.blk 0, Fr.seq (CCode.at c82 [1, 1])] .ret [(4, vi n)] [] h =
    Tr.done (V.d (D.int IntKind.i64 n)) h := by kernel_rfl

theorem y82 (c : Cmp) (n : Int) (hl : c.closed.length ≤ 140737488355328) : Yields Try.prog 82 [Cv c, vi n] (vi (regM c.closed n)) := by
  refine q82.yieldsK X7_ok rfl rfl rfl (w82 c n) ?_
  simp only [holds]
  refine lp_count X7_ok (if 0 ≤ n then (12 - n).toNat else 0) (fun k => 0 ≤ n → regF c.closed (12 - n).toNat n = regF c.closed ((12 - n).toNat - k) (n + k)) (fun _ => E82 c) (fun k => [some (.box [vi (n + k)])])
    rfl (by simp; rfl) (by intro _; simp) (fun k _ => ⟨rfl, rfl, rfl⟩) ?_
  intro k hk hA Q' hn he hr
  rw [b82]
  simp only [holds, okL_R, dec_R, true_and, Bool.not_not]
  refine ⟨fun h1 => ⟨hl, fun h2 => ?_, fun h2 => ⟨?_, ?_⟩⟩, fun h1 => ?_⟩
  · refine hr _ _ (ret_tree X7_ok (doneK_ok rfl) (t82 _ _) ?_)
    simp only [holds]
    refine .of_eq (congrArg vi ?_)
    simp only [isDay, inR, decide_eq_true_eq] at h1
    by_cases h0 : 0 ≤ n
    · rw [if_pos h0] at hk
      rw [regM, if_pos h0, hA h0]
      have : (12 - n).toNat - k = ((12 - n).toNat - k - 1) + 1 := by omega
      rw [this, regF, if_pos h2]
    · rw [if_neg h0] at hk; omega
  · simp only [isDay, inR, decide_eq_true_eq] at h1; omega
  · simp only [isDay, inR, decide_eq_true_eq] at h1
    have h0 : 0 ≤ n := by
      by_cases h0 : 0 ≤ n
      · exact h0
      · rw [if_neg h0] at hk; omega
    rw [if_pos h0] at hk hn
    have := hn [] (by omega) (fun _ => by
      rw [hA h0]
      have : (12 - n).toNat - k = ((12 - n).toNat - (k + 1)) + 1 := by omega
      rw [this, regF, if_neg (by rw [h2]; decide)]
      congr 1
      omega)
    have e : n + ((k + 1 : Nat) : Int) = n + (k : Int) + 1 := by omega
    rw [e] at this
    exact this
  · refine he _ _ _ (ret_tree X7_ok (doneK_ok rfl) (x82 _ _) ?_)
    simp only [holds]
    refine .of_eq (congrArg vi ?_)
    simp only [isDay, inR, decide_eq_false_iff_not] at h1
    by_cases h0 : 0 ≤ n
    · rw [if_pos h0] at hk
      rw [regM, if_pos h0, hA h0]
      have : (12 - n).toNat - k = 0 := by omega
      rw [this, regF]
    · rw [regM, if_neg h0]
theorem w81 (c : Cmp) (n : Int) : sx X7 c81 [] (doneK r81) (envOf [Cv c, vi n]) [] [] =
    Tr.lp (CCode.at c81 [(1 : Nat), (0 : Nat), (1 : Nat), (0 : Nat), (0 : Nat)]) [Fr.blk (0), Fr.seq (CCode.at c81 [(1 : Nat), (1 : Nat)])] [(1, V.d (D.int IntKind.i64 n)), (2, V.rptr (Cds c) (0)), (5, V.d (D.int IntKind.i64 (0 : Int)))] [] := by kernel_rfl

def E81 (c : Cmp) (n : Int) (k : Nat) : Env := [(1, vi n), (2, .rptr (Cds c) 0), (5, vi k)]
theorem b81 (c : Cmp) (n : Int) (k : Nat) : sx X7 (CCode.at c81 [1,0,1,0,0]) [] leafK (E81 c n k) [] [] =
    Tr.br (decide (Int.ofNat k < Int.ofNat (List.length (Cmp.closed c)))) (Tr.need ((0 : Int) ≤ Int.ofNat k ∧ Int.ofNat k < Int.ofNat (List.length (Cmp.closed c)) ∧ okEl [0, 0] (enc eR (Cmp.closed c)) (2 : Nat) (Int.ofNat k)) (Tr.need ((0 : Int) ≤ Int.ofNat k ∧ Int.ofNat k < Int.ofNat (List.length (Cmp.closed c)) ∧ okEl [0, 0] (enc eR (Cmp.closed c)) (2 : Nat) (Int.ofNat k)) (Tr.need True (Tr.br (inR n (cI (enc eR (Cmp.closed c)) (2 : Nat) (Int.ofNat k) (0 : Nat)) (cI (enc eR (Cmp.closed c)) (2 : Nat) (Int.ofNat k) (1))) (Tr.leaf CExit.ret [(4, V.d (D.bool false))] []) (Tr.need ((-9223372036854775808 : Int) ≤ Int.ofNat k + (1 : Int) ∧ Int.ofNat k + (1 : Int) ≤ (9223372036854775807 : Int)) (Tr.leaf CExit.normal [(1, V.d (D.int IntKind.i64 n)), (2, V.rptr (Cds c) (0)), (5, V.d (D.int IntKind.i64 (Int.ofNat k + (1 : Int))))] [])))))) (Tr.leaf (CExit.exit (0)) [(1, V.d (D.int IntKind.i64 n)), (2, V.rptr (Cds c) (0)), (5, V.d (D.int IntKind.i64 (Int.ofNat k))), (10, V.d (D.bool (decide (Int.ofNat k < Int.ofNat (List.length (Cmp.closed c))))))] []) := by kernel_rfl

theorem x81 (env : Env) (h : Heap) : sS X7 (doneK r81) [Fr.blk 0, Fr.seq (CCode.at c81 [1, 1])] (.exit 0) env [] h =
    Tr.done (V.d (D.bool true)) h := by kernel_rfl

theorem t81 (b : Bool) (h : Heap) : sS X7 (doneK r81) [Fr.blk 0, Fr.seq (CCode.at c81 [1, 1])] .ret [(4, vb b)] [] h =
    Tr.done (V.d (D.bool b)) h := by kernel_rfl

theorem any_at {α : Type} [Inhabited α] {l : List α} {p : α → Bool} {k : Nat} (hk : k < l.length) (h : p (lat l (k : Nat)) = true) : l.any p = true := by
  rw [List.any_eq_true]; exact ⟨lat l (k : Nat), by simp [lat, hk], h⟩
theorem any_none {α : Type} [Inhabited α] {l : List α} {p : α → Bool} (h : ∀ j : Nat, j < l.length → p (lat l j) = false) : l.any p = false := by
  rw [List.any_eq_false]
  intro x hx
  obtain ⟨j, hj, rfl⟩ := List.getElem_of_mem hx
  have := h j hj
  simpa [lat, hj] using this
theorem y81 (c : Cmp) (n : Int) (hl : c.closed.length ≤ 140737488355328) : Yields Try.prog 81 [Cv c, vi n] (vb (openB c.closed n)) := by
  refine q81.yieldsK X7_ok rfl rfl rfl (w81 c n) ?_
  simp only [holds]
  refine lp_count X7_ok c.closed.length (fun k => ∀ j : Nat, j < k → (lat c.closed j).has n = false) (E81 c n) (fun _ => []) rfl rfl (fun j hj => by omega) (fun k _ => ⟨rfl, rfl, rfl⟩) ?_
  intro k hk hA Q' hn he hr
  rw [b81]
  simp only [holds, Int.ofNat_eq_natCast, cI_R0, cI_R1, true_and]
  refine ⟨fun h1 => ?_, fun h1 => ?_⟩
  · have hlt : k < c.closed.length := by have := of_decide_eq_true h1; omega
    refine ⟨⟨by omega, by omega, ok_R (by simpa using hlt)⟩, ⟨by omega, by omega, ok_R (by simpa using hlt)⟩, fun h2 => ?_, fun h2 => ⟨by omega, ?_⟩⟩
    · refine hr _ _ (ret_tree X7_ok (doneK_ok rfl) (t81 false _) ?_)
      simp only [holds]
      refine .of_eq (congrArg vb ?_)
      rw [openB, any_at hlt h2]; rfl
    · exact hn [] hlt (fun j hj => by
        rcases Nat.lt_or_ge j k with h | h
        · exact hA j h
        · have : j = k := by omega
          rw [this]; exact h2)
  · have hge : k = c.closed.length := by have := of_decide_eq_false h1; omega
    refine he _ _ _ (ret_tree X7_ok (doneK_ok rfl) (x81 _ _) ?_)
    simp only [holds]
    refine .of_eq (congrArg vb ?_)
    rw [openB, any_none (fun j hj => hA j (by omega))]; rfl
def entC (q : Cmp → Prop) (m : Cmp → V) : Ent := fun args h => match args with
  | [x] => match asC x with
    | some c => some (Cv c = x ∧ q c, m c, none)
    | none => none
  | _ => none
theorem entC_ok {P : Program} {f : Nat} {q : Cmp → Prop} {m : Cmp → V} (hy : ∀ c, q c → Yields P f [Cv c] (m c)) : EntOk P f (entC q m) := by
  intro args h p v h' he hp
  unfold entC at he
  split at he
  · split at he
    · cases he; rw [← hp.1]; exact hy _ hp.2 h
    · cases he
  · cases he
def entCI (q : Cmp → Int → Prop) (m : Cmp → Int → V) : Ent := fun args h => match args with
  | [x, .d (.int .i64 n)] => match asC x with
    | some c => some (Cv c = x ∧ q c n, m c n, none)
    | none => none
  | _ => none
theorem entCI_ok {P : Program} {f : Nat} {q : Cmp → Int → Prop} {m : Cmp → Int → V} (hy : ∀ c n, q c n → Yields P f [Cv c, vi n] (m c n)) : EntOk P f (entCI q m) := by
  intro args h p v h' he hp
  unfold entCI at he
  split at he
  · split at he
    · cases he; rw [← hp.1]; exact hy _ _ hp.2 h
    · cases he
  · cases he
def ent82 := entCI (fun c _ => c.closed.length ≤ 140737488355328) (fun c n => vi (regM c.closed n))
theorem ent82_ok : EntOk Try.prog 82 ent82 := entCI_ok fun c n => y82 c n
def ent81 := entCI (fun c _ => c.closed.length ≤ 140737488355328) (fun c n => vb (openB c.closed n))
theorem ent81_ok : EntOk Try.prog 81 ent81 := entCI_ok fun c n => y81 c n
def ent52 := entC (fun _ => True) (fun c => vi (faultM c))
theorem ent52_ok : EntOk Try.prog 52 ent52 := entC_ok fun c _ => y52 c
def tab8 : Spec := (spAdd 52 ent52 (spAdd 81 ent81 (spAdd 82 ent82 tab7)))
theorem tab8_ok : SpOk Try.prog tab8 := (spAdd_ok ent52_ok (spAdd_ok ent81_ok (spAdd_ok ent82_ok tab7_ok)))
def X8 : Sx := mkX tab8
theorem X8_ok : SpOk Try.prog X8.sp := tab8_ok
theorem w49 (c : Cmp) (n : Int) : sx X8 c49 [] (doneK r49) (envOf [Cv c, vi n]) [] [] =
    Tr.lp (CCode.at c49 [(1 : Nat), (0 : Nat), (1 : Nat), (0 : Nat), (0 : Nat)]) [Fr.blk (0), Fr.seq (CCode.at c49 [(1 : Nat), (1 : Nat)])] [(2, V.rptr (Cds c) (0)), (5, V.d (D.int IntKind.i64 n))] [] := by kernel_rfl

def E49 (c : Cmp) (n : Int) : Env := [(2, .rptr (Cds c) 0), (5, vi n)]
theorem b49 (c : Cmp) (n : Int) : sx X8 (CCode.at c49 [1,0,1,0,0]) [] leafK (E49 c n) [] [] =
    Tr.br (decide (n ≤ (11 : Int))) (Tr.need (Cv (dCe c) = Cv c ∧ List.length (Cmp.closed (dCe c)) ≤ (140737488355328 : Nat)) (Tr.br (openB (Cmp.closed (dCe c)) n) (Tr.leaf CExit.ret [(4, V.d (D.int IntKind.i64 n))] []) (Tr.need ((-9223372036854775808 : Int) ≤ n + (1 : Int) ∧ n + (1 : Int) ≤ (9223372036854775807 : Int)) (Tr.leaf CExit.normal [(2, V.rptr (Cds c) (0)), (5, V.d (D.int IntKind.i64 (n + (1 : Int))))] [])))) (Tr.leaf (CExit.exit (0)) [(2, V.rptr (Cds c) (0)), (5, V.d (D.int IntKind.i64 n)), (8, V.d (D.bool (decide (n ≤ (11 : Int)))))] []) := by kernel_rfl

theorem x49 (env : Env) (h : Heap) : sS X8 (doneK r49) [Fr.blk 0, Fr.seq (CCode.at c49 [1, 1])] (.exit 0) env [] h =
    Tr.done (V.d (D.int IntKind.i64 (-1 : Int))) h := by kernel_rfl

theorem t49 (n : Int) (h : Heap) : sS X8 (doneK r49) [Fr.blk 0, Fr.seq (CCode.at c49 [1, 1])] .ret [(4, vi n)] [] h =
    Tr.done (V.d (D.int IntKind.i64 n)) h := by kernel_rfl

/-- The reference's loop, from any day on. -/
def regR (cl : List Rng) (n : Int) : Int := regF cl (12 - n).toNat n
theorem y49 (c : Cmp) (n : Int) (h0 : -9223372036854775808 ≤ n) (hl : c.closed.length ≤ 140737488355328) : Yields Try.prog 49 [Cv c, vi n] (vi (regR c.closed n)) := by
  refine q49.yieldsK X8_ok rfl rfl rfl (w49 c n) ?_
  simp only [holds]
  refine lp_count X8_ok (12 - n).toNat (fun k => regF c.closed (12 - n).toNat n = regF c.closed ((12 - n).toNat - k) (n + k)) (fun k => E49 c (n + k)) (fun k => [])
    (by simp; rfl) rfl (by simp) (fun k _ => ⟨rfl, rfl, rfl⟩) ?_
  intro k hk hA Q' hn he hr
  rw [b49]
  simp only [holds, dCe, dC_enc, true_and]
  refine ⟨fun h1 => ⟨hl, fun h2 => ?_, fun h2 => ⟨?_, ?_⟩⟩, fun h1 => ?_⟩
  · refine hr _ _ (ret_tree X8_ok (doneK_ok rfl) (t49 _ _) ?_)
    simp only [holds]
    refine .of_eq (congrArg vi ?_)
    have h1 := of_decide_eq_true h1
    have : (12 - n).toNat - k = ((12 - n).toNat - k - 1) + 1 := by omega
    rw [regR, hA, this, regF, if_pos h2]
  · have h1 := of_decide_eq_true h1; omega
  · have h1 := of_decide_eq_true h1
    have := hn [] (by omega) (by
      rw [hA]
      have : (12 - n).toNat - k = ((12 - n).toNat - (k + 1)) + 1 := by omega
      rw [this, regF, if_neg (by rw [h2]; decide)]
      congr 1
      omega)
    have e : n + ((k + 1 : Nat) : Int) = n + (k : Int) + 1 := by omega
    rw [e] at this
    exact this
  · refine he _ _ _ (ret_tree X8_ok (doneK_ok rfl) (x49 _ _) ?_)
    simp only [holds]
    refine .of_eq (congrArg vi ?_)
    have h1 := of_decide_eq_false h1
    have : (12 - n).toNat - k = 0 := by omega
    rw [regR, hA, this, regF]
def regN (c : Cmp) (n : Int) : Int := if faultM c = 0 ∧ isDay n = true then regM c.closed n else 0
def regE (c : Cmp) (n : Int) : Int := if faultM c ≠ 0 then faultM c else if isDay n = true then 0 else 2
theorem fault_ok {c : Cmp} (h : faultM c = 0) : (1 ≤ c.houses ∧ c.houses ≤ 4 ∧ (c.held.length : Int) = c.houses ∧ c.trades.length ≤ 4 ∧ c.divs.length ≤ 3 ∧ c.splits.length ≤ 2 ∧ c.closed.length ≤ 2) ∧
    c.held.all (Rng.has ⟨0, 100⟩) = true ∧ c.trades.all (okTr c.houses) = true ∧ c.divs.all okDv = true ∧ okSs (-1) c.splits = true ∧ c.closed.all Rng.days = true := by
  unfold faultM at h
  split at h
  · cases h
  · rename_i h1
    split at h
    · rename_i h2
      exact ⟨by omega, h2.2.2⟩
    · cases h
theorem w50 (c : Cmp) (n : Int) : sx X8 c50 [] (doneF 0 r50) (envOf [Cv c, vi n]) [] [] =
    Tr.need (Cv (dCe c) = Cv c ∧ True) (Tr.br (faultM (dCe c) != (0 : Int)) (Tr.done (V.tup [V.d (D.int IntKind.i64 (0 : Int)), V.d (D.int IntKind.i64 (faultM (dCe c)))]) []) (Tr.need True (Tr.br (!isDay n) (Tr.done (V.tup [V.d (D.int IntKind.i64 (0 : Int)), V.d (D.int IntKind.i64 (2 : Int))]) []) (Tr.need (Cv (dCe c) = Cv c ∧ List.length (Cmp.closed (dCe c)) ≤ (140737488355328 : Nat)) (Tr.done (V.tup [V.d (D.int IntKind.i64 (regM (Cmp.closed (dCe c)) n)), V.d (D.int IntKind.i64 (0 : Int))]) []))))) := by kernel_rfl

theorem y50 (c : Cmp) (n : Int) : Yields Try.prog 50 [Cv c, vi n] (V.tup [vi (regN c n), vi (regE c n)]) := by
  refine q50.yields X8_ok rfl rfl rfl (w50 c n) ?_
  simp only [holds]
  simp only [dCe, dC_enc, true_and]
  repeat' (first | (refine And.intro ?_ ?_) | (refine fun (_ : _ = _) => ?_))
  all_goals (have hf := @fault_ok c; grind [VLe.of_eq, regN, regE, vi])
end
end Go.Proofs.Ytdnefcjbcieecaa
