/- A part of the proof. -/
import Derived.Test.YtdnefcjbcieecaaPart9
import Derived.Test.YtdnefcjbcieecaaProg
import Derived.ProofKit
import Derived.OpenShut
import Derived.ReadAgain
import Derived.ChangeBook
import Derived.ChangeOld
import Derived.ChangeArms
import Derived.Deep.Slices
import Derived.KernelRfl
set_option linter.unusedVariables false
set_option linter.unusedSimpArgs false
namespace Go.Proofs.Ytdnefcjbcieecaa
open Go Go.ChangeShapes Go.WideShapes Go.ChangeAt Go.RowKit
def flatFs (g : TypeId → Option (List IntKind)) (cell : TypeId → Nat) : List Field → Nat → Option (List IntKind)
 | [], _ => some []
 | f :: fs, off => if f.offset = off then match g f.type, flatFs g cell fs (off + cell f.type) with
   | some a, some b => if a.length = cell f.type then some (a ++ b) else none
   | _, _ => none
  else none
def flatOf (P : Program) : Nat → TypeId → Option (List IntKind)
 | 0, _ => none
 | m + 1, T => match P.underlying T with
  | some (.int k) => some [k]
  | some (.struct fs) => match flatFs (flatOf P m) P.cellsOf fs.toList 0 with
   | some ks => if ks.length = P.cellsOf T then some ks else none
   | none => none
  | _ => none
section
variable {H : Type} {enc : TypeId × Value → H} {P : Program} {w : World} {base : Nat} {spare : Nat → Bool} {held : Bool}
def IntsIn (ks : List IntKind) (cs : List Value) (ns : List Int) : Prop :=
 ns.length = ks.length ∧ cs = List.zipWith Value.int ks ns ∧ ∀ (j : Nat) k n, ks[j]? = some k → ns[j]? = some n → (Lit.int k n).wf = true
theorem IntsIn.append {k1 k2 : List IntKind} {c1 c2 : List Value} {n1 n2 : List Int} (h1 : IntsIn k1 c1 n1) (h2 : IntsIn k2 c2 n2) : IntsIn (k1 ++ k2) (c1 ++ c2) (n1 ++ n2) := by
 obtain ⟨a1, b1, d1⟩ := h1
 obtain ⟨a2, b2, d2⟩ := h2
 refine ⟨by simp [a1, a2], by rw [b1, b2, List.zipWith_append a1.symm], fun j k n hk hn => ?_⟩
 by_cases hj : j < k1.length
 ·rw [List.getElem?_append_left hj] at hk
  rw [List.getElem?_append_left (by omega)] at hn
  exact d1 j k n hk hn
 ·rw [List.getElem?_append_right (by omega)] at hk
  rw [List.getElem?_append_right (by omega)] at hn
  rw [a1] at hn
  exact d2 _ k n hk hn
theorem flat_sound : ∀ (m : Nat) (T : TypeId) (ks : List IntKind), flatOf P m T = some ks → ∀ (fuel : Nat) (cs : List Value) (x : DataW H × List MemPlace), DataW.trod enc P w base spare held fuel T cs = some x → ∃ ns, IntsIn ks cs ns
 | 0, _, _, h => by cases h
 | m + 1, T, ks, h => by
  intro fuel cs x hx
  unfold flatOf at h
  split at h
  ·rename_i k hu
   cases h
   obtain ⟨n, rfl, _, hw⟩ := DataW.trod_int hu hx
   exact ⟨[n], rfl, rfl, fun j k' n' hk hn => by
    cases j with
    | zero => cases hk; cases hn; exact hw
    | succ j => simp at hk⟩
  ·rename_i fs hu
   split at h
   ·rename_i ks' hks
    split at h
    ·rename_i hlen
     cases h
     obtain ⟨xs, n, _, _, hcl, hxl, hf⟩ := DataW.trod_struct hu hx
     have key : ∀ (fl : List Field) (off i0 : Nat) (ks : List IntKind), (∀ (j : Nat) f, fl[j]? = some f → fs[i0 + j]? = some f) → fl.length + i0 = fs.size → flatFs (flatOf P m) P.cellsOf fl off = some ks → off + ks.length = cs.length → ∃ ns, IntsIn ks (cs.drop off) ns := by
      intro fl
      induction fl with
      | nil =>
       intro off i0 ks hg hl hk ho
       cases hk
       exact ⟨[], rfl, List.drop_eq_nil_of_le (by simp at ho; omega), fun j k n h => by simp at h⟩
      | cons f fl ih =>
       intro off i0 ks hg hl hk ho
       unfold flatFs at hk
       split at hk
       ·rename_i hoff
        split at hk
        ·rename_i a b ha hb
         split at hk
         ·rename_i hal
          cases hk
          have hfi := hg 0 f rfl
          have h1 := hf i0 f (by simpa using hfi)
          have hlt : i0 < xs.length := by rw [hxl]; simp at hl; omega
          rw [List.getElem?_eq_getElem hlt, hoff] at h1
          obtain ⟨n1, hn1⟩ := flat_sound m f.type a ha n _ _ h1
          obtain ⟨n2, hn2⟩ := ih (off + P.cellsOf f.type) (i0 + 1) b (fun j g hj => by have := hg (j + 1) g hj; rwa [show i0 + (j + 1) = i0 + 1 + j by omega] at this) (by simp at hl ⊢; omega) hb (by simp at ho; omega)
          refine ⟨n1 ++ n2, ?_⟩
          have e : cs.drop off = (cs.drop off).take (P.cellsOf f.type) ++ cs.drop (off + P.cellsOf f.type) := by rw [← List.drop_drop, List.take_append_drop]
          rw [e]
          exact hn1.append hn2
         ·cases hk
        ·cases hk
       ·cases hk
     obtain ⟨ns, hns⟩ := key fs.toList 0 0 ks (fun j f hj => by simpa using hj) (by simp) hks (by rw [hcl, hlen]; simp)
     exact ⟨ns, by simpa using hns⟩
    ·cases h
   ·cases h
  ·cases h
def memOf (P : Program) (w : World) : Mem := { ro := fun b o => w.cell? ⟨b, o, none⟩, mu := fun _ => none, df := fun _ => False, cc := ccP P }
theorem sim_memOf (P : Program) (w : World) : Sim (memOf P w) [] w :=
 ⟨fun i blk h => by simp at h, fun i j bi bj ri rj b h => by simp at h, fun b o v h => ⟨h, fun ⟨i, _, _, h, _⟩ => by simp at h⟩, fun _ _ => rfl, fun _ h => h.elim⟩
def rowD (ks : List IntKind) (ns : List Int) : List D := List.zipWith D.int ks ns
theorem rowD_len {ks : List IntKind} {cs : List Value} {ns : List Int} (h : IntsIn ks cs ns) : (rowD ks ns).length = ks.length := by simp [rowD, h.1]
theorem slice_sound {T e : TypeId} {ks : List IntKind} {m : Nat} (hT : P.underlying T = some (.slice e)) (he : flatOf P m e = some ks) (hsz : P.cellsOf e = ks.length) (hpos : 0 < ks.length) {fuel : Nat} {cs : List Value} {x : DataW H × List MemPlace}
  (hx : DataW.trod enc P w base spare held fuel T cs = some x) :
  ∃ (rows : List (List Int)) (v : Value), cs = [v] ∧ RepD (memOf P w).ro (.sl false rows.length (rows.flatMap (rowD ks))) v ∧ rows.length ≤ maxLen ∧ ∀ r ∈ rows, r.length = ks.length ∧ ∀ (j : Nat) k n, ks[j]? = some k → r[j]? = some n → (Lit.int k n).wf = true := by
 rcases Go.Deep.open_slice hT hx with ⟨rfl, _⟩ | ⟨a, len, cap, q, n, Df, Pl, rfl, _, hle, hm, hq, _, hel⟩
 ·refine ⟨[], _, rfl, ?_, Nat.zero_le _, fun r hr => by simp at hr⟩
  have := VLe.sl (n := 0) (cs := []) (memOf P w) _ (.d _ _ (rep_nil _))
  cases this with
  | d x v h => exact h
 ·have hlq : len ≤ q := by rw [hq]; split <;> omega
  have hrow : ∀ i, i < len → ∃ ns, (∀ (j : Nat), j < ks.length → w.cell? ((a.add (i * ks.length)).add j) = (List.zipWith Value.int ks ns)[j]?) ∧ IntsIn ks (List.zipWith Value.int ks ns) ns := fun i hi => by
   obtain ⟨cs', h1, h2⟩ := hel i (by omega)
   obtain ⟨ns, hns⟩ := flat_sound m e ks he n cs' _ h2
   rw [hsz] at h1
   obtain ⟨_, hl, hc⟩ := World.cells?_some h1
   obtain ⟨h3, h4, h5⟩ := hns
   exact ⟨ns, fun j hj => by rw [← h4]; exact hc j hj, h3, rfl, h5⟩
  obtain ⟨f, hf⟩ : ∃ f : Nat → List Int, ∀ i, i < len → (∀ (j : Nat), j < ks.length → w.cell? ((a.add (i * ks.length)).add j) = (List.zipWith Value.int ks (f i))[j]?) ∧ IntsIn ks (List.zipWith Value.int ks (f i)) (f i) :=
   ⟨fun i => if h : i < len then Classical.choose (hrow i h) else [], fun i hi => by simp only [dif_pos hi]; exact Classical.choose_spec (hrow i hi)⟩
  have hrl : ∀ r ∈ (List.range len).map f, (rowD ks r).length = ks.length := fun r hr => by
   obtain ⟨i, hi, rfl⟩ := List.mem_map.1 hr
   exact rowD_len (hf i (List.mem_range.1 hi)).2
  have hget : ∀ (i j : Nat), i < len → j < ks.length → (((List.range len).map f).flatMap (rowD ks))[i * ks.length + j]? = (rowD ks (f i))[j]? := by
   have gen : ∀ (l : List (List Int)), (∀ r ∈ l, (rowD ks r).length = ks.length) → ∀ (i j : Nat), j < ks.length → (l.flatMap (rowD ks))[i * ks.length + j]? = (l[i]?).bind fun r => (rowD ks r)[j]? := by
    intro l
    induction l with
    | nil => intro _ i j _; simp
    | cons r l ih =>
     intro hl i j hj
     have h0 := hl r (by simp)
     cases i with
     | zero => rw [List.flatMap_cons, List.getElem?_append_left (by omega)]; simp
     | succ i =>
      rw [List.flatMap_cons, List.getElem?_append_right (by rw [h0, Nat.add_mul]; omega), h0]
      have : (i + 1) * ks.length + j - ks.length = i * ks.length + j := by rw [Nat.add_mul]; omega
      rw [this, ih (fun r hr => hl r (by simp [hr])) i j hj]
      rfl
   intro i j hi hj
   rw [gen _ hrl i j hj]
   simp [hi]
  have hlen : (((List.range len).map f).flatMap (rowD ks)).length = len * ks.length := by
   have gen : ∀ (l : List (List Int)), (∀ r ∈ l, (rowD ks r).length = ks.length) → (l.flatMap (rowD ks)).length = l.length * ks.length := by
    intro l
    induction l with
    | nil => intro _; simp
    | cons r l ih =>
     intro hl
     rw [List.flatMap_cons, List.length_append, hl r (by simp), ih (fun r hr => hl r (by simp [hr])), List.length_cons, Nat.add_mul]
     omega
   rw [gen _ hrl]; simp
  have hwf : ∀ r ∈ (List.range len).map f, r.length = ks.length ∧ ∀ (j : Nat) k n, ks[j]? = some k → r[j]? = some n → (Lit.int k n).wf = true := fun r hr => by
   obtain ⟨i, hi, rfl⟩ := List.mem_map.1 hr
   exact ⟨(hf i (List.mem_range.1 hi)).2.1, (hf i (List.mem_range.1 hi)).2.2.2⟩
  refine ⟨(List.range len).map f, _, rfl, ?_, by simp; omega, hwf⟩
  have hl2 : ((List.range len).map f).length = len := by simp
  rw [hl2]
  rcases Nat.eq_zero_or_pos len with h0 | h0
  ·subst h0
   exact .sl false 0 cap _ (some a) 0 0 (fun _ => undef) hle hm (fun e => by cases e) (.inl (by simp)) (fun k hk => by simp at hk) (fun k c hc => by simp at hc)
  · -- the address is plain
   have hspot : a = ⟨a.block, a.off, none⟩ := by
    have h1 := (hf 0 h0).1 0 hpos
    have h2 := (hf 0 h0).2.1
    have h3 : (a.add (0 * ks.length)).add 0 = a := by simp [Addr.add]
    rw [h3] at h1
    have h4 : (List.zipWith Value.int ks (f 0))[0]? ≠ none := by
     intro e
     rw [List.getElem?_eq_none_iff, List.length_zipWith, h2, Nat.min_self] at e
     omega
    cases hs : a.spot with
    | none => cases a; simp_all
    | some s =>
     exfalso
     apply h4
     rw [← h1]
     unfold World.cell?
     split
     ·simp [hs]
     ·rfl
   have hadd : ∀ i j : Nat, (a.add (i * ks.length)).add j = ⟨a.block, a.off + (i * ks.length + j), none⟩ := fun i j => by
    rw [hspot]
    by_cases hi : i * ks.length = 0
    ·by_cases hj : j = 0
     ·simp [Addr.add, hi, hj]
     ·simp [Addr.add, hi, hj]
    ·by_cases hj : j = 0
     ·simp [Addr.add, hi, hj]
     ·simp [Addr.add, hi, hj]; omega
   have hsplit : ∀ k, k < len * ks.length → ∃ i j, i < len ∧ j < ks.length ∧ k = i * ks.length + j := fun k hk =>
    ⟨k / ks.length, k % ks.length, (Nat.div_lt_iff_lt_mul hpos).2 hk, Nat.mod_lt _ hpos, by rw [Nat.mul_comm]; exact (Nat.div_add_mod k ks.length).symm⟩
   refine .sl false len cap _ (some a) a.block a.off (fun k => (w.cell? ⟨a.block, a.off + k, none⟩).getD undef) hle hm (fun e => by cases e) (.inr (congrArg some hspot)) (fun k hk => ?_) (fun k c hc => ?_)
   ·rw [hlen] at hk
    obtain ⟨i, j, hi, hj, rfl⟩ := hsplit k hk
    have h1 := (hf i hi).1 j hj
    rw [hadd] at h1
    show w.cell? _ = _
    rw [h1]
    have h2 := (hf i hi).2.1
    rw [List.getElem?_eq_getElem (by simp [h2]; omega)]
    rfl
   ·have hk : k < len * ks.length := by rw [← hlen]; exact (List.getElem?_eq_some_iff.1 hc).1
    obtain ⟨i, j, hi, hj, rfl⟩ := hsplit k hk
    rw [hget i j hi hj] at hc
    have h1 := (hf i hi).1 j hj
    rw [hadd] at h1
    rw [h1]
    have h2 := (hf i hi).2.1
    have hk' : ks[j]? = some ks[j] := List.getElem?_eq_getElem hj
    have hn' : (f i)[j]? = some ((f i)[j]'(by omega)) := List.getElem?_eq_getElem (by omega)
    simp only [rowD, List.getElem?_zipWith, hk', hn', Option.map_some, Option.bind_some, Option.some.injEq] at hc ⊢
    subst hc
    exact .int _ _
end
def in64 (n : Int) : Prop := -9223372036854775808 ≤ n ∧ n ≤ 9223372036854775807
theorem rows1 {rows : List (List Int)} (h : ∀ r ∈ rows, r.length = 1) : ∃ l : List Int, l.length = rows.length ∧ rows.flatMap (rowD [.i64]) = Go.Proofs.Ytdnefcjbcieecaa.enc eI l := by
 induction rows with
 | nil => exact ⟨[], rfl, rfl⟩
 | cons r rows ih =>
  obtain ⟨l, h1, h2⟩ := ih fun r hr => h r (by simp [hr])
  match r, h r (by simp) with
  | [a], _ => exact ⟨a :: l, by simp [h1], by rw [List.flatMap_cons, h2]; rfl⟩
theorem rows2 {rows : List (List Int)} (h : ∀ r ∈ rows, r.length = 2) : ∃ l : List Rng, l.length = rows.length ∧ rows.flatMap (rowD [.i64, .i64]) = Go.Proofs.Ytdnefcjbcieecaa.enc eR l := by
 induction rows with
 | nil => exact ⟨[], rfl, rfl⟩
 | cons r rows ih =>
  obtain ⟨l, h1, h2⟩ := ih fun r hr => h r (by simp [hr])
  match r, h r (by simp) with
  | [a, b], _ => exact ⟨⟨a, b⟩ :: l, by simp [h1], by rw [List.flatMap_cons, h2]; rfl⟩
theorem rows3V {rows : List (List Int)} (h : ∀ r ∈ rows, r.length = 3) : ∃ l : List Dvd, l.length = rows.length ∧ rows.flatMap (rowD [.i64, .i64, .i64]) = Go.Proofs.Ytdnefcjbcieecaa.enc eV l := by
 induction rows with
 | nil => exact ⟨[], rfl, rfl⟩
 | cons r rows ih =>
  obtain ⟨l, h1, h2⟩ := ih fun r hr => h r (by simp [hr])
  match r, h r (by simp) with
  | [a, b, c], _ => exact ⟨⟨a, b, c⟩ :: l, by simp [h1], by rw [List.flatMap_cons, h2]; rfl⟩
theorem rows3S {rows : List (List Int)} (h : ∀ r ∈ rows, r.length = 3) : ∃ l : List Spl, l.length = rows.length ∧ rows.flatMap (rowD [.i64, .i64, .i64]) = Go.Proofs.Ytdnefcjbcieecaa.enc eS l := by
 induction rows with
 | nil => exact ⟨[], rfl, rfl⟩
 | cons r rows ih =>
  obtain ⟨l, h1, h2⟩ := ih fun r hr => h r (by simp [hr])
  match r, h r (by simp) with
  | [a, b, c], _ => exact ⟨⟨a, b, c⟩ :: l, by simp [h1], by rw [List.flatMap_cons, h2]; rfl⟩
theorem rows7 {rows : List (List Int)} (h : ∀ r ∈ rows, r.length = 7) : ∃ l : List Trd, l.length = rows.length ∧ rows.flatMap (rowD [.i64, .i64, .i64, .i64, .i64, .i64, .i64]) = Go.Proofs.Ytdnefcjbcieecaa.enc eT l := by
 induction rows with
 | nil => exact ⟨[], rfl, rfl⟩
 | cons r rows ih =>
  obtain ⟨l, h1, h2⟩ := ih fun r hr => h r (by simp [hr])
  match r, h r (by simp) with
  | [a, b, c, d, e, f, g], _ => exact ⟨⟨a, b, c, ⟨d, e⟩, ⟨f, g⟩⟩ :: l, by simp [h1], by rw [List.flatMap_cons, h2]; rfl⟩
theorem trodAll_old {H : Type} {enc : TypeId × Value → H} {P : Program} {W W' : World} {T : TypeId → Prop} (K : Kids P T) (hz : ∀ t e, T t → P.underlying t = some (.slice e) → 0 < P.cellsOf e) {ts : List TypeId} (hT : ∀ t ∈ ts, T t)
  {vs : List Value} {ds : List (DataW H)} {ps : List MemPlace} (h : DataW.TrodAll enc P W 0 (fun _ => true) true ts vs ds ps) (hold : ∀ b, b < W.heap.size → W'.heap[b]? = W.heap[b]?) :
  DataW.TrodAll enc P W' 0 (fun b => decide (b < W.heap.size)) true ts vs ds ps := by
 have hlt := h.lt
 have h2 := h.respare (spare' := fun b => decide (b < W.heap.size)) K hz hT (fun p hp => decide_eq_true (hlt p hp))
 have hsame : ∀ p ∈ ps, W.sameAt W' p := fun p hp => by
  have := hold _ (hlt p hp)
  cases p with
  | cell b off =>
   have this : W'.heap[b]? = W.heap[b]? := this
   show W'.cell? _ = W.cell? _
   unfold World.cell?
   rw [this]
  | map b => exact this
 clear h hlt
 revert vs ds ps
 induction ts with
 | nil => intro vs ds ps h _; cases vs <;> cases ds <;> first | exact h | exact h.elim
 | cons t ts ih =>
  intro vs ds ps h hs
  cases vs with
  | nil => exact h.elim
  | cons v vs => cases ds with
   | nil => exact h.elim
   | cons d ds =>
    obtain ⟨p, q, ⟨n, h1⟩, h2, rfl⟩ := h
    exact ⟨p, q, ⟨n, DataW.trod_carry n _ _ _ h1 fun x hx => hs x (List.mem_append_left _ hx)⟩, ih (fun t ht => hT t (by simp [ht])) h2 (fun x hx => hs x (List.mem_append_right _ hx)), rfl⟩
theorem calls_true {P : Program} {g : Nat} {vs : List V} {b : Bool} (hy : Yields P g vs (vb b)) (w : World) {args : List Value} (hr : RepL (memOf P w) vs args) :
  Calls P g args.toArray w fun e w' => e = .returned (.bool b) ∧ w'.os = w.os ∧ w'.tape = w.tape ∧ w'.output = w.output ∧ w.heap.size ≤ w'.heap.size ∧ ∀ b, b < w.heap.size → w'.heap[b]? = w.heap[b]? := by
 refine ((hy []).2 (memOf P w) w args rfl (sim_memOf P w) hr).mono ?_
 rintro e w' ⟨cv, v, h2, M', rfl, hp, hv, rfl, rfl⟩
 have hv : RepV M' (.d (.bool b)) cv := hv
 exact ⟨by rw [hv.boolI], hp.os, hp.tape, hp.output, hp.size, fun b hb => hp.keep b hb (fun ⟨i, blk, r, hi, _⟩ => by simp at hi)⟩
end Go.Proofs.Ytdnefcjbcieecaa
namespace Go.Proofs.Ytdnefcjbcieecaa
open Go Go.ChangeShapes Go.WideShapes Go.ChangeAt Go.RowKit
def fieldAt (P : Program) (T : TypeId) (i : Nat) : Option (TypeId × Nat × Nat) := match P.underlying T with
 | some (.struct fs) => (fs[i]?).map fun f => (f.type, f.offset, P.cellsOf f.type)
 | _ => none
def isSlice (P : Program) (T e : TypeId) : Bool := match P.underlying T with
 | some (.slice t) => t == e
 | _ => false
noncomputable def isIntT (P : Program) (T : TypeId) : Nat := match P.underlying T with
 | some (.int k) => kn k + 1
 | _ => 0
theorem isSlice_eq {P : Program} {T e : TypeId} (h : isSlice P T e = true) : P.underlying T = some (.slice e) := by
 unfold isSlice at h
 split at h
 ·rename_i hu; rw [hu, eq_of_beq h]
 ·cases h
theorem isIntT_eq {P : Program} {T : TypeId} {k : IntKind} (h : isIntT P T = kn k + 1) : P.underlying T = some (.int k) := by
 unfold isIntT at h
 split at h
 ·rename_i k' hu
  rw [hu]
  have h2 : kn k' = kn k := by omega
  have h3 : k' = k := kn_inj (by rw [h2]; exact Nat.beq_refl _)
  rw [h3]
 ·omega
section
variable {H : Type} {enc : TypeId × Value → H} {w : World} {spare : Nat → Bool} {held : Bool}
theorem field_sound {P : Program} {T t : TypeId} {i off c fuel : Nat} {cs : List Value} {x : DataW H × List MemPlace} (hf : fieldAt P T i = some (t, off, c)) (hx : DataW.trod enc P w 0 spare held fuel T cs = some x) :
  cs.length = P.cellsOf T ∧ ∃ n y, DataW.trod enc P w 0 spare held n t ((cs.drop off).take c) = some y := by
 unfold fieldAt at hf
 split at hf
 ·rename_i fs hu
  obtain ⟨xs, n, _, _, hl, hxl, h⟩ := DataW.trod_struct hu hx
  cases hi : fs[i]? with
  | none => rw [hi] at hf; cases hf
  | some f =>
   rw [hi] at hf
   simp only [Option.map_some, Option.some.injEq, Prod.mk.injEq] at hf
   obtain ⟨rfl, rfl, rfl⟩ := hf
   have h1 := h i f hi
   have hlt : i < xs.length := by rw [hxl]; exact (Array.getElem?_eq_some_iff.1 hi).1
   rw [List.getElem?_eq_getElem hlt] at h1
   exact ⟨hl, n, _, h1⟩
 ·cases hf
theorem int_sound {P : Program} {T : TypeId} {k : IntKind} {fuel : Nat} {cs : List Value} {x : DataW H × List MemPlace} (hT : isIntT P T = kn k + 1) (hx : DataW.trod enc P w 0 spare held fuel T cs = some x) :
  ∃ n, cs = [.int k n] ∧ (Lit.int k n).wf = true := by
 obtain ⟨n, h1, _, h2⟩ := DataW.trod_int (isIntT_eq hT) hx
 exact ⟨n, h1, h2⟩
theorem cellAt {cs : List Value} {off : Nat} {v : Value} (h : (cs.drop off).take 1 = [v]) : cs[off]? = some v := by
 have : ((cs.drop off).take 1)[0]? = some v := by rw [h]; rfl
 simpa using this
theorem listI_sound {fuel : Nat} {cs : List Value} {x : DataW H × List MemPlace} (hx : DataW.trod enc Try.prog w 0 spare held fuel 22 cs = some x) :
  ∃ (l : List Int) (v : Value), cs = [v] ∧ RepD (memOf Try.prog w).ro (dsl eI l) v ∧ l.length ≤ maxLen := by
 obtain ⟨rows, v, h1, h2, h3, h4⟩ := slice_sound (ks := [.i64]) (m := 3) (isSlice_eq (e := 3) (by kernel_rfl)) (by kernel_rfl) (by kernel_rfl) (by decide) hx
 obtain ⟨l, hl, he⟩ := rows1 fun r hr => (h4 r hr).1
 exact ⟨l, v, h1, by unfold dsl; rw [hl, ← he]; exact h2, by omega⟩
theorem listR_sound {fuel : Nat} {cs : List Value} {x : DataW H × List MemPlace} (hx : DataW.trod enc Try.prog w 0 spare held fuel 26 cs = some x) :
  ∃ (l : List Rng) (v : Value), cs = [v] ∧ RepD (memOf Try.prog w).ro (dsl eR l) v ∧ l.length ≤ maxLen := by
 obtain ⟨rows, v, h1, h2, h3, h4⟩ := slice_sound (ks := [.i64, .i64]) (m := 3) (isSlice_eq (e := 73) (by kernel_rfl)) (by kernel_rfl) (by kernel_rfl) (by decide) hx
 obtain ⟨l, hl, he⟩ := rows2 fun r hr => (h4 r hr).1
 exact ⟨l, v, h1, by unfold dsl; rw [hl, ← he]; exact h2, by omega⟩
theorem listT_sound {e : TypeId} (he1 : isSlice Try.prog 23 e = true) (he2 : flatOf Try.prog 4 e = some [.i64, .i64, .i64, .i64, .i64, .i64, .i64]) (he3 : Try.prog.cellsOf e = 7) {fuel : Nat} {cs : List Value} {x : DataW H × List MemPlace} (hx : DataW.trod enc Try.prog w 0 spare held fuel 23 cs = some x) :
  ∃ (l : List Trd) (v : Value), cs = [v] ∧ RepD (memOf Try.prog w).ro (dsl eT l) v ∧ l.length ≤ maxLen := by
 obtain ⟨rows, v, h1, h2, h3, h4⟩ := slice_sound (m := 4) (isSlice_eq he1) he2 he3 (by decide) hx
 obtain ⟨l, hl, he⟩ := rows7 fun r hr => (h4 r hr).1
 exact ⟨l, v, h1, by unfold dsl; rw [hl, ← he]; exact h2, by omega⟩
theorem listV_sound {fuel : Nat} {cs : List Value} {x : DataW H × List MemPlace} (hx : DataW.trod enc Try.prog w 0 spare held fuel 24 cs = some x) :
  ∃ (l : List Dvd) (v : Value), cs = [v] ∧ RepD (memOf Try.prog w).ro (dsl eV l) v ∧ l.length ≤ maxLen := by
 obtain ⟨rows, v, h1, h2, h3, h4⟩ := slice_sound (ks := [.i64, .i64, .i64]) (m := 3) (isSlice_eq (e := 52) (by kernel_rfl)) (by kernel_rfl) (by kernel_rfl) (by decide) hx
 obtain ⟨l, hl, he⟩ := rows3V fun r hr => (h4 r hr).1
 exact ⟨l, v, h1, by unfold dsl; rw [hl, ← he]; exact h2, by omega⟩
theorem listS_sound {fuel : Nat} {cs : List Value} {x : DataW H × List MemPlace} (hx : DataW.trod enc Try.prog w 0 spare held fuel 25 cs = some x) :
  ∃ (l : List Spl) (v : Value), cs = [v] ∧ RepD (memOf Try.prog w).ro (dsl eS l) v ∧ l.length ≤ maxLen := by
 obtain ⟨rows, v, h1, h2, h3, h4⟩ := slice_sound (ks := [.i64, .i64, .i64]) (m := 3) (isSlice_eq (e := 79) (by kernel_rfl)) (by kernel_rfl) (by kernel_rfl) (by decide) hx
 obtain ⟨l, hl, he⟩ := rows3S fun r hr => (h4 r hr).1
 exact ⟨l, v, h1, by unfold dsl; rw [hl, ← he]; exact h2, by omega⟩
theorem rep_agg {M : Mem} {ds : List D} {cs : List Value} (hl : ds.length = cs.length) (h : ∀ (k : Nat) d v, ds[k]? = some d → cs[k]? = some v → RepD M.ro d v) : RepV M (.agg (ds.map .d)) (.agg cs.toArray) := by
 refine .agg _ _ (by simpa using hl) (fun k v c hv hc => ?_) (fun u hu => ?_)
 ·rw [List.getElem?_map] at hv
  cases hd : ds[k]? with
  | none => rw [hd] at hv; cases hv
  | some d => rw [hd] at hv; cases hv; exact .d _ _ (h k d c hd hc)
 ·obtain ⟨k, hk, rfl⟩ := List.getElem_of_mem hu
  exact (h k ds[k] cs[k] (by simp) (by simp)).one
theorem company_sound {cs : Array Value} {fuel : Nat} {x : DataW H × List MemPlace} (hx : DataW.trod enc Try.prog w 0 spare held fuel 28 cs.toList = some x) : ∃ c : Cmp, RepV (memOf Try.prog w) (Cv c) (.agg cs) ∧ in64 c.houses ∧
  c.held.length ≤ maxLen ∧ c.trades.length ≤ maxLen ∧ c.divs.length ≤ maxLen ∧ c.splits.length ≤ maxLen ∧ c.closed.length ≤ maxLen := by
 obtain ⟨hl, n0, y0, h0⟩ := field_sound (i := 0) (t := 3) (off := 0) (c := 1) (by kernel_rfl) hx
 obtain ⟨_, n1, y1, h1⟩ := field_sound (i := 1) (t := 22) (off := 1) (c := 1) (by kernel_rfl) hx
 obtain ⟨_, n2, y2, h2⟩ := field_sound (i := 2) (t := 23) (off := 2) (c := 1) (by kernel_rfl) hx
 obtain ⟨_, n3, y3, h3⟩ := field_sound (i := 3) (t := 24) (off := 3) (c := 1) (by kernel_rfl) hx
 obtain ⟨_, n4, y4, h4⟩ := field_sound (i := 4) (t := 25) (off := 4) (c := 1) (by kernel_rfl) hx
 obtain ⟨_, n5, y5, h5⟩ := field_sound (i := 5) (t := 26) (off := 5) (c := 1) (by kernel_rfl) hx
 have hc : Try.prog.cellsOf 28 = 6 := by kernel_rfl
 rw [hc] at hl
 obtain ⟨hs, e0, hw⟩ := int_sound (k := .i64) (by kernel_rfl) h0
 obtain ⟨l1, v1, e1, r1, m1⟩ := listI_sound h1
 obtain ⟨l2, v2, e2, r2, m2⟩ := listT_sound (e := 99) (by kernel_rfl) (by kernel_rfl) (by kernel_rfl) h2
 obtain ⟨l3, v3, e3, r3, m3⟩ := listV_sound h3
 obtain ⟨l4, v4, e4, r4, m4⟩ := listS_sound h4
 obtain ⟨l5, v5, e5, r5, m5⟩ := listR_sound h5
 have c0 := cellAt e0; have c1 := cellAt e1; have c2 := cellAt e2; have c3 := cellAt e3; have c4 := cellAt e4; have c5 := cellAt e5
 refine ⟨⟨hs, l1, l2, l3, l4, l5⟩, ?_, bounds_i64 hw, m1, m2, m3, m4, m5⟩
 have := rep_agg (M := memOf Try.prog w) (ds := [.int .i64 hs, dsl eI l1, dsl eT l2, dsl eV l3, dsl eS l4, dsl eR l5]) (cs := cs.toList) (by rw [hl]; rfl) (fun k d v hd hv => by
  match k with
  | 0 => rw [c0] at hv; cases hd; cases hv; exact .int _ _
  | 1 => rw [c1] at hv; cases hd; cases hv; exact r1
  | 2 => rw [c2] at hv; cases hd; cases hv; exact r2
  | 3 => rw [c3] at hv; cases hd; cases hv; exact r3
  | 4 => rw [c4] at hv; cases hd; cases hv; exact r4
  | 5 => rw [c5] at hv; cases hd; cases hv; exact r5
  | k + 6 => simp at hd)
 simp only [Array.toArray_toList] at this
 exact this
end
theorem isStruct_of {P : Program} {T : TypeId} {i : Nat} {t : TypeId} {off c : Nat} (h : fieldAt P T i = some (t, off, c)) : ∃ fs, P.underlying T = some (.struct fs) := by
 unfold fieldAt at h
 split at h
 ·rename_i fs hu; exact ⟨fs, hu⟩
 ·cases h
theorem keptBut_of_old {w w' : World} {may : MemPlace → Prop} (h1 : w'.os = w.os) (h2 : w'.output = w.output) (h3 : ∀ b, b < w.heap.size → w'.heap[b]? = w.heap[b]?) : w.keptBut w' may := by
 refine ⟨h1, h2, fun i hi => ?_⟩
 rw [h3 i hi]
 split
 ·rename_i c t fr c' t' fr' e1 e2
  rw [e1] at e2; cases e2
  exact ⟨rfl, rfl, rfl, fun _ _ => rfl⟩
 ·rename_i es k es' k' e1 e2
  rw [e1] at e2; cases e2
  exact .inr ⟨rfl, rfl⟩
 ·rfl
theorem ownsNothing : ownKnob Try.prog.godebug = none := by kernel_rfl
theorem try_laid : laidOutB Try.prog = true := by kernel_rfl
theorem repL_nil (M : Mem) : RepL M [] [] := ⟨rfl, fun k v c h => by simp at h⟩
theorem repL_cons {M : Mem} {v : V} {c : Value} {vs : List V} {cs : List Value} (h : RepV M v c) (hs : RepL M vs cs) : RepL M (v :: vs) (c :: cs) := by
 refine ⟨by simp [hs.1], fun k a b ha hb => ?_⟩
 cases k with
 | zero => cases ha; cases hb; exact h
 | succ k => exact hs.2 k a b (by simpa using ha) (by simpa using hb)
theorem try_kids : Kids Try.prog (· < Try.prog.types.size) := kids_rows try_laid (by kernel_rfl)
theorem try_full : ∀ t e, t < Try.prog.types.size → Try.prog.underlying t = some (.slice e) → 0 < Try.prog.cellsOf e := slices_full_of Try.prog (by kernel_rfl)
theorem fa28 : fieldAt Try.prog 28 0 = some (3, 0, 1) := by kernel_rfl
theorem it3 : isIntT Try.prog 3 = kn .i64 + 1 := by kernel_rfl
section
variable {H : Type} {enc : TypeId × Value → H} {W : World} {base : Nat}
set_option maxRecDepth 100000 in
theorem arg_company {v : Value} {d : DataW H} {p : List MemPlace} (hok : Value.okWide Try.prog W .any base 28 v) (ht : DataW.Trod enc Try.prog W 0 (fun _ => true) true 28 v d p) : ∃ c : Cmp, RepV (memOf Try.prog W) (Cv c) v ∧ in64 c.houses ∧
  c.held.length ≤ maxLen ∧ c.trades.length ≤ maxLen ∧ c.divs.length ≤ maxLen ∧ c.splits.length ≤ maxLen ∧ c.closed.length ≤ maxLen := by
 obtain ⟨fs, hfs⟩ := isStruct_of fa28
 obtain ⟨cs, rfl, _⟩ := okWide_struct hfs hok
 obtain ⟨fuel, hx⟩ := ht
 exact company_sound (cs := cs) hx
set_option maxRecDepth 100000 in
theorem arg_int {v : Value} {d : DataW H} {p : List MemPlace} (hok : Value.okWide Try.prog W .any base 3 v) (ht : DataW.Trod enc Try.prog W 0 (fun _ => true) true 3 v d p) : ∃ n : Int, RepV (memOf Try.prog W) (vi n) v ∧ in64 n := by
 obtain ⟨n, rfl⟩ := okWide_int (isIntT_eq it3) hok
 obtain ⟨fuel, hx⟩ := ht
 obtain ⟨m, h1, h2⟩ := int_sound it3 hx
 cases h1
 exact ⟨n, .d _ _ (.int _ _), bounds_i64 h2⟩
end
end Go.Proofs.Ytdnefcjbcieecaa
