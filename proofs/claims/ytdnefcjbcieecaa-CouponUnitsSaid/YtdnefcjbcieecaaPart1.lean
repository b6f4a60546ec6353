/- A part of the proof. -/
import Derived.Test.YtdnefcjbcieecaaPart0
import Derived.Orders
import Derived.RangeFuncRecord
set_option linter.unusedVariables false
set_option linter.unusedSimpArgs false
namespace Go.Proofs.Ytdnefcjbcieecaa
open Go
structure DP where
  P : Prop
  d : Decidable P
@[reducible] def dp (p : Prop) [d : Decidable p] : DP := ⟨p, d⟩
def dAnd (a b : DP) : DP := ⟨a.P ∧ b.P, @instDecidableAnd a.P b.P a.d b.d⟩
def evBin (op : BinOp) (x y : V) : Option (DP × V) :=
  match x, y with
  | .d (.int k a), .d (.int k' b) =>
    let ar (r : Int) : DP × V := match k with
      | .i64 => (dp (k = k' ∧ -9223372036854775808 ≤ r ∧ r ≤ 9223372036854775807), .d (.int .i64 r))
      | k => (dp (k = k'), .d (.int k (k.wrap r)))
    match op with
    | .add => some (ar (a + b))
    | .sub => some (ar (a - b))
    | .mul => some (ar (a * b))
    | .quo => some (dAnd (dp (b ≠ 0)) (ar (a.tdiv b)).1, (ar (a.tdiv b)).2)
    | .rem => some (dp (k = k' ∧ b ≠ 0), .d (.int k (a.tmod b)))
    | .shr => some (dp (0 ≤ b), .d (.int k (a.fdiv (2 ^ (min b.toNat k.bits)))))
    | .shl => match k with
      | .i64 => some (dp (0 ≤ b ∧ -9223372036854775808 ≤ a * 2 ^ (min b.toNat 64) ∧ a * 2 ^ (min b.toNat 64) ≤ 9223372036854775807), .d (.int .i64 (a * 2 ^ (min b.toNat 64))))
      | _ => none
    | .and => some (dp (k = k'), .d (.int k (bitsV .and k a b)))
    | .or => some (dp (k = k'), .d (.int k (bitsV .or k a b)))
    | .xor => some (dp (k = k'), .d (.int k (bitsV .xor k a b)))
    | .eql => some (dp (k = k'), .d (.bool (a == b)))
    | .neq => some (dp (k = k'), .d (.bool (a != b)))
    | .lss => some (dp (k = k'), .d (.bool (decide (a < b))))
    | .leq => some (dp (k = k'), .d (.bool (decide (a ≤ b))))
    | .gtr => some (dp (k = k'), .d (.bool (decide (b < a))))
    | .geq => some (dp (k = k'), .d (.bool (decide (b ≤ a))))
    | _ => none
  | _, _ => none
def evUn (op : UnOp) (x : V) : Option (DP × V) :=
  match op, x with
  | .not, .d (.bool b) => some (dp True, .d (.bool (!b)))
  | .neg, .d (.int .i64 a) => some (dp (-9223372036854775808 ≤ 0 - a ∧ 0 - a ≤ 9223372036854775807), .d (.int .i64 (0 - a)))
  | _, _ => none
def evLoad (g : Option Nat) (x : V) (h : Heap) : Option (DP × V) :=
  match g, x with
  | none, .ptr id g off => (h.cell id g off).map fun v => (dp True, v)
  | none, .rptr ds off => (ds[off]?).map fun v => (dp True, .d v)
  | some n, .ptr id g off => (h.cells id g off n).map fun vs => (dp True, .agg vs)
  | some n, .rptr ds off => some (dp (off + n ≤ ds.length), .agg (((ds.drop off).take n).map .d))
  | _, _ => none
def evField (g : Option Nat) (off : Nat) (x : V) : Option (DP × V) :=
  match g, x with
  | none, .agg cs => (cs[off]?).map fun v => (dp True, v)
  | some n, .agg cs => some (dp (off + n ≤ cs.length), .agg ((cs.drop off).take n))
  | _, _ => none
def evIdx (sz : Nat) (x i : V) (h : Heap) : Option (DP × V) :=
  match i, x with
  | .d (.int _ i), .d (.sl _ len cs) => (elemAt cs sz i.toNat).map fun e => (dp (0 ≤ i ∧ i < len), .rptr e 0)
  | .d (.int _ i), .own id g len => some (dp ((0 ≤ i ∧ i < len) ∧ (h.cells id g (i.toNat * sz) sz).isSome = true), .ptr id g (i.toNat * sz))
  | _, _ => none
def evIdxA (len sz : Nat) (x i : V) : Option (DP × V) :=
  match i, x with
  | .d (.int _ i), .ptr id g o => some (dp (0 ≤ i ∧ i < len), .ptr id g (o + i.toNat * sz))
  | .d (.int _ i), .rptr ds o => some (dp (0 ≤ i ∧ i < len), .rptr ds (o + i.toNat * sz))
  | _, _ => none
def evFA (off : Nat) (x : V) : Option (DP × V) :=
  match x with
  | .ptr id g o => some (dp True, .ptr id g (o + off))
  | .rptr ds o => some (dp True, .rptr ds (o + off))
  | _ => none
def evExt (x : V) (k : Nat) : Option (DP × V) :=
  match x with
  | .tup vs => (vs[k]?).map fun v => (dp True, v)
  | _ => none
def evConv (k : IntKind) (x : V) : Option (DP × V) :=
  match x with
  | .d (.int _ n) => some (dp True, .d (.int k (k.wrap n)))
  | _ => none
def evLen (x : V) : Option (DP × V) :=
  match x with
  | .d (.sl _ len _) => some (dp True, .d (.int .i64 len))
  | .own _ _ len => some (dp True, .d (.int .i64 len))
  | .d .nils => some (dp True, .d (.int .i64 0))
  | _ => none
def evLenStr (x : V) : Option (DP × V) :=
  match x with
  | .d (.str l) => some (dp True, .d (.int .i64 l.length))
  | _ => none
def minL : List Int → Option Int
  | [] => none
  | x :: xs => some (xs.foldl (fun a b => if b < a then b else a) x)
def maxL : List Int → Option Int
  | [] => none
  | x :: xs => some (xs.foldl (fun a b => if b > a then b else a) x)
def evApp (own : Bool) (e sz bytes : Nat) (x y : V) (h : Heap) : Option (DP × V × Heap) :=
  match conts h y with
  | none => none
  | some q => match own, x with
    | false, .d (.sl ex n cs) => some (dp (q.2.length = q.1 * sz ∧ ex = true ∧ cs.length = n * sz ∧ n + q.1 ≤ 140737488355328 ∧ (n + q.1) * bytes ≤ 140737488355328), .d (.sl false (n + q.1) (cs ++ q.2)), h)
    | false, .d .nils => some (dp (q.2.length = q.1 * sz ∧ q.1 ≤ 140737488355328 ∧ q.1 * bytes ≤ 140737488355328), .d (.sl false q.1 q.2), h)
    | true, .d .nils => some (dp (q.2.length = q.1 * sz ∧ q.1 ≤ 140737488355328 ∧ q.1 * bytes ≤ 140737488355328), .own h.length 0 q.1, h ++ [some (.row e sz 0 q.2)])
    | true, .d (.sl ex n cs) => if q.1 = 0 then some (dp (q.2.length = q.1 * sz), .d (.sl ex n cs), h)
        else some (dp (q.2.length = q.1 * sz ∧ ex = true ∧ cs.length = n * sz ∧ n + q.1 ≤ 140737488355328 ∧ (n + q.1) * bytes ≤ 140737488355328), .own h.length 0 (n + q.1), h ++ [some (.row e sz 0 (cs ++ q.2))])
    | _, _ => none
def evSlice (sz : Nat) (x l t : V) (mx : Option V) (hasHi : Bool) : Option (DP × V) :=
  match x, l, t, mx with
  | .d (.sl _ len cs), .d (.int _ l), .d (.int _ t), none =>
    some (dp (cs.length = len * sz ∧ 0 ≤ l ∧ l ≤ t ∧ t ≤ len), .d (.sl false (t.toNat - l.toNat) ((cs.drop (l.toNat * sz)).take ((t.toNat - l.toNat) * sz))))
  | .d (.sl _ len cs), .d (.int _ l), .d (.int _ t), some (.d (.int _ m)) =>
    some (dp (cs.length = len * sz ∧ 0 ≤ l ∧ l ≤ t ∧ t = m ∧ m ≤ len ∧ hasHi = true), .d (.sl true (t.toNat - l.toNat) ((cs.drop (l.toNat * sz)).take ((t.toNat - l.toNat) * sz))))
  | .own _ _ len, l, t, mx => (ev0 len (.d (.sl true 0 [])) l t mx hasHi).map fun v => (dp True, v)
  | .d .nils, l, t, mx => (ev0 0 (.d .nils) l t mx hasHi).map fun v => (dp True, v)
  | _, _, _, _ => none
def lenOfSl : V → Nat
  | .d (.sl _ len _) => len
  | _ => 0
def inH (h : Heap) : Option (DP × V) → Option (DP × V × Heap)
  | none => none
  | some (p, v) => some (p, v, h)
def evOp (c : COp) (ρ : Operand → V) (h : Heap) : Option (DP × V × Heap) :=
  match c with
  | .move x => some (dp True, ρ x, h)
  | .alloc z => some (dp True, .ptr h.length 0 0, h ++ [some (.box z)])
  | .box true x => (cellsV (ρ x)).map fun cs => (dp True, .ptr h.length 0 0, h ++ [some (.box cs)])
  | .box false x => match (cellsV (ρ x)).bind toDs with
    | some ds => some (dp True, .rptr ds 0, h)
    | none => (cellsV (ρ x)).map fun cs => (dp True, .ptr h.length 0 0, h ++ [some (.box cs)])
  | .build z ps => (partsV ρ ps).map fun qs => (dp (fitL z.length qs = true), .agg (fillL z qs), h)
  | .bslice true e sz len z ps => (partsD ρ sz ps).map fun qs => (dp (fitL z.length qs = true), .own h.length 0 len, h ++ [some (.row e sz 0 (fillL z qs))])
  | .bslice false _ sz len z ps => (partsD ρ sz ps).map fun qs => (dp (fitL z.length qs = true), .d (.sl true len (fillL z qs)), h)
  | .load g x => inH h (evLoad g (ρ x) h)
  | .store n x v => match ρ x, cellsV (ρ v) with
    | .ptr id g off, some vs => (h.put id g off vs).map fun h' => (dp (vs.length = n), .any, h')
    | _, _ => none
  | .bin op x y => inH h (evBin op (ρ x) (ρ y))
  | .un op x => inH h (evUn op (ρ x))
  | .conv k x => inH h (evConv k (ρ x))
  | .fieldAddr off x => inH h (evFA off (ρ x))
  | .field g off x => inH h (evField g off (ρ x))
  | .indexS sz x i => inH h (evIdx sz (ρ x) (ρ i) h)
  | .indexA len sz x i => inH h (evIdxA len sz (ρ x) (ρ i))
  | .extract x k => inH h (evExt (ρ x) k)
  | .nilCheck x => inH h (evFA 0 (ρ x))
  | .mkfn f a c => some (dp True, .fn f (a.map ρ) (c.map ρ), h)
  | .len x => inH h (evLen (ρ x))
  | .lenArr m => some (dp True, .d (.int .i64 m), h)
  | .lenStr x => inH h (evLenStr (ρ x))
  | .append own e sz bytes x y => evApp own e sz bytes (ρ x) (ρ y) h
  | .min xs => ((intsV (xs.map ρ)).bind minL).map fun n => (dp True, .d (.int .i64 n), h)
  | .max xs => ((intsV (xs.map ρ)).bind maxL).map fun n => (dp True, .d (.int .i64 n), h)
  | .isNil k neg x => (evIsNil k (ρ x) h).map fun b => (dp True, .d (.bool (if neg then !b else b)), h)
  | .binB neg x y => (evBinB neg (ρ x) (ρ y)).map fun v => (dp True, v, h)
  | .binS op x y => (evBinS op (ρ x) (ρ y)).map fun v => (dp True, v, h)
  | .eqA neg sh x y => (evEqA neg sh (ρ x) (ρ y)).map fun v => (dp True, v, h)
  | .mkmap => some (dp True, .mp h.length, h ++ [some (.map [])])
  | .lookup agg sh z ok x k => (evLk agg sh z ok (ρ x) (ρ k) h).map fun v => (dp True, v, h)
  | .mupd agg sh x k v => (evUp agg sh (ρ x) (ρ k) (ρ v) h).map fun h' => (dp True, .any, h')
  | .mkslice e sz b z l c => (evMk e sz b z (ρ l) (ρ c) h).map fun q => (dp True, q.1, q.2)
  | .sliceA len sz x lo hi => (evSlA len sz (ρ x) ((lo.map ρ).getD (.d (.int .i64 0))) ((hi.map ρ).getD (.d (.int .i64 len)))).map fun v => (dp True, v, h)
  | .sliceS sz x lo hi mx => inH h (evSlice sz (ρ x) ((lo.map ρ).getD (.d (.int .i64 0))) ((hi.map ρ).getD (.d (.int .i64 (lenOfSl (ρ x))))) (mx.map ρ) hi.isSome)
  | _ => none
theorem inH_some {h h' : Heap} {o : Option (DP × V)} {p : DP} {v : V} (hh : inH h o = some (p, v, h')) : o = some (p, v) ∧ h' = h := by
  cases o with
  | none => cases hh
  | some q => cases hh; exact ⟨rfl, rfl⟩
theorem evOp_sound {c : COp} {ρ : Operand → V} {h h' : Heap} {p : DP} {v : V} {K : V → Heap → Prop} (he : evOp c ρ h = some (p, v, h')) (hp : p.P) (hk : K v h') : step c ρ h K := by
  cases c with
  | move x => cases he; exact hk
  | pick c a b => cases he
  | alloc z => cases he; exact hk
  | box own x =>
    cases own with
    | true => obtain ⟨cs, hc, he⟩ := map_some' he; cases he; exact ⟨cs, hc, hk⟩
    | false =>
      simp only [evOp] at he
      simp only [step]
      split at he
      · rename_i ds hd; cases he; rw [hd]; exact hk
      · rename_i hd; obtain ⟨cs, hc, he⟩ := map_some' he; cases he; rw [hd]; exact ⟨cs, hc, hk⟩
  | build z ps => obtain ⟨qs, hc, he⟩ := map_some' he; cases he; exact ⟨qs, hc, hp, hk⟩
  | bslice own e sz len z ps =>
    cases own with
    | true => obtain ⟨qs, hc, he⟩ := map_some' he; cases he; exact ⟨qs, hc, hp, hk⟩
    | false => obtain ⟨qs, hc, he⟩ := map_some' he; cases he; exact ⟨qs, hc, hp, hk⟩
  | load g x =>
    obtain ⟨he2, hh⟩ := inH_some he
    clear he
    subst hh
    have he := he2
    clear he2
    unfold evLoad at he
    split at he
    · rename_i id ge off e; obtain ⟨u, hu, he⟩ := map_some' he; cases he; simp only [step, onPtr, e]; exact ⟨_, hu, hk⟩
    · rename_i ds off e; obtain ⟨u, hu, he⟩ := map_some' he; cases he; simp only [step, onPtr, e]; exact ⟨_, hu, hk⟩
    · rename_i n id ge off e; obtain ⟨u, hu, he⟩ := map_some' he; cases he; simp only [step, onPtr, e]; exact ⟨_, hu, hk⟩
    · rename_i n ds off e; cases he; simp only [step, onPtr, e]; exact ⟨hp, hk⟩
    · cases he
  | store n x v' =>
    simp only [evOp] at he
    split at he
    · rename_i id ge off vs e1 e2
      obtain ⟨u, hu, he⟩ := map_some' he
      cases he
      simp only [step, onPtr, e1]
      exact ⟨vs, e2, hp, _, hu, hk⟩
    · cases he
  | bin op x y =>
    obtain ⟨he2, hh⟩ := inH_some he
    clear he
    subst hh
    have he := he2
    clear he2
    unfold evBin at he
    split at he
    · rename_i k a k' b e1 e2
      simp only [step, onInts, e1, e2]
      have ar : ∀ r, (match k with
          | .i64 => (dp (k = k' ∧ -9223372036854775808 ≤ r ∧ r ≤ 9223372036854775807), V.d (.int .i64 r))
          | k => (dp (k = k'), V.d (.int k (k.wrap r)))) = (p, v) → k = k' ∧ arV k r fun v => K v h' := by
        intro r hr
        cases k <;> cases hr <;> first | exact ⟨hp.1, ⟨hp.2.1, hp.2.2⟩, hk⟩ | exact ⟨hp, hk⟩
      have ar2 : ∀ r, ∀ q : DP × V, (match k with
          | .i64 => (dp (k = k' ∧ -9223372036854775808 ≤ r ∧ r ≤ 9223372036854775807), V.d (.int .i64 r))
          | k => (dp (k = k'), V.d (.int k (k.wrap r)))) = q → q.1.P → q.2 = v → k = k' ∧ arV k r fun v => K v h' := by
        intro r q hr h1 h2
        subst hr h2
        cases k <;> first | exact ⟨h1.1, ⟨h1.2.1, h1.2.2⟩, hk⟩ | exact ⟨h1, hk⟩
      cases op <;> simp only [Option.some.injEq] at he <;> first
        | exact ar _ he
        | (cases he; exact ⟨hp, hk⟩)
        | (cases he; exact ⟨hp.1, hp.2, hk⟩)
        | (simp only [Prod.mk.injEq] at he; obtain ⟨h1, h2⟩ := he; subst h1; obtain ⟨h3, h4⟩ := hp; have := ar2 _ _ rfl h4 h2; exact ⟨this.1, h3, this.2⟩)
        | (split at he <;> first | (cases he; exact ⟨hp.1, ⟨hp.2.1, hp.2.2⟩, hk⟩) | cases he)
        | cases he
    · cases he
  | un op x =>
    obtain ⟨he2, hh⟩ := inH_some he
    clear he
    subst hh
    have he := he2
    clear he2
    unfold evUn at he
    split at he
    · rename_i b e; cases he; simp only [step, unV, onBools, e]; exact hk
    · rename_i a e; cases he; simp only [step, unV, onInt, e]; exact ⟨hp, hk⟩
    · cases he
  | conv k x =>
    obtain ⟨he2, hh⟩ := inH_some he
    clear he
    subst hh
    have he := he2
    clear he2
    unfold evConv at he
    split at he
    · rename_i e; cases he; simp only [step, onInt, e]; exact hk
    · cases he
  | fieldAddr off x =>
    obtain ⟨he2, hh⟩ := inH_some he
    clear he
    subst hh
    have he := he2
    clear he2
    unfold evFA at he
    split at he
    · rename_i e; cases he; simp only [step, onPtr, e]; exact hk
    · rename_i e; cases he; simp only [step, onPtr, e]; exact hk
    · cases he
  | field g off x =>
    obtain ⟨he2, hh⟩ := inH_some he
    clear he
    subst hh
    have he := he2
    clear he2
    unfold evField at he
    split at he
    · rename_i e; obtain ⟨u, hu, he⟩ := map_some' he; cases he; simp only [step, onAgg, e]; exact ⟨_, hu, hk⟩
    · rename_i e; cases he; simp only [step, onAgg, e]; exact ⟨hp, hk⟩
    · cases he
  | indexS sz x i =>
    obtain ⟨he2, hh⟩ := inH_some he
    clear he
    subst hh
    have he := he2
    clear he2
    unfold evIdx at he
    split at he
    · rename_i e1 e2; obtain ⟨u, hu, he⟩ := map_some' he; cases he; simp only [step, natI, onInt, onSl, e1, e2]; exact ⟨hp, _, hu, hk⟩
    · rename_i e1 e2; cases he; simp only [step, natI, onInt, onSl, e1, e2]; exact ⟨hp.1, Option.isSome_iff_exists.1 hp.2, hk⟩
    · cases he
  | indexA len sz x i =>
    obtain ⟨he2, hh⟩ := inH_some he
    clear he
    subst hh
    have he := he2
    clear he2
    unfold evIdxA at he
    split at he
    · rename_i e1 e2; cases he; simp only [step, natI, onInt, onPtr, e1, e2]; exact ⟨hp, hk⟩
    · rename_i e1 e2; cases he; simp only [step, natI, onInt, onPtr, e1, e2]; exact ⟨hp, hk⟩
    · cases he
  | extract x k =>
    obtain ⟨he2, hh⟩ := inH_some he
    clear he
    subst hh
    have he := he2
    clear he2
    unfold evExt at he
    split at he
    · rename_i e; obtain ⟨u, hu, he⟩ := map_some' he; cases he; simp only [step, onTup, e]; exact ⟨_, hu, hk⟩
    · cases he
  | nilCheck x =>
    obtain ⟨he2, hh⟩ := inH_some he
    clear he
    subst hh
    have he := he2
    clear he2
    unfold evFA at he
    split at he
    · rename_i e; cases he; simp only [step, onPtr, e]; exact hk
    · rename_i e; cases he; simp only [step, onPtr, e]; exact hk
    · cases he
  | mkfn f a c => cases he; exact hk
  | len x =>
    obtain ⟨he2, hh⟩ := inH_some he
    clear he
    subst hh
    have he := he2
    clear he2
    unfold evLen at he
    split at he
    · rename_i e; cases he; simp only [step, onSl, e]; exact hk
    · rename_i e; cases he; simp only [step, onSl, e]; exact hk
    · rename_i e; cases he; simp only [step, onSl, e]; exact hk
    · cases he
  | lenArr m => cases he; exact hk
  | lenStr x =>
    obtain ⟨he2, hh⟩ := inH_some he
    clear he
    subst hh
    have he := he2
    clear he2
    unfold evLenStr at he
    split at he
    · rename_i e; cases he; simp only [step, onStr, e]; exact hk
    · cases he
  | append own e sz bytes x y =>
    simp only [evOp, evApp] at he
    split at he
    · cases he
    · rename_i q hq
      split at he
      · rename_i ex n cs e1; cases he; simp only [step, appendV, onSl, e1]; exact ⟨q, hq, hp.1, hp.2, hk⟩
      · rename_i e1; cases he; simp only [step, appendV, onSl, e1]; exact ⟨q, hq, hp.1, hp.2, hk⟩
      · rename_i e1; cases he; simp only [step, appendV, onSl, e1]; exact ⟨q, hq, hp.1, hp.2, hk⟩
      · rename_i ex n cs e1
        split at he
        · rename_i h0; cases he; simp only [step, appendV, onSl, e1, h0, if_true]; exact ⟨q, hq, by simpa [h0] using hp, by rw [if_pos h0]; exact hk⟩
        · rename_i h0; cases he; simp only [step, appendV, onSl, e1]; exact ⟨q, hq, hp.1, by rw [if_neg h0]; exact ⟨hp.2, hk⟩⟩
      · cases he
  | min xs =>
    obtain ⟨m, hm, he⟩ := map_some' he
    cases he
    obtain ⟨l, hl, hm⟩ := bind_some' hm
    cases l with
    | nil => cases hm
    | cons a l => cases hm; exact ⟨_, hl, hk⟩
  | max xs =>
    obtain ⟨m, hm, he⟩ := map_some' he
    cases he
    obtain ⟨l, hl, hm⟩ := bind_some' hm
    cases l with
    | nil => cases hm
    | cons a l => cases hm; exact ⟨_, hl, hk⟩
  | sliceS sz x lo hi mx =>
    obtain ⟨he2, hh⟩ := inH_some he
    clear he
    subst hh
    have he := he2
    clear he2
    unfold evSlice at he
    split at he
    · rename_i ex len cs kl l kt t e1 e2 e3 e4
      cases he
      rw [e1] at e3
      simp only [lenOfSl] at e3
      simp only [step, onSl, e1, sliceV, natI, e2, e3, e4, onInt]
      exact ⟨hp.1, hp.2, hk⟩
    · rename_i ex len cs kl l kt t km m e1 e2 e3 e4
      cases he
      rw [e1] at e3
      simp only [lenOfSl] at e3
      simp only [step, onSl, e1, sliceV, natI, e2, e3, e4, onInt]
      exact ⟨hp.1, hp.2, hk⟩
    · rename_i id g len e1
      obtain ⟨v', hv, he⟩ := map_some' he
      cases he
      simp only [step, onSl, e1]
      rw [e1] at hv
      exact ⟨_, hv, hk⟩
    · rename_i e1
      obtain ⟨v', hv, he⟩ := map_some' he
      cases he
      simp only [step, onSl, e1]
      rw [e1] at hv
      exact ⟨_, hv, hk⟩
    · cases he
  | isNil k neg x => obtain ⟨v, hv, he⟩ := map_some' he; cases he; exact ⟨_, hv, hk⟩
  | binB neg x y => obtain ⟨v, hv, he⟩ := map_some' he; cases he; exact ⟨_, hv, hk⟩
  | binS op x y => obtain ⟨v, hv, he⟩ := map_some' he; cases he; exact ⟨_, hv, hk⟩
  | eqA neg sh x y => obtain ⟨v, hv, he⟩ := map_some' he; cases he; exact ⟨_, hv, hk⟩
  | mkmap => cases he; exact hk
  | lookup agg sh z ok x k => obtain ⟨v, hv, he⟩ := map_some' he; cases he; exact ⟨_, hv, hk⟩
  | mupd agg sh x k v => obtain ⟨v, hv, he⟩ := map_some' he; cases he; exact ⟨_, hv, hk⟩
  | mkslice e sz b z l c => obtain ⟨v, hv, he⟩ := map_some' he; cases he; exact ⟨_, hv, hk⟩
  | sliceA len sz x lo hi => obtain ⟨v, hv, he⟩ := map_some' he; cases he; exact ⟨_, hv, hk⟩
  | _ => cases he
def runOps2 (P : Program) (n : Nat) : List ROp → Env → Heap → (Env → Heap → Prop) → Prop
  | [], env, h, K => K env h
  | r :: rs, env, h, K => guardV env r.guard
      (match r.op with
        | .simple (.pick c a b) => brV (opnd env c) (runOps2 P n rs (env.put r.dst (opnd env a)) h K) (runOps2 P n rs (env.put r.dst (opnd env b)) h K)
        | .simple c => match evOp c (opnd env) h with
          | some (p, v, h') => p.P ∧ runOps2 P n rs (env.put r.dst v) h' K
          | none => False
        | .call f args => callV P (opnd env f) (args.map (opnd env)) h fun v h' => runOps2 P n rs (env.put r.dst v) h' K
        | .callx f args => callV P (opnd env f) (args.map (opnd env)) h fun v h' => HLe h h' ∧ runOps2 P n rs (env.put r.dst v) h' K
        | .app e sz bytes x y => match opnd env x with
          | .own id g len => match rowOf h id g, conts h (opnd env y) with
            | some q, some p => (q.1 = e ∧ q.2.1 = sz ∧ q.2.2.length = len * sz ∧ p.2.length = p.1 * sz ∧ len + p.1 ≤ 140737488355328 ∧ (len + p.1) * bytes ≤ 140737488355328) ∧
                runOps2 P n rs (env.put r.dst (.own id (g + 1) (len + p.1))) (h.set id (some (.row e sz (g + 1) (q.2.2 ++ p.2)))) K
            | _, _ => False
          | .d x => match evApp true e sz bytes (.d x) (opnd env y) h with
            | some (p, v, h') => p.P ∧ runOps2 P n rs (env.put r.dst v) h' K
            | none => False
          | _ => False)
      (runOps2 P n rs (env.put r.dst (.tup [])) h K)
section
variable (P : Program) (n : Nat)
theorem brV_imp {v : V} {a b a' b' : Prop} (h : brV v a b) (h1 : a → a') (h2 : b → b') : brV v a' b' := by
  unfold brV at *
  split at h
  · exact ⟨fun e => h1 (h.1 e), fun e => h2 (h.2 e)⟩
  · exact h
theorem guardV_imp {env : Env} {g : Option (Nat × Bool)} {a b a' b' : Prop} (h : guardV env g a b) (h1 : a → a') (h2 : b → b') : guardV env g a' b' := by
  unfold guardV at *
  cases g with
  | none => exact h1 h
  | some p =>
    obtain ⟨t, w⟩ := p
    simp only [guardB] at *
    split at h
    · exact h2 h
    · cases w with
      | true => exact brV_imp h h1 h2
      | false => exact brV_imp h h2 h1
theorem callV_mono {P : Program} {f : V} {args : List V} {h : Heap} {K K' : V → Heap → Prop} (hy : callV P f args h K) (hk : ∀ v h', K v h' → K' v h') : callV P f args h K' := by
  unfold callV at *
  split at hy
  · exact ACalls.mono hy hk
  · exact ACalls.mono hy hk
  · exact AYield.mono hy hk
  · exact hy
theorem runOps2_sound : ∀ (rs : List ROp) (env : Env) (h : Heap) (K : Env → Heap → Prop), runOps2 P n rs env h K → runOps P n rs env h K
  | [], _, _, _, h => h
  | r :: rs, env, h, K, hr => by
    refine guardV_imp hr (fun hy => ?_) (runOps2_sound rs _ _ _)
    have simple : ∀ c, r.op = .simple c → (match evOp c (opnd env) h with
          | some (p, v, h') => p.P ∧ runOps2 P n rs (env.put r.dst v) h' K
          | none => False) → runOp P n r env h fun env' h' => runOps P n rs env' h' K := by
      intro c hc hy
      unfold runOp
      rw [hc]
      split at hy
      · rename_i p v h' e
        exact evOp_sound e hy.1 (runOps2_sound rs _ _ _ hy.2)
      · exact hy.elim
    cases hop : r.op with
    | simple c =>
      rw [hop] at hy
      cases c with
      | pick c a b =>
        unfold runOp
        rw [hop]
        exact brV_imp hy (runOps2_sound rs _ _ _) (runOps2_sound rs _ _ _)
      | _ => exact simple _ hop hy
    | call f args =>
      rw [hop] at hy
      unfold runOp
      rw [hop]
      exact callV_mono hy (fun v h' hK => runOps2_sound rs _ _ _ hK)
    | callx f args =>
      rw [hop] at hy
      unfold runOp
      rw [hop]
      exact callV_mono hy (fun v h' hK => ⟨hK.1, runOps2_sound rs _ _ _ hK.2⟩)
    | app e sz bytes x y =>
      rw [hop] at hy
      unfold runOp
      rw [hop]
      simp only at hy ⊢
      split at hy
      · rename_i id g len ex
        rw [ex]
        simp only [onSl]
        split at hy
        · rename_i q p hq hp
          exact ⟨q, hq, ⟨hy.1.1, hy.1.2.1, hy.1.2.2.1⟩, p, hp, ⟨hy.1.2.2.2.1, hy.1.2.2.2.2.1, hy.1.2.2.2.2.2⟩, runOps2_sound rs _ _ _ hy.2⟩
        · exact hy.elim
      · rename_i dx ex
        split at hy
        · rename_i p v h' e'
          have he : evOp (.append true e sz bytes x y) (opnd env) h = some (p, v, h') := by simp only [evOp, ex]; exact e'
          have hst := evOp_sound (K := fun v h' => runOps P n rs (env.put r.dst v) h' K) he hy.1 (runOps2_sound rs _ _ _ hy.2)
          have hx : (∃ a b c, dx = .sl a b c) ∨ dx = .nils := by
            unfold evApp at e'
            split at e'
            · cases e'
            · split at e' <;> first | (rename_i h1 h2; cases h2; exact .inl ⟨_, _, _, rfl⟩) | (rename_i h1 h2; cases h2; exact .inr rfl) | cases e'
          rw [ex]
          simp only [onSl]
          rcases hx with ⟨a, b, c, rfl⟩ | rfl
          · exact hst
          · exact hst
        · exact hy.elim
      · exact hy.elim
end
end Go.Proofs.Ytdnefcjbcieecaa
namespace Go.Proofs.Ytdnefcjbcieecaa
open Go
theorem partsV_congr {ρ ρ' : Operand → V} : ∀ (ps : List (Nat × Nat × Operand)), (∀ x ∈ ps.map (·.2.2), ρ x = ρ' x) → partsV ρ ps = partsV ρ' ps
  | [], _ => rfl
  | (a, b, x) :: ps, h => by
    have h1 : ρ x = ρ' x := h x (by simp)
    have h2 := partsV_congr ps (fun y hy => h y (by simp at hy ⊢; exact .inr hy))
    simp only [partsV, h1, h2]
theorem partsD_congr {ρ ρ' : Operand → V} (sz : Nat) : ∀ (ps : List (Nat × Operand)), (∀ x ∈ ps.map (·.2), ρ x = ρ' x) → partsD ρ sz ps = partsD ρ' sz ps
  | [], _ => rfl
  | (a, x) :: ps, h => by
    have h1 : ρ x = ρ' x := h x (by simp)
    have h2 := partsD_congr sz ps (fun y hy => h y (by simp at hy ⊢; exact .inr hy))
    simp only [partsD, h1, h2]
theorem evOp_congr {c : COp} {ρ ρ' : Operand → V} (h : Heap) (hx : ∀ x ∈ opsC c, ρ x = ρ' x) : evOp c ρ h = evOp c ρ' h := by
  cases c with
  | build z ps => simp only [evOp, partsV_congr ps hx]
  | bslice own e sz len z ps => cases own <;> simp only [evOp, partsD_congr sz ps hx]
  | box own x => cases own <;> simp only [evOp, hx x (by simp [opsC])]
  | mkfn f a c =>
    have h1 : a.map ρ = a.map ρ' := List.map_congr_left fun x hm => hx x (by simp [opsC, hm])
    have h2 : c.map ρ = c.map ρ' := List.map_congr_left fun x hm => hx x (by simp [opsC, hm])
    simp only [evOp, h1, h2]
  | min xs =>
    have h1 : xs.map ρ = xs.map ρ' := List.map_congr_left fun x hm => hx x hm
    simp only [evOp, h1]
  | max xs =>
    have h1 : xs.map ρ = xs.map ρ' := List.map_congr_left fun x hm => hx x hm
    simp only [evOp, h1]
  | sliceS sz x lo hi mx =>
    have h0 : ρ x = ρ' x := hx x (by simp [opsC])
    have h1 : lo.map ρ = lo.map ρ' := by cases lo with | none => rfl | some y => simp [hx y (by simp [opsC, listO])]
    have h2 : hi.map ρ = hi.map ρ' := by cases hi with | none => rfl | some y => simp [hx y (by simp [opsC, listO])]
    have h3 : mx.map ρ = mx.map ρ' := by cases mx with | none => rfl | some y => simp [hx y (by simp [opsC, listO])]
    simp only [evOp, h0, h1, h2, h3]
  | store k x v => simp only [evOp, hx x (by simp [opsC]), hx v (by simp [opsC])]
  | bin op x y => simp only [evOp, hx x (by simp [opsC]), hx y (by simp [opsC])]
  | indexS sz x y => simp only [evOp, hx x (by simp [opsC]), hx y (by simp [opsC])]
  | indexA l sz x y => simp only [evOp, hx x (by simp [opsC]), hx y (by simp [opsC])]
  | append o e sz b x y => simp only [evOp, hx x (by simp [opsC]), hx y (by simp [opsC])]
  | pick c a b => rfl
  | alloc z => rfl
  | lenArr m => rfl
  | sliceA l sz x lo hi =>
    have h0 : ρ x = ρ' x := hx x (by simp [opsC])
    have h1 : lo.map ρ = lo.map ρ' := by cases lo with | none => rfl | some y => simp [hx y (by simp [opsC, listO])]
    have h2 : hi.map ρ = hi.map ρ' := by cases hi with | none => rfl | some y => simp [hx y (by simp [opsC, listO])]
    simp only [evOp, h0, h1, h2]
  | bad => rfl
  | mkmap => rfl
  | isNil k neg x => simp only [evOp, hx x (by simp [opsC])]
  | binB neg x y => simp only [evOp, hx x (by simp [opsC]), hx y (by simp [opsC])]
  | binS op x y => simp only [evOp, hx x (by simp [opsC]), hx y (by simp [opsC])]
  | eqA neg sh x y => simp only [evOp, hx x (by simp [opsC]), hx y (by simp [opsC])]
  | lookup a s z ok x k => simp only [evOp, hx x (by simp [opsC]), hx k (by simp [opsC])]
  | mupd a s x k v => simp only [evOp, hx x (by simp [opsC]), hx k (by simp [opsC]), hx v (by simp [opsC])]
  | mkslice e sz b z l c => simp only [evOp, hx l (by simp [opsC]), hx c (by simp [opsC])]
  | panic x => rfl
  | move x => simp only [evOp, hx x (by simp [opsC])]
  | load g x => simp only [evOp, hx x (by simp [opsC])]
  | un op x => simp only [evOp, hx x (by simp [opsC])]
  | conv k x => simp only [evOp, hx x (by simp [opsC])]
  | fieldAddr o x => simp only [evOp, hx x (by simp [opsC])]
  | field g o x => simp only [evOp, hx x (by simp [opsC])]
  | extract x k => simp only [evOp, hx x (by simp [opsC])]
  | nilCheck x => simp only [evOp, hx x (by simp [opsC])]
  | len x => simp only [evOp, hx x (by simp [opsC])]
  | lenStr x => simp only [evOp, hx x (by simp [opsC])]
theorem evOp_kind {c : COp} {ρ : Operand → V} {h h' : Heap} {p : DP} {v : V} (he : evOp c ρ h = some (p, v, h')) :
    (kindC c ≤ 1 → h' = h) ∧ (kindC c ≤ 2 → HLe h h') := by
  have same : h' = h → (kindC c ≤ 1 → h' = h) ∧ (kindC c ≤ 2 → HLe h h') := fun e => ⟨fun _ => e, fun _ => e ▸ HLe.refl h⟩
  have ext : ∀ t, h' = h ++ t → 2 ≤ kindC c → (kindC c ≤ 1 → h' = h) ∧ (kindC c ≤ 2 → HLe h h') := fun t e hk => ⟨fun hl => by omega, fun _ => e ▸ HLe.append h t⟩
  cases c with
  | move x => cases he; exact same rfl
  | pick c a b => cases he
  | alloc z => cases he; exact ext _ rfl (by simp [kindC])
  | box own x =>
    cases own with
    | true => obtain ⟨cs, hc, he⟩ := map_some' he; cases he; exact ext _ rfl (by simp [kindC])
    | false =>
      simp only [evOp] at he
      split at he
      · cases he; exact ⟨fun _ => rfl, fun _ => HLe.refl h⟩
      · obtain ⟨cs, hc, he⟩ := map_some' he; cases he; exact ext _ rfl (by simp [kindC])
  | build z ps => obtain ⟨qs, hc, he⟩ := map_some' he; cases he; exact same rfl
  | bslice own e sz len z ps =>
    cases own with
    | true => obtain ⟨qs, hc, he⟩ := map_some' he; cases he; exact ext _ rfl (by simp [kindC])
    | false => obtain ⟨qs, hc, he⟩ := map_some' he; cases he; exact same rfl
  | store k x v => exact ⟨fun h => by simp [kindC] at h, fun h => by simp [kindC] at h⟩
  | mkfn f a c => cases he; exact same rfl
  | lenArr m => cases he; exact same rfl
  | append own e sz bytes x y =>
    simp only [evOp, evApp] at he
    split at he
    · cases he
    · split at he
      · cases he; exact same rfl
      · cases he; exact same rfl
      · cases he; exact ext _ rfl (by simp [kindC])
      · split at he
        · cases he; exact ⟨fun h => by simp [kindC] at h, fun _ => HLe.refl h⟩
        · cases he; exact ext _ rfl (by simp [kindC])
      · cases he
  | min xs => obtain ⟨qs, hc, he⟩ := map_some' he; cases he; exact same rfl
  | max xs => obtain ⟨qs, hc, he⟩ := map_some' he; cases he; exact same rfl
  | sliceA l sz x lo hi => obtain ⟨v, hv, he⟩ := map_some' he; cases he; exact same rfl
  | bad => cases he
  | mkmap => cases he; exact ext _ rfl (by simp [kindC])
  | isNil k neg x => obtain ⟨v, hv, he⟩ := map_some' he; cases he; exact same rfl
  | binB neg x y => obtain ⟨v, hv, he⟩ := map_some' he; cases he; exact same rfl
  | binS op x y => obtain ⟨v, hv, he⟩ := map_some' he; cases he; exact same rfl
  | eqA neg sh x y => obtain ⟨v, hv, he⟩ := map_some' he; cases he; exact same rfl
  | lookup a s z ok x k => exact ⟨fun h => by simp [kindC] at h, fun h => by simp [kindC] at h⟩
  | mupd a s x k v => exact ⟨fun h => by simp [kindC] at h, fun h => by simp [kindC] at h⟩
  | mkslice e sz b z l c =>
    obtain ⟨q, hv, he⟩ := map_some' he
    cases he
    unfold evMk at hv
    split at hv
    · split at hv
      · cases hv; exact ext _ rfl (by simp [kindC])
      · cases hv
    · cases hv
  | panic x => cases he
  | load g x => exact same (inH_some he).2
  | bin op x y => exact same (inH_some he).2
  | un op x => exact same (inH_some he).2
  | conv k x => exact same (inH_some he).2
  | fieldAddr o x => exact same (inH_some he).2
  | field g o x => exact same (inH_some he).2
  | indexS sz x i => exact same (inH_some he).2
  | indexA l sz x i => exact same (inH_some he).2
  | extract x k => exact same (inH_some he).2
  | nilCheck x => exact same (inH_some he).2
  | len x => exact same (inH_some he).2
  | lenStr x => exact same (inH_some he).2
  | sliceS sz x lo hi mx => exact same (inH_some he).2
theorem getElem?_ext {h t : Heap} {id : Nat} {b : Option Blk} (hb : h[id]? = some b) : (h ++ t)[id]? = some b := by
  rw [List.getElem?_append_left]
  · exact hb
  · exact (List.getElem?_eq_some_iff.1 hb).1
theorem cell_ext {h h' : Heap} (hl : HLe h h') {id g off : Nat} {v : V} (hc : h.cell id g off = some v) : Heap.cell h' id g off = some v := by
  unfold Heap.cell at *
  split at hc
  · rename_i cs hb; rw [hl _ _ hb rfl]; exact hc
  · rename_i e sz g' ds hb; rw [hl _ _ hb rfl]; exact hc
  · cases hc
theorem cells_ext {h h' : Heap} (hl : HLe h h') {id g off k : Nat} {v : List V} (hc : h.cells id g off k = some v) : Heap.cells h' id g off k = some v := by
  unfold Heap.cells at *
  split at hc
  · rename_i cs hb; rw [hl _ _ hb rfl]; exact hc
  · rename_i e sz g' ds hb; rw [hl _ _ hb rfl]; exact hc
  · cases hc
theorem conts_ext {h h' : Heap} (hl : HLe h h') {x : V} {q : Nat × List D} (hc : conts h x = some q) : conts h' x = some q := by
  unfold conts at *
  split at hc
  · exact hc
  · exact hc
  · split at hc
    · rename_i e sz g' ds hb; simp only [hl _ _ hb rfl]; exact hc
    · cases hc
  · cases hc
theorem inH_inv {h h2 : Heap} {o : Option (DP × V)} {p : DP} {v : V} (hh : inH h o = some (p, v, h2)) (h' : Heap) : inH h' o = some (p, v, h') := by
  obtain ⟨rfl, _⟩ := inH_some hh
  rfl
theorem evOp_heap {c : COp} {ρ : Operand → V} {h h2 h' : Heap} {p : DP} {v : V} (he : evOp c ρ h = some (p, v, h2)) (hp : p.P) (hk : kindC c = 0 ∨ (kindC c ≤ 1 ∧ HLe h h')) :
    ∃ p', evOp c ρ h' = some (p', v, h') ∧ p'.P := by
  have bad : ¬ kindC c ≤ 1 → ∃ p', evOp c ρ h' = some (p', v, h') ∧ p'.P := fun hn => by rcases hk with hk | hk <;> omega
  cases c with
  | move x => cases he; exact ⟨_, rfl, hp⟩
  | pick c a b => cases he
  | alloc z => exact bad (by simp [kindC])
  | box own x => exact bad (by simp [kindC])
  | build z ps => obtain ⟨qs, hc, he⟩ := map_some' he; cases he; exact ⟨_, by simp only [evOp, hc]; rfl, hp⟩
  | bslice own e sz len z ps =>
    cases own with
    | true => exact bad (by simp [kindC])
    | false => obtain ⟨qs, hc, he⟩ := map_some' he; cases he; exact ⟨_, by simp only [evOp, hc]; rfl, hp⟩
  | store k x v => exact bad (by simp [kindC])
  | mkfn f a c => cases he; exact ⟨_, rfl, hp⟩
  | lenArr m => cases he; exact ⟨_, rfl, hp⟩
  | append own e sz bytes x y =>
    cases own with
    | true => exact bad (by simp [kindC])
    | false =>
      rcases hk with hk | ⟨_, hle⟩
      · simp [kindC] at hk
      simp only [evOp, evApp] at he
      split at he
      · cases he
      · rename_i q hq
        simp only [evOp, evApp, conts_ext hle hq]
        split at he
        · cases he; exact ⟨_, rfl, hp⟩
        · cases he; exact ⟨_, rfl, hp⟩
        · rename_i e1 _; cases e1
        · rename_i e1 _; cases e1
        · cases he
  | min xs => obtain ⟨qs, hc, he⟩ := map_some' he; cases he; exact ⟨_, by simp only [evOp, hc]; rfl, hp⟩
  | max xs => obtain ⟨qs, hc, he⟩ := map_some' he; cases he; exact ⟨_, by simp only [evOp, hc]; rfl, hp⟩
  | sliceA l sz x lo hi => obtain ⟨v, hv, he⟩ := map_some' he; cases he; exact ⟨_, by simp only [evOp, hv]; rfl, hp⟩
  | bad => cases he
  | mkmap => exact bad (by simp [kindC])
  | isNil k neg x =>
    rcases hk with hk | ⟨_, hle⟩
    · simp [kindC] at hk
    obtain ⟨v, hv, he⟩ := map_some' he
    cases he
    have : evIsNil k (ρ x) h' = some v := by
      unfold evIsNil at hv ⊢
      split at hv
      · unfold evNilS at hv ⊢
        split at hv
        · exact hv
        · exact hv
        · split at hv
          · rename_i hb; simp only [hle _ _ hb rfl]; exact hv
          · cases hv
        · cases hv
      · exact hv
      · exact hv
      · exact hv
    exact ⟨_, by simp only [evOp, this]; rfl, hp⟩
  | binB neg x y => obtain ⟨v, hv, he⟩ := map_some' he; cases he; exact ⟨_, by simp only [evOp, hv]; rfl, hp⟩
  | binS op x y => obtain ⟨v, hv, he⟩ := map_some' he; cases he; exact ⟨_, by simp only [evOp, hv]; rfl, hp⟩
  | eqA neg sh x y => obtain ⟨v, hv, he⟩ := map_some' he; cases he; exact ⟨_, by simp only [evOp, hv]; rfl, hp⟩
  | lookup a s z ok x k => exact bad (by simp [kindC])
  | mupd a s x k v => exact bad (by simp [kindC])
  | mkslice e sz b z l c => exact bad (by simp [kindC])
  | panic x => cases he
  | load g x =>
    rcases hk with hk | ⟨_, hle⟩
    · simp [kindC] at hk
    obtain ⟨he2, hh⟩ := inH_some he
    simp only [evOp]
    unfold evLoad at he2 ⊢
    split at he2
    · rename_i id ge off e; obtain ⟨u, hu, he⟩ := map_some' he2; cases he; exact ⟨_, by rw [cell_ext hle hu]; rfl, hp⟩
    · rename_i ds off e; obtain ⟨u, hu, he⟩ := map_some' he2; cases he; exact ⟨_, by rw [hu]; rfl, hp⟩
    · rename_i n id ge off e; obtain ⟨u, hu, he⟩ := map_some' he2; cases he; exact ⟨_, by rw [cells_ext hle hu]; rfl, hp⟩
    · cases he2; exact ⟨_, rfl, hp⟩
    · cases he2
  | indexS sz x i =>
    rcases hk with hk | ⟨_, hle⟩
    · simp [kindC] at hk
    obtain ⟨he2, hh⟩ := inH_some he
    simp only [evOp]
    unfold evIdx at he2 ⊢
    split at he2
    · rename_i e1 e2; obtain ⟨u, hu, he⟩ := map_some' he2; cases he; exact ⟨_, by rw [hu]; rfl, hp⟩
    · rename_i e1 e2; cases he2
      obtain ⟨w, hw⟩ := Option.isSome_iff_exists.1 hp.2
      exact ⟨_, rfl, hp.1, by rw [cells_ext hle hw]; rfl⟩
    · cases he2
  | bin op x y => exact ⟨_, inH_inv he h', hp⟩
  | un op x => exact ⟨_, inH_inv he h', hp⟩
  | conv k x => exact ⟨_, inH_inv he h', hp⟩
  | fieldAddr o x => exact ⟨_, inH_inv he h', hp⟩
  | field g o x => exact ⟨_, inH_inv he h', hp⟩
  | indexA l sz x i => exact ⟨_, inH_inv he h', hp⟩
  | extract x k => exact ⟨_, inH_inv he h', hp⟩
  | nilCheck x => exact ⟨_, inH_inv he h', hp⟩
  | len x => exact ⟨_, inH_inv he h', hp⟩
  | lenStr x => exact ⟨_, inH_inv he h', hp⟩
  | sliceS sz x lo hi mx => exact ⟨_, inH_inv he h', hp⟩
end Go.Proofs.Ytdnefcjbcieecaa
namespace Go.Proofs.Ytdnefcjbcieecaa
open Go
def runK2 (P : Program) (n : Nat) (op : RKind) (ρ : Operand → V) (h : Heap) (K : V → Heap → Prop) : Prop :=
  match op with
  | .simple (.pick c a b) => brV (ρ c) (K (ρ a) h) (K (ρ b) h)
  | .simple c => match evOp c ρ h with
    | some (p, v, h') => p.P ∧ K v h'
    | none => False
  | .call f args => callV P (ρ f) (args.map ρ) h K
  | .callx f args => callV P (ρ f) (args.map ρ) h fun v h' => HLe h h' ∧ K v h'
  | .app e sz bytes x y => match ρ x with
    | .own id g len => match rowOf h id g, conts h (ρ y) with
      | some q, some p => (q.1 = e ∧ q.2.1 = sz ∧ q.2.2.length = len * sz ∧ p.2.length = p.1 * sz ∧ len + p.1 ≤ 140737488355328 ∧ (len + p.1) * bytes ≤ 140737488355328) ∧
          K (.own id (g + 1) (len + p.1)) (h.set id (some (.row e sz (g + 1) (q.2.2 ++ p.2))))
      | _, _ => False
    | .d x => match evApp true e sz bytes (.d x) (ρ y) h with
      | some (p, v, h') => p.P ∧ K v h'
      | none => False
    | _ => False
def runG (P : Program) (n : Nat) (r : ROp) (K : Env → Heap → Prop) (env : Env) (h : Heap) : Prop :=
  guardV env r.guard (runK2 P n r.op (opnd env) h fun v h' => K (env.put r.dst v) h') (K (env.put r.dst (.tup [])) h)
section
variable {P : Program} {n : Nat}
theorem runK2_simple {c : COp} {ρ : Operand → V} {h : Heap} {K : V → Heap → Prop} (hc : ∀ x y z, c ≠ .pick x y z) :
    runK2 P n (.simple c) ρ h K = match evOp c ρ h with
      | some (p, v, h') => p.P ∧ K v h'
      | none => False := by
  unfold runK2
  cases c <;> first | rfl | exact absurd rfl (hc _ _ _)
theorem runOps2_cons (r : ROp) (rs : List ROp) (env : Env) (h : Heap) (K : Env → Heap → Prop) :
    runOps2 P n (r :: rs) env h K = runG P n r (fun env h => runOps2 P n rs env h K) env h := by
  rw [runOps2]
  unfold runG
  congr 1
theorem runK2_mono {op : RKind} {ρ : Operand → V} {h : Heap} {K K' : V → Heap → Prop} (hy : runK2 P n op ρ h K) (hk : ∀ v h', (kindR op = 3 ∨ HLe h h') → K v h' → K' v h') :
    runK2 P n op ρ h K' := by
  cases op with
  | simple c =>
    by_cases hc : ∃ x y z, c = .pick x y z
    · obtain ⟨x, y, z, rfl⟩ := hc
      exact brV_imp hy (hk _ _ (.inr (HLe.refl h))) (hk _ _ (.inr (HLe.refl h)))
    · have hc' : ∀ x y z, c ≠ .pick x y z := fun x y z e => hc ⟨x, y, z, e⟩
      rw [runK2_simple hc'] at hy ⊢
      split at hy
      · rename_i p v h' e
        refine ⟨hy.1, hk _ _ ?_ hy.2⟩
        rcases Nat.lt_or_ge 2 (kindC c) with hl | hl
        · refine .inl ?_
          show kindC c = 3
          have : kindC c ≤ 3 := by
            unfold kindC
            split <;> decide
          omega
        · exact .inr ((evOp_kind e).2 hl)
      · exact hy
  | call f args => exact callV_mono hy (fun v h' hK => hk _ _ (.inl rfl) hK)
  | callx f args => exact callV_mono hy (fun v h' hK => ⟨hK.1, hk _ _ (.inr hK.1) hK.2⟩)
  | app e sz bytes x y =>
    unfold runK2 at *
    simp only at hy ⊢
    split at hy
    · split at hy
      · exact ⟨hy.1, hk _ _ (.inl rfl) hy.2⟩
      · exact hy
    · split at hy
      · exact ⟨hy.1, hk _ _ (.inl rfl) hy.2⟩
      · exact hy
    · exact hy
theorem runK2_congr {op : RKind} {ρ ρ' : Operand → V} {h : Heap} {K : V → Heap → Prop} (hx : ∀ x ∈ opsK op, ρ x = ρ' x) (hy : runK2 P n op ρ h K) : runK2 P n op ρ' h K := by
  cases op with
  | simple c =>
    by_cases hc : ∃ x y z, c = .pick x y z
    · obtain ⟨x, y, z, rfl⟩ := hc
      unfold runK2 at *
      simp only at hy ⊢
      rw [← hx x (by simp [opsK, opsC]), ← hx y (by simp [opsK, opsC]), ← hx z (by simp [opsK, opsC])]
      exact hy
    · have hc' : ∀ x y z, c ≠ .pick x y z := fun x y z e => hc ⟨x, y, z, e⟩
      rw [runK2_simple hc'] at hy ⊢
      rw [← evOp_congr h hx]
      exact hy
  | call f args =>
    have h1 : args.map ρ = args.map ρ' := List.map_congr_left fun x hm => hx x (by simp [opsK, hm])
    unfold runK2 at *
    simp only [← h1, ← hx f (by simp [opsK])]
    exact hy
  | callx f args =>
    have h1 : args.map ρ = args.map ρ' := List.map_congr_left fun x hm => hx x (by simp [opsK, hm])
    unfold runK2 at *
    simp only [← h1, ← hx f (by simp [opsK])]
    exact hy
  | app e sz bytes x y =>
    unfold runK2 at *
    simp only [← hx x (by simp [opsK]), ← hx y (by simp [opsK])]
    exact hy
theorem runG_mono {r : ROp} {env : Env} {h : Heap} {K K' : Env → Heap → Prop} (hk : ∀ env h, K env h → K' env h) (hy : runG P n r K env h) : runG P n r K' env h :=
  guardV_imp hy (fun hx => runK2_mono hx fun _ _ _ => hk _ _) (hk _ _)
def RD (op : RKind) (ρ : Operand → V) (h : Heap) (u : V) : Prop :=
  match op with
  | .simple (.pick c a b) => (ρ c = .d (.bool true) ∧ u = ρ a) ∨ (ρ c = .d (.bool false) ∧ u = ρ b)
  | .simple c => ∃ p, evOp c ρ h = some (p, u, h) ∧ p.P
  | _ => False
theorem RD_simple {c : COp} {ρ : Operand → V} {h : Heap} {u : V} (hc : ∀ x y z, c ≠ .pick x y z) : RD (.simple c) ρ h u = ∃ p, evOp c ρ h = some (p, u, h) ∧ p.P := by
  unfold RD
  cases c <;> first | rfl | exact absurd rfl (hc _ _ _)
theorem RD_intro {op : RKind} {ρ : Operand → V} {h : Heap} {K : V → Heap → Prop} (hk : kindR op ≤ 1) (hy : runK2 P n op ρ h K) : ∃ u, RD op ρ h u ∧ K u h := by
  cases op with
  | simple c =>
    by_cases hc : ∃ x y z, c = .pick x y z
    · obtain ⟨x, y, z, rfl⟩ := hc
      unfold runK2 brV at hy
      simp only at hy
      split at hy
      · rename_i b e
        cases b with
        | true => exact ⟨ρ y, .inl ⟨e, rfl⟩, hy.1 rfl⟩
        | false => exact ⟨ρ z, .inr ⟨e, rfl⟩, hy.2 rfl⟩
      · exact hy.elim
    · have hc' : ∀ x y z, c ≠ .pick x y z := fun x y z e => hc ⟨x, y, z, e⟩
      rw [runK2_simple hc'] at hy
      split at hy
      · rename_i p v h' e
        obtain rfl := (evOp_kind e).1 hk
        exact ⟨v, by rw [RD_simple hc']; exact ⟨p, e, hy.1⟩, hy.2⟩
      · exact hy.elim
  | call f args => simp [kindR] at hk
  | callx f args => simp [kindR] at hk
  | app e sz bytes x y => simp [kindR] at hk
theorem RD_elim {op : RKind} {ρ : Operand → V} {h : Heap} {u : V} {K : V → Heap → Prop} (hr : RD op ρ h u) (hk : K u h) : runK2 P n op ρ h K := by
  cases op with
  | simple c =>
    by_cases hc : ∃ x y z, c = .pick x y z
    · obtain ⟨x, y, z, rfl⟩ := hc
      unfold runK2 brV
      rcases hr with ⟨e, rfl⟩ | ⟨e, rfl⟩
      · simp only [e]; exact ⟨fun _ => hk, fun e => by cases e⟩
      · simp only [e]; exact ⟨fun e => by simp at e, fun _ => hk⟩
    · have hc' : ∀ x y z, c ≠ .pick x y z := fun x y z e => hc ⟨x, y, z, e⟩
      rw [RD_simple hc'] at hr
      obtain ⟨p, e, hp⟩ := hr
      rw [runK2_simple hc', e]
      exact ⟨hp, hk⟩
  | call f args => exact hr.elim
  | callx f args => exact hr.elim
  | app e sz bytes x y => exact hr.elim
theorem RD_congr {op : RKind} {ρ ρ' : Operand → V} {h : Heap} {u : V} (hx : ∀ x ∈ opsK op, ρ x = ρ' x) (hr : RD op ρ h u) : RD op ρ' h u := by
  cases op with
  | simple c =>
    by_cases hc : ∃ x y z, c = .pick x y z
    · obtain ⟨x, y, z, rfl⟩ := hc
      unfold RD at *
      simp only at hr ⊢
      rw [← hx x (by simp [opsK, opsC]), ← hx y (by simp [opsK, opsC]), ← hx z (by simp [opsK, opsC])]
      exact hr
    · have hc' : ∀ x y z, c ≠ .pick x y z := fun x y z e => hc ⟨x, y, z, e⟩
      rw [RD_simple hc'] at hr ⊢
      rw [← evOp_congr h hx]
      exact hr
  | _ => exact hr.elim
theorem RD_heap {op : RKind} {ρ : Operand → V} {h h' : Heap} {u : V} (hk : kindR op = 0 ∨ (kindR op ≤ 1 ∧ HLe h h')) (hr : RD op ρ h u) : RD op ρ h' u := by
  cases op with
  | simple c =>
    by_cases hc : ∃ x y z, c = .pick x y z
    · obtain ⟨x, y, z, rfl⟩ := hc
      exact hr
    · have hc' : ∀ x y z, c ≠ .pick x y z := fun x y z e => hc ⟨x, y, z, e⟩
      rw [RD_simple hc'] at hr ⊢
      obtain ⟨p, e, hp⟩ := hr
      exact evOp_heap e hp hk
  | _ => exact hr.elim
theorem guardV_cases {env : Env} {g : Option (Nat × Bool)} {a b : Prop} (h : guardV env g a b) : (guardV env g True False ∧ a) ∨ (guardV env g False True ∧ b) := by
  unfold guardV at *
  cases g with
  | none => exact .inl ⟨trivial, h⟩
  | some p =>
    obtain ⟨t, w⟩ := p
    simp only [guardB] at *
    split at h
    · rename_i e; exact .inr ⟨trivial, h⟩
    · rename_i v hne
      have fin : ∀ {x y : Prop}, brV (env.get t) x y → (brV (env.get t) True False ∧ x) ∨ (brV (env.get t) False True ∧ y) := by
        intro x y hh
        unfold brV at *
        split at hh
        · rename_i b e
          cases b with
          | true => exact .inl ⟨⟨fun _ => trivial, fun e => by cases e⟩, hh.1 rfl⟩
          | false => exact .inr ⟨⟨fun e => (by cases e), fun _ => trivial⟩, hh.2 rfl⟩
        · exact hh.elim
      cases w with
      | true => exact fin h
      | false => exact (fin h).symm
theorem guardV_yes {env : Env} {g : Option (Nat × Bool)} {a b : Prop} (h : guardV env g True False) (ha : a) : guardV env g a b := guardV_imp h (fun _ => ha) (fun h => h.elim)
theorem guardV_no {env : Env} {g : Option (Nat × Bool)} {a b : Prop} (h : guardV env g False True) (hb : b) : guardV env g a b := guardV_imp h (fun h => h.elim) (fun _ => hb)
def YA (r : ROp) (u : V) (env : Env) (h : Heap) : Prop := (guardV env r.guard True False ∧ RD r.op (opnd env) h u) ∨ (guardV env r.guard False True ∧ u = .tup [])
theorem YA_intro {r : ROp} {env : Env} {h : Heap} {K : Env → Heap → Prop} (hk : kindR r.op ≤ 1) (hy : runG P n r K env h) : ∃ u, YA r u env h ∧ K (env.put r.dst u) h := by
  rcases guardV_cases hy with ⟨hg, hy⟩ | ⟨hg, hy⟩
  · obtain ⟨u, hu, hK⟩ := RD_intro hk hy
    exact ⟨u, .inl ⟨hg, hu⟩, hK⟩
  · exact ⟨_, .inr ⟨hg, rfl⟩, hy⟩
theorem YA_elim {r : ROp} {u : V} {env : Env} {h : Heap} {K : Env → Heap → Prop} (hy : YA r u env h) (hk : K (env.put r.dst u) h) : runG P n r K env h := by
  rcases hy with ⟨hg, hy⟩ | ⟨hg, rfl⟩
  · exact guardV_yes hg (RD_elim hy hk)
  · exact guardV_no hg hk
theorem opnd_same {r : ROp} {env env' : Env} (h : ∀ t ∈ looksR r, env.get t = env'.get t) : ∀ x ∈ opsK r.op, opnd env x = opnd env' x := by
  intro x hx
  cases x with
  | tmp t => exact h t (by unfold looksR; exact List.mem_append_left _ (List.mem_filterMap.2 ⟨.tmp t, hx, rfl⟩))
  | _ => rfl
theorem guard_same {r : ROp} {env env' : Env} (h : ∀ t ∈ looksR r, env.get t = env'.get t) {a b : Prop} : guardV env r.guard a b = guardV env' r.guard a b := by
  unfold guardV
  cases hg : r.guard with
  | none => rfl
  | some p =>
    obtain ⟨t, w⟩ := p
    simp only
    rw [h t (by unfold looksR; rw [hg]; exact List.mem_append_right _ (by simp))]
theorem YA_same {r : ROp} {u : V} {env env' : Env} {h h' : Heap} (hl : ∀ t ∈ looksR r, env.get t = env'.get t) (hk : kindR r.op = 0 ∨ (kindR r.op ≤ 1 ∧ HLe h h')) (hy : YA r u env h) : YA r u env' h' := by
  unfold YA at *
  rw [guard_same hl, guard_same hl] at hy
  exact hy.imp (fun h => ⟨h.1, RD_congr (opnd_same hl) (RD_heap hk h.2)⟩) id
end
end Go.Proofs.Ytdnefcjbcieecaa
namespace Go.Proofs.Ytdnefcjbcieecaa
open Go
section
variable (md : Region.Mode) (P : Program) (n : Nat) (ops : Array Oper) (rs : List ROp) (K : Env → Heap → Prop)
def runI (i : Nat) (K : Env → Heap → Prop) (env : Env) (h : Heap) : Prop :=
  match rs[i]? with
  | none => K env h
  | some r => runG P n r K env h
def SAll : Nat → Array Bool → Env → Heap → Prop
  | 0, listed, env, h => Region.ready md ops listed = [] ∧ K env h
  | fuel + 1, listed, env, h => (Region.ready md ops listed = [] → K env h) ∧ ∀ i ∈ Region.ready md ops listed, runI P n rs i (SAll fuel (listed.setIfInBounds i true)) env h
def runT : OT → Env → Heap → Prop
  | .leaf, env, h => K env h
  | .node i t, env, h => runI P n rs i (runT t) env h
  | .alt a b, env, h => runT a env h ∧ runT b env h
def eager (listed : Array Bool) (i : Nat) : Bool :=
  match rs[i]? with
  | none => false
  | some r => decide (kindR r.op ≤ 1) && eagerL md ops rs listed i r
end
section
variable {md : Region.Mode} {P : Program} {n : Nat} {ops : Array Oper} {rs : List ROp} {K : Env → Heap → Prop}
theorem runI_mono {i : Nat} {env : Env} {h : Heap} {K K' : Env → Heap → Prop} (hk : ∀ env h, K env h → K' env h) (hy : runI P n rs i K env h) : runI P n rs i K' env h := by
  unfold runI at *
  split
  · rename_i e; rw [e] at hy; exact hk _ _ hy
  · rename_i r e; rw [e] at hy; exact runG_mono hk hy
theorem get_put_eq {env env' : Env} (he : ∀ k, env.get k = env'.get k) (d : Option Nat) (v : V) (k : Nat) : (env.put d v).get k = (env'.put d v).get k := by
  cases d with
  | none => exact he k
  | some d =>
    by_cases hk : k = d
    · subst hk; rw [Env.get_put_same, Env.get_put_same]
    · rw [Env.get_put_other _ _ hk, Env.get_put_other _ _ hk]; exact he k
theorem runG_eq {r : ROp} {env env' : Env} {h : Heap} {K K' : Env → Heap → Prop} (he : ∀ k, env.get k = env'.get k) (hK : ∀ e e' h, (∀ k, e.get k = e'.get k) → K e h → K' e' h) (hy : runG P n r K env h) : runG P n r K' env' h := by
  unfold runG at *
  rw [guard_same (r := r) (env := env) (env' := env') (fun t _ => he t)] at hy
  refine guardV_imp hy (fun hx => ?_) (hK _ _ _ (get_put_eq he _ _))
  exact runK2_congr (opnd_same fun t _ => he t) (runK2_mono hx fun v h' _ => hK _ _ _ (get_put_eq he _ _))
theorem runI_eq {i : Nat} {env env' : Env} {h : Heap} {K K' : Env → Heap → Prop} (he : ∀ k, env.get k = env'.get k) (hK : ∀ e e' h, (∀ k, e.get k = e'.get k) → K e h → K' e' h) (hy : runI P n rs i K env h) : runI P n rs i K' env' h := by
  unfold runI at *
  split
  · rename_i e; rw [e] at hy; exact hK _ _ _ he hy
  · rename_i r e; rw [e] at hy; exact runG_eq he hK hy
theorem SAll_eq (hK : ∀ e e' h, (∀ k, e.get k = e'.get k) → K e h → K e' h) : ∀ (f : Nat) (listed : Array Bool) (env env' : Env) (h : Heap), (∀ k, env.get k = env'.get k) → SAll md P n ops rs K f listed env h → SAll md P n ops rs K f listed env' h
  | 0, listed, env, env', h, he, hs => ⟨hs.1, hK _ _ _ he hs.2⟩
  | f + 1, listed, env, env', h, he, hs => ⟨fun h0 => hK _ _ _ he (hs.1 h0), fun i hi => runI_eq he (fun e e' h hh => SAll_eq hK f _ e e' h hh) (hs.2 i hi)⟩
def DC (md : Region.Mode) (ops : Array Oper) (listed : Array Bool) : Prop := ∀ j, listed.getD j false = true → ∀ o, ops[j]? = some o → ∀ e ∈ o.after, Region.binds md e = true → listed.getD e.on false = true
theorem DC.set {listed : Array Bool} {i : Nat} (h : DC md ops listed) (hi : i ∈ Region.ready md ops listed) : DC md ops (listed.setIfInBounds i true) := by
  intro j hj o ho e he hb
  by_cases hji : i = j
  · subst hji
    obtain ⟨_, o', ho', hall⟩ := mem_ready.1 hi
    rw [ho] at ho'
    cases ho'
    exact getD_set_true (hall e he hb)
  · rw [getD_set_ne false hji] at hj
    exact getD_set_true (h j hj o ho e he hb)
theorem behind_not {listed : Array Bool} {i : Nat} (h : DC md ops listed) (hi : listed.getD i false = false) (j : Nat) (hj : ∀ o, ops[j]? = some o → ∀ e ∈ o.after, Region.binds md e = true → listed.getD e.on false = true) : behindB md ops i j = false := by
  have hd : directB md ops i j = false := by
    rw [Bool.eq_false_iff]
    intro hd
    unfold directB at hd
    split at hd
    · cases hd
    · rename_i o ho
      obtain ⟨e, he, hb⟩ := Array.any_eq_true'.1 hd
      simp only [Bool.and_eq_true, beq_iff_eq] at hb
      have := hj o ho e he hb.2
      rw [hb.1, hi] at this
      cases this
  unfold behindB
  rw [hd, Bool.false_or]
  have key : ∀ (l acc : List Nat), (∀ j ∈ acc, ¬ ∀ o, ops[j]? = some o → ∀ e ∈ o.after, Region.binds md e = true → listed.getD e.on false = true) →
      ∀ j ∈ l.foldl (behindS md ops i) acc, ¬ ∀ o, ops[j]? = some o → ∀ e ∈ o.after, Region.binds md e = true → listed.getD e.on false = true := by
    intro l
    induction l with
    | nil => intro acc ha; exact ha
    | cons k l ih =>
      intro acc ha
      refine ih _ ?_
      unfold behindS
      split
      · exact ha
      · rename_i o ho
        split
        · rename_i hb
          intro j hj
          rcases List.mem_cons.1 hj with rfl | hj
          · intro hall
            obtain ⟨e, he, hb⟩ := Array.any_eq_true'.1 hb
            simp only [Bool.and_eq_true, Bool.or_eq_true, beq_iff_eq, List.contains_iff_mem] at hb
            have hl := hall o ho e he hb.1
            rcases hb.2 with hb | hb
            · rw [hb, hi] at hl; cases hl
            · exact ha _ hb (h _ hl)
          · exact ha j hj
        · exact ha
  rw [Bool.eq_false_iff]
  intro hc
  rw [List.contains_iff_mem] at hc
  exact key _ [] (by simp) j hc hj
theorem ready_not {i : Nat} {listed : Array Bool} (hi : i ∈ Region.ready md ops listed) : listed.getD i false = false := by
  have h0 := (mem_ready.1 hi).1
  rcases Nat.lt_or_ge i listed.size with h' | h'
  · simp [h'] at h0 ⊢; exact h0
  · simp [Array.getElem?_eq_none h']
theorem eager_spec {listed : Array Bool} {i : Nat} (h : eager md ops rs listed i = true) : ∃ r, rs[i]? = some r ∧ kindR r.op ≤ 1 ∧
    ∀ j q, rs[j]? = some q → j ≠ i → listed.getD j true = false → behindB md ops i j = false → apartR r q = true ∧ (kindR r.op = 0 ∨ kindR q.op ≠ 3) := by
  unfold eager at h
  split at h
  · cases h
  · rename_i r hr
    simp only [Bool.and_eq_true, decide_eq_true_eq] at h
    refine ⟨r, hr, h.1, fun j q hq hj hl hb => ?_⟩
    have := List.all_eq_true.1 (by have := h.2; unfold eagerL at this; exact this) j (List.mem_range.2 (List.getElem?_eq_some_iff.1 hq).1)
    unfold behindB at hb
    rw [Bool.or_eq_false_iff] at hb
    simp only [hq, hb.1, hb.2, hl, Bool.or_eq_true, beq_iff_eq, hj, false_or, Bool.false_eq_true, Bool.and_eq_true, or_false, bne_iff_ne, ne_eq] at this
    exact this
theorem apartR_spec {x y : ROp} (h : apartR x y = true) : (∀ d, x.dst = some d → d ∉ looksR y) ∧ (∀ d, x.dst = some d → y.dst ≠ some d) ∧ (∀ d, y.dst = some d → d ∉ looksR x) := by
  refine ⟨fun d hd => ?_, fun d hd => ?_, fun d hd => ?_⟩ <;> simp [apartR, hd] at h
  · exact h.1.1
  · exact h.1.2
  · exact h.2
theorem get_put_not {env : Env} {d : Option Nat} {v : V} {t : Nat} (h : ∀ x, d = some x → x ≠ t) : (env.put d v).get t = env.get t := by
  cases d with
  | none => rfl
  | some d => exact Env.get_put_other _ _ (Ne.symm (h d rfl))
theorem put_put {env : Env} {x y : Option Nat} (u v : V) (h : ∀ d, x = some d → y ≠ some d) (k : Nat) : ((env.put x u).put y v).get k = ((env.put y v).put x u).get k := by
  by_cases hx : x = some k
  · have hy : ∀ d, y = some d → d ≠ k := fun d hd e => h k hx (by rw [hd, e])
    rw [get_put_not (d := y) (fun d hd => hy d hd)]
    subst hx
    rw [Env.get_put_same, Env.get_put_same]
  · have hx' : ∀ d, x = some d → d ≠ k := fun d hd e => hx (by rw [hd, e])
    rw [get_put_not (env := env.put y v) (d := x) hx']
    by_cases hy : y = some k
    · subst hy; rw [Env.get_put_same, Env.get_put_same]
    · have hy' : ∀ d, y = some d → d ≠ k := fun d hd e => hy (by rw [hd, e])
      rw [get_put_not (d := y) hy', get_put_not (d := x) hx', get_put_not (d := y) hy']
theorem runG_swap {r q : ROp} {u : V} {env : Env} {h : Heap} {K' : Env → Heap → Prop} (hap : apartR r q = true) (hkr : kindR r.op ≤ 1) (hk : kindR r.op = 0 ∨ kindR q.op ≠ 3)
    (hK : ∀ e e' h, (∀ k, e.get k = e'.get k) → K' e h → K' e' h) (hy : YA r u env h) (hq : runG P n q K' (env.put r.dst u) h) :
    runG P n q (fun env' h' => YA r u env' h' ∧ K' (env'.put r.dst u) h') env h := by
  obtain ⟨h1, h2, h3⟩ := apartR_spec hap
  have hlq : ∀ t ∈ looksR q, (env.put r.dst u).get t = env.get t := fun t ht => get_put_not fun x hx e => h1 x hx (e ▸ ht)
  have keep : ∀ v h', (kindR q.op = 3 ∨ HLe h h') → YA r u (env.put q.dst v) h' := fun v h' hh =>
    YA_same (fun t ht => (get_put_not fun x hx e => h3 x hx (e ▸ ht)).symm) (by
      rcases hk with hk | hk
      · exact .inl hk
      · exact .inr ⟨hkr, hh.resolve_left hk⟩) hy
  unfold runG at *
  rw [guard_same hlq] at hq
  refine guardV_imp hq (fun hx => ?_) (fun hx => ⟨keep _ _ (.inr (HLe.refl _)), hK _ _ _ (put_put _ _ h2) hx⟩)
  exact runK2_congr (opnd_same hlq) (runK2_mono hx fun v h' hh hx => ⟨keep v h' hh, hK _ _ _ (put_put _ _ h2) hx⟩)
theorem SAll_first {i : Nat} {r : ROp} {u : V} (hi : rs[i]? = some r) (hk : kindR r.op ≤ 1) (hK : ∀ e e' h, (∀ k, e.get k = e'.get k) → K e h → K e' h) :
    ∀ (f : Nat) (listed : Array Bool) (env : Env) (h : Heap), DC md ops listed →
      (∀ j q, rs[j]? = some q → j ≠ i → listed.getD j true = false → behindB md ops i j = false → apartR r q = true ∧ (kindR r.op = 0 ∨ kindR q.op ≠ 3)) →
      i ∈ Region.ready md ops listed → YA r u env h → SAll md P n ops rs K f (listed.setIfInBounds i true) (env.put r.dst u) h → SAll md P n ops rs K (f + 1) listed env h := by
  intro f
  have own : ∀ {f : Nat} {listed : Array Bool} {env : Env} {h : Heap}, YA r u env h → SAll md P n ops rs K f (listed.setIfInBounds i true) (env.put r.dst u) h → runI P n rs i (SAll md P n ops rs K f (listed.setIfInBounds i true)) env h := by
    intro f listed env h hy H
    unfold runI
    rw [hi]
    exact YA_elim hy H
  induction f with
  | zero =>
    intro listed env h _ _ hr hy H
    refine ⟨fun h => (by rw [h] at hr; cases hr), fun j hj => ?_⟩
    by_cases hji : j = i
    · subst hji; exact own hy H
    · have := ready_mono hj hji
      rw [H.1] at this
      cases this
  | succ f ih =>
    intro listed env h hdc hfree hr hy H
    refine ⟨fun h => (by rw [h] at hr; cases hr), fun j hj => ?_⟩
    by_cases hji : j = i
    · subst hji; exact own hy H
    · have h1 := H.2 j (ready_mono hj hji)
      obtain ⟨hjun, oj, hoj, hall⟩ := mem_ready.1 hj
      have hfree' : ∀ k q, rs[k]? = some q → k ≠ i → (listed.setIfInBounds j true).getD k true = false → behindB md ops i k = false → apartR r q = true ∧ (kindR r.op = 0 ∨ kindR q.op ≠ 3) := fun k q hq hki hun hb => by
        refine hfree k q hq hki ?_ hb
        by_cases hjk : j = k
        · subst hjk; exact hjun
        · rw [getD_set_ne true hjk] at hun; exact hun
      have hbj : behindB md ops i j = false := behind_not hdc (ready_not hr) _ (fun o ho e he hb => by
        rw [hoj] at ho; cases ho; exact hall e he hb)
      unfold runI at h1 ⊢
      split at h1
      · rename_i hq
        rw [Array.setIfInBounds_comm _ _ (Ne.symm hji)] at h1
        exact ih _ env h (hdc.set hj) hfree' (ready_mono hr (Ne.symm hji)) hy h1
      · rename_i q hq
        have hap := hfree j q hq hji hjun hbj
        refine runG_mono (fun env' h' hh => ?_) (runG_swap hap.1 hk hap.2 (fun e e' h he => SAll_eq hK _ _ e e' h he) hy h1)
        refine ih _ env' h' (hdc.set hj) hfree' (ready_mono hr (Ne.symm hji)) hh.1 ?_
        rw [Array.setIfInBounds_comm _ _ hji]
        exact hh.2
theorem altR_sound {f : Nat → Option OT} : ∀ {l : List Nat} {t : OT} {env : Env} {h : Heap}, altR f l = some t → runT P n rs K t env h → ∀ j ∈ l, ∃ tj, f j = some tj ∧ runI P n rs j (runT P n rs K tj) env h
  | [], t, env, h, ho, hr => fun j hj => by cases hj
  | [i], t, env, h, ho, hr => fun j hj => by
    obtain ⟨ti, hti, rfl⟩ := map_some' ho
    obtain rfl : j = i := by simpa using hj
    exact ⟨ti, hti, hr⟩
  | i :: i2 :: is, t, env, h, ho, hr => fun j hj => by
    unfold altR at ho
    split at ho
    · rename_i ti r h1 h2
      cases ho
      rcases List.mem_cons.1 hj with rfl | hj
      · exact ⟨ti, h1, hr.1⟩
      · exact altR_sound h2 hr.2 j hj
    · cases ho
end
section
variable {md : Region.Mode} {P : Program} {n : Nat} {ops : Array Oper} {rs : List ROp} {K : Env → Heap → Prop}
def Rl (ops : Array Oper) (listed : Array Bool) (done : Nat) : Prop := listed.size = ops.size ∧ ∀ i, listed.getD i false = done.testBit i
theorem getD_true_of {listed : Array Bool} {i : Nat} (h : i < listed.size) : listed.getD i true = listed.getD i false := by simp [h]
theorem Rl.ready {listed : Array Bool} {done : Nat} (h : Rl ops listed done) : Region.ready md ops listed = readyF md ops done := by
  unfold Region.ready readyF
  refine List.filter_congr fun i hi => ?_
  have hlt : i < listed.size := by rw [h.1]; exact List.mem_range.1 hi
  rw [getD_true_of hlt, h.2 i]
  simp only [h.2]
theorem Rl.set {listed : Array Bool} {done i : Nat} (h : Rl ops listed done) (hi : i < ops.size) : Rl ops (listed.setIfInBounds i true) (done ||| 1 <<< i) := by
  refine ⟨by simpa using h.1, fun j => ?_⟩
  have hlt : i < listed.size := by rw [h.1]; exact hi
  rw [Nat.testBit_or, ← h.2 j, Nat.one_shiftLeft, Nat.testBit_two_pow]
  by_cases hij : i = j
  · subst hij; simp [hlt]
  · rw [getD_set_ne false hij]; simp [hij]
theorem eagerF_eager {listed : Array Bool} {done i : Nat} (h : Rl ops listed done) (he : eagerF md ops rs done i = true) : eager md ops rs listed i = true := by
  unfold eagerF at he
  unfold eager
  split at he
  · cases he
  · rename_i r hr
    simp only [hr]
    simp only [Bool.and_eq_true] at he ⊢
    refine ⟨he.1, ?_⟩
    unfold eagerL
    rw [List.all_eq_true] at he ⊢
    intro j hj
    have := he.2 j hj
    simp only [Bool.or_eq_true] at this ⊢
    rcases this with (((h1 | h1) | h1) | h1) | h1
    · refine .inl (.inl (.inl (.inr ?_)))
      rw [← h.2 j] at h1
      rcases Nat.lt_or_ge j listed.size with hl | hl
      · rw [getD_true_of hl]; exact h1
      · simp [Array.getElem?_eq_none hl]
    · exact .inl (.inl (.inl (.inl h1)))
    · exact .inl (.inl (.inr h1))
    · exact .inl (.inr h1)
    · exact .inr h1
theorem ready_lt {i : Nat} {listed : Array Bool} (hi : i ∈ Region.ready md ops listed) : i < ops.size := by
  obtain ⟨_, o, ho, _⟩ := mem_ready.1 hi
  exact (Array.getElem?_eq_some_iff.1 ho).1
theorem treeF_sound (hK : ∀ e e' h, (∀ k, e.get k = e'.get k) → K e h → K e' h) : ∀ (f : Nat) (done : Nat) (listed : Array Bool) (t : OT) (env : Env) (h : Heap), treeF md ops rs f done = some t → Rl ops listed done → DC md ops listed → runT P n rs K t env h →
    SAll md P n ops rs K f listed env h
  | 0, done, listed, t, env, h, ho, hrl, hdc, hr => by
    unfold treeF at ho
    rw [← hrl.ready] at ho
    split at ho
    · rename_i e; cases ho; exact ⟨e, hr⟩
    · cases ho
  | f + 1, done, listed, t, env, h, ho, hrl, hdc, hr => by
    unfold treeF at ho
    rw [← hrl.ready] at ho
    split at ho
    · rename_i e; cases ho; exact ⟨fun _ => hr, fun i hi => by rw [e] at hi; cases hi⟩
    · rename_i i is e
      split at ho
      · rename_i j hf
        obtain ⟨t', hl, rfl⟩ := map_some' ho
        have hmem : j ∈ Region.ready md ops listed := by rw [e]; exact List.mem_of_find?_eq_some hf
        obtain ⟨r, hri, hkr, hfree⟩ := eager_spec (eagerF_eager hrl (List.find?_some hf))
        unfold runT runI at hr
        rw [hri] at hr
        obtain ⟨u, hy, hr⟩ := YA_intro hkr hr
        exact SAll_first hri hkr hK f listed env h hdc hfree hmem hy (treeF_sound hK f _ _ t' _ _ hl (hrl.set (ready_lt hmem)) (hdc.set hmem) hr)
      · refine ⟨fun h0 => (by rw [h0] at e; cases e), fun j hj => ?_⟩
        have hj' := hj
        rw [e] at hj
        obtain ⟨tj, htj, hrj⟩ := altR_sound ho hr j hj
        exact runI_mono (fun env h hh => treeF_sound hK f _ _ tj env h htj (hrl.set (ready_lt hj')) (hdc.set hj') hh) hrj
end
end Go.Proofs.Ytdnefcjbcieecaa
namespace Go.Proofs.Ytdnefcjbcieecaa
open Go
section
variable {md : Region.Mode} {P : Program} {n sz : Nat}
theorem runK2_sound {d : Option Nat} {g : Option (Nat × Bool)} {op : RKind} {env : Env} {h : Heap} {K : Env → Heap → Prop} (hy : runK2 P n op (opnd env) h fun v h' => K (env.put d v) h') : runOp P n ⟨d, g, op⟩ env h K := by
  have h1 : runOps2 P n [⟨d, none, op⟩] env h K := by
    rw [runOps2_cons]
    unfold runG
    exact hy
  have h2 := runOps2_sound P n _ _ _ _ h1
  unfold runOps guardV at h2
  unfold runOp at h2 ⊢
  exact h2
theorem runK2_draw {op : RKind} {ρ : Operand → V} {h : Heap} {K : V → Heap → Prop} (hy : runK2 P n (drawK op) ρ h K) : runK2 P n op ρ h K := by
  cases op with
  | call f a => exact callV_mono hy (fun v h' hK => hK.2)
  | _ => exact hy
theorem compOps_get {own : List Nat} {ops : Array Oper} : ∀ {os : List Oper} {rs : List ROp}, compOps P own sz ops os = some rs → rs.length = os.length ∧ ∀ (i : Nat) o, os[i]? = some o → ∃ r, rs[i]? = some r ∧ compROp P own sz ops o = some r
  | [], rs, h => by cases h; exact ⟨rfl, fun i o h => by simp at h⟩
  | o :: os, rs, h => by
    unfold compOps at h
    split at h
    · rename_i r rs' h1 h2
      cases h
      obtain ⟨hl, hg⟩ := compOps_get h2
      refine ⟨by simp [hl], fun i o' ho => ?_⟩
      cases i with
      | zero => simp at ho; subst ho; exact ⟨r, rfl, h1⟩
      | succ i => simpa using hg i o' (by simpa using ho)
    · cases h
theorem drawOps_get {ops : Array Oper} : ∀ (rs : List ROp) (k i : Nat) (r : ROp), rs[i]? = some r → ∃ q, (drawOps md ops rs k)[i]? = some q ∧ (q = r ∨ q = drawOp r)
  | [], _, _, _, h => by simp at h
  | x :: rs, k, 0, r, h => by
    simp only [List.getElem?_cons_zero, Option.some.injEq] at h
    subst h
    refine ⟨_, rfl, ?_⟩
    split
    · exact .inl rfl
    · exact .inr rfl
  | x :: rs, k, i + 1, r, h => drawOps_get rs (k + 1) i r (by simpa using h)
theorem SAll_sound {ro : Option Nat} {own : List Nat} {ops : Array Oper} {rs : List ROp} {K : Env → Heap → Prop} {Q : Exit → Act → World → Prop} (hc : compOps P own sz ops ops.toList = some rs) :
    ∀ (f : Nat) (listed : Array Bool) (M : Mem) (h : Heap) (w : World) (a : Act) (env : Env), M.cc = ccP P → Sim M h w → n ≤ h.length → RepE sz M env a → SAll md P n ops (drawOps md ops rs 0) K f listed env h →
      (∀ a' w', Nxt n sz M h w K a' w' → Q .normal a' w') → wpAnyIn (fw ro) 0 P md ops Q f listed a w
  | 0, listed, M, h, w, a, env, hm, hs, hn, hE, hr, hQ => ⟨hr.1, hQ _ _ ⟨M, env, h, .refl hs hn, hE, hr.2⟩⟩
  | f + 1, listed, M, h, w, a, env, hm, hs, hn, hE, hr, hQ => by
    refine ⟨fun h0 => hQ _ _ ⟨M, env, h, .refl hs hn, hE, hr.1 h0⟩, fun i hi => ?_⟩
    have hr := hr.2 i hi
    obtain ⟨_, o, ho, _⟩ := mem_ready.1 hi
    obtain ⟨r, hri, hcr⟩ := (compOps_get hc).2 i o (by simpa using ho)
    obtain ⟨ow, c, g, hcomp, rfl, hd, hg⟩ := compROp_spec hcr
    obtain ⟨q, hrd, hq⟩ := drawOps_get (md := md) (ops := ops) rs 0 i _ hri
    unfold runI at hr
    rw [hrd] at hr
    unfold wpOpIn
    simp only [ho]
    have hr : guardV env g (runK2 P n c (opnd env) h fun v h' => SAll md P n ops (drawOps md ops rs 0) K f (listed.setIfInBounds i true) (env.put o.dst v) h') (SAll md P n ops (drawOps md ops rs 0) K f (listed.setIfInBounds i true) (env.put o.dst (.tup [])) h) := by
      rcases hq with rfl | rfl
      · exact hr
      · unfold runG drawOp at hr
        exact guardV_imp hr runK2_draw id
    rcases guard_sound hE hg hr with ⟨hw, hy⟩ | ⟨hw, hy⟩
    · rw [if_pos hw]
      refine Oper.wpIn_mono (fun a' w' hx => ?_) (op_sound (n := n) (g := g) hcomp hd hm hs hn hE (runK2_sound (g := g) hy))
      obtain ⟨M', env', h', hp, hE', hr'⟩ := hx
      exact SAll_sound hc f _ M' h' w' a' env' (hp.dc.2.trans hm) hp.sim hp.len hE' hr' (fun a2 w2 hx => hQ _ _ (Nxt.trans hp hx))
    · rw [if_neg (by simp [hw])]
      exact ⟨fun _ _ => trivial, SAll_sound hc f _ M h w _ _ hm hs hn (RepE.put hd hE (.tup [] [] rfl (fun k v c hv => by simp at hv))) hy hQ⟩
theorem draw_sound {ro : Option Nat} {id : Nat} {own : List Nat} {ops : Array Oper} {rs : List ROp} {t : OT} {K : Env → Heap → Prop} {Q : Exit → Act → World → Prop} {M : Mem} {h : Heap} {w : World} {a : Act} {env : Env}
    (hdep : P.follows .mixedOrders = true) (hrs : compOps P own sz ops ops.toList = some rs) (hc : compTree .any (drawOps .any ops rs 0) ops = some t) (hK : ∀ e e' h, (∀ k, e.get k = e'.get k) → K e h → K e' h)
    (hm : M.cc = ccP P) (hs : Sim M h w) (hn : n ≤ h.length) (hE : RepE sz M env a) (hr : runT P n (drawOps .any ops rs 0) K t env h)
    (hQ : ∀ a' w', Nxt n sz M h w K a' w' → Q .normal a' w') : (Code.region id ops true).wpIn (fw ro) 0 P Q a w := by
  refine wpIn_region_any hdep ?_
  have hp := Post.of_heap (w' := { w with drawn := w.drawn + 1 }) hs hn rfl rfl rfl rfl
  have hdc : DC .any ops (Array.replicate ops.size false) := fun j hj => by
    exfalso
    rcases Nat.lt_or_ge j ops.size with h' | h' <;> simp [h', Array.getElem?_replicate] at hj
  have hrl : Rl ops (Array.replicate ops.size false) 0 := ⟨by simp, fun j => by
    rcases Nat.lt_or_ge j ops.size with h' | h' <;> simp [h', Array.getElem?_replicate]⟩
  exact SAll_sound hrs ops.size _ M h _ a env hm hp.sim hn hE (treeF_sound hK ops.size 0 _ t env h hc hrl hdc hr)
    (fun a' w' hx => hQ _ _ (Nxt.trans hp hx))
end
end Go.Proofs.Ytdnefcjbcieecaa
namespace Go.Proofs.Ytdnefcjbcieecaa
open Go
def fz1 (id g : Nat) (ds : List D) : V → V
  | .own i g' len => if i = id ∧ g' = g then .d (.sl false len ds) else .own i g' len
  | .ptr i g' off => if i = id ∧ g' = g then .rptr ds off else .ptr i g' off
  | v => v
def fz2 (id g : Nat) (ds : List D) : V → V
  | .agg cs => .agg (cs.map (fz1 id g ds))
  | .fn f a c => .fn f (a.map (fz1 id g ds)) (c.map (fz1 id g ds))
  | v => fz1 id g ds v
def fzV (id g : Nat) (ds : List D) : V → V
  | .tup cs => .tup (cs.map (fz2 id g ds))
  | v => fz2 id g ds v
def fzE (id g : Nat) (ds : List D) (env : Env) : Env := env.map fun p => (p.1, fzV id g ds p.2)
def fzB (id g : Nat) (ds : List D) : Option Blk → Option Blk
  | some (.box cs) => some (.box (cs.map (fz1 id g ds)))
  | some (.loop L) => some (.loop { L with env := fzE id g ds L.env })
  | b => b
def blkDs : Option Blk → Option (Nat × List D)
  | some (.box cs) => (toDs cs).map fun ds => (0, ds)
  | some (.row _ _ g ds) => some (g, ds)
  | _ => none
def fzH (id g : Nat) (ds : List D) (h : Heap) : Heap := (h.map (fzB id g ds)).set id none
section
variable {M M2 : Mem} {id g : Nat} {ds : List D} {r : Ref}
structure Fz (M M2 : Mem) (id g : Nat) (ds : List D) (r : Ref) : Prop where
  ro : ∀ b o v, M.ro b o = some v → M2.ro b o = some v
  mu : M2.mu = M.mu
  df : M2.df = M.df
  cc : M2.cc = M.cc
  at' : M.mu id = some r
  gen : r.gen = g
  cells : ds = [] ∨ ∃ (b : Nat) (vals : Nat → Value), r.blk = some b ∧ (∀ k, k < ds.length → M2.ro b k = some (vals k)) ∧ ∀ (k : Nat) c, ds[k]? = some c → RepD M2.ro c (vals k)
theorem Fz.le (z : Fz M M2 id g ds r) : MuLe M M2 := fun i r h => ⟨r, by rw [z.mu]; exact h, Nat.le_refl _, fun _ => rfl⟩
theorem Fz.mono (z : Fz M M2 id g ds r) {v : V} {c : Value} (h : RepV M v c) : RepV M2 v c := h.mono z.ro z.le
theorem Fz.one (z : Fz M M2 id g ds r) {v : V} {c : Value} (h : RepV M v c) : RepV M2 (fz1 id g ds v) c := by
  unfold fz1
  split
  · rename_i i g' len
    split
    · rename_i e
      obtain ⟨rfl, rfl⟩ := e
      obtain ⟨r', ao, cap, h1, h2, rfl, h3, h4, h5⟩ := h.ownI
      rw [z.at'] at h1
      cases h1
      obtain ⟨h6, h7⟩ := h5 z.gen
      refine .d _ _ ?_
      rcases z.cells with rfl | ⟨b, vals, hb, hro, hrep⟩
      · exact .sl false len cap [] ao 0 0 (fun _ => undef) h3 h4 (fun e => by cases e) (.inl rfl) (fun k hk => by simp at hk) (fun k c hk => by simp at hk)
      · exact .sl false len cap ds ao b 0 vals h3 h4 (fun e => by cases e) (.inr (by rw [h6, hb]; rfl)) (fun k hk => by simpa using hro k hk) hrep
    · exact z.mono h
  · rename_i i g' off
    split
    · rename_i e
      obtain ⟨rfl, rfl⟩ := e
      obtain ⟨r', b, h1, h2, rfl, h3⟩ := h.ptrI
      rw [z.at'] at h1
      cases h1
      have hb := h3 z.gen
      rcases z.cells with rfl | ⟨b', vals, hb', hro, hrep⟩
      · have := RepV.rptr (M := M2) [] off b 0 (fun _ => undef) (fun k hk => by simp at hk) (fun k c hk => by simp at hk)
        simpa using this
      · rw [hb] at hb'
        cases hb'
        have := RepV.rptr (M := M2) ds off b 0 vals (fun k hk => by simpa using hro k hk) hrep
        simpa using this
    · exact z.mono h
  · exact z.mono h
theorem Fz.list (z : Fz M M2 id g ds r) {f : V → V} (hf : ∀ v c, RepV M v c → RepV M2 (f v) c) {cs : List V} {arr : List Value} (h : ∀ (k : Nat) v c, cs[k]? = some v → arr[k]? = some c → RepV M v c) :
    ∀ (k : Nat) v c, (cs.map f)[k]? = some v → arr[k]? = some c → RepV M2 v c := by
  intro k v c hv hc
  rw [List.getElem?_map] at hv
  cases hk : cs[k]? with
  | none => rw [hk] at hv; cases hv
  | some x => rw [hk] at hv; cases hv; exact hf _ _ (h k x c hk hc)
theorem Fz.two (z : Fz M M2 id g ds r) {v : V} {c : Value} (h : RepV M v c) : RepV M2 (fz2 id g ds v) c := by
  unfold fz2
  split
  · rename_i cs
    cases h with | agg _ arr hl h h1 => exact .agg _ arr (by simpa using hl) (z.list (fun _ _ => z.one) h) h1
  · rename_i f a cs
    cases h with | fn _ _ _ a1 a2 l1 l2 h1 h2 => exact .fn _ _ _ a1 a2 (by simpa using l1) (by simpa using l2) (z.list (fun _ _ => z.one) h1) (z.list (fun _ _ => z.one) h2)
  · exact z.one h
theorem Fz.rep (z : Fz M M2 id g ds r) {v : V} {c : Value} (h : RepV M v c) : RepV M2 (fzV id g ds v) c := by
  unfold fzV
  split
  · rename_i cs
    cases h with | tup _ arr hl h => exact .tup _ arr (by simpa using hl) (z.list (fun _ _ => z.two) h)
  · exact z.two h
theorem fzE_get (id g : Nat) (ds : List D) (k : Nat) : ∀ env : Env, (fzE id g ds env).get k = fzV id g ds (env.get k)
  | [] => rfl
  | p :: env => by
    have ih := fzE_get id g ds k env
    unfold fzE at *
    simp only [List.map_cons, Env.get]
    split
    · rfl
    · exact ih
theorem Fz.env (z : Fz M M2 id g ds r) {sz : Nat} {env : Env} {a : Act} (h : RepE sz M env a) : RepE sz M2 (fzE id g ds env) a := by
  refine ⟨h.1, h.2.1.mono (fun b hb => z.df ▸ hb), fun k => ?_⟩
  rw [fzE_get]
  exact z.rep (h.2.2 k)
end
theorem fzH_get {id g : Nat} {ds : List D} {h : Heap} {i : Nat} {blk : Blk} (hi : (fzH id g ds h)[i]? = some (some blk)) : i ≠ id ∧ ∃ b0, h[i]? = some (some b0) ∧ fzB id g ds (some b0) = some blk := by
  unfold fzH at hi
  by_cases e : i = id
  · subst e
    rw [List.getElem?_set] at hi
    split at hi
    · split at hi <;> cases hi
    · rename_i hne; exact absurd rfl hne
  · refine ⟨e, ?_⟩
    rw [List.getElem?_set_ne (Ne.symm e), List.getElem?_map] at hi
    cases hb : h[i]? with
    | none => rw [hb] at hi; cases hi
    | some b =>
      rw [hb] at hi
      simp only [Option.map_some, Option.some.injEq] at hi
      cases b with
      | none => cases hi
      | some b0 => exact ⟨b0, rfl, hi⟩
theorem blk_facts {M : Mem} {h : Heap} {w : World} {id g : Nat} {ds : List D} {b : Option Blk} (hs : Sim M h w) (hb : h[id]? = some b) (hd : blkDs b = some (g, ds)) :
    ∃ r, M.mu id = some r ∧ r.gen = g ∧ (ds = [] ∨ ∃ (bb : Nat) (arr : Array Value) (T : TypeId), r.blk = some bb ∧ w.heap[bb]? = some (.cells arr T (0, 0)) ∧ RepDs M ds (arr.toList.take ds.length) ∧ ds.length ≤ arr.size) := by
  cases b with
  | none => cases hd
  | some blk =>
    obtain ⟨r, hr, hat⟩ := hs.blks id blk hb
    cases blk with
    | box cs =>
      obtain ⟨ds', hds, he⟩ := map_some' hd
      cases he
      obtain ⟨h0, bb, arr, T, h1, h2, h3, h4⟩ := hat
      have hrep := toDs_rep h3 hds
      have hl : ds.length = arr.toList.length := hrep.1
      refine ⟨r, hr, h0, .inr ⟨bb, arr, T, h1, h2, ?_, by simpa using Nat.le_of_eq hl⟩⟩
      rw [hl, List.take_length]
      exact hrep
    | row e sz g' cs =>
      cases hd
      refine ⟨r, hr, hat.1, ?_⟩
      rcases hat.2 with ⟨h1, _⟩ | ⟨bb, arr, h1, h2, h3, h4, h5, h6⟩
      · exact .inl h1
      · exact .inr ⟨bb, arr, e, h1, h2, h6, h5⟩
    | obj p => cases hd
    | map es => cases hd
    | loop L => cases hd
theorem freeze_sim {M : Mem} {h : Heap} {w : World} {id g : Nat} {ds : List D} {b : Option Blk} (hs : Sim M h w) (hb : h[id]? = some b) (hd : blkDs b = some (g, ds)) :
    ∃ M2 r, Fz M M2 id g ds r ∧ Sim M2 (fzH id g ds h) w ∧ ∀ b o v, M2.ro b o = some v → M.ro b o = some v ∨ liveBlk M h b := by
  obtain ⟨r, hr, hg, hc⟩ := blk_facts hs hb hd
  have hblk : ∃ blk, b = some blk := by
    cases b with
    | none => cases hd
    | some blk => exact ⟨blk, rfl⟩
  obtain ⟨blk, rfl⟩ := hblk
  have hM : ∃ M2 : Mem, Fz M M2 id g ds r ∧ ∀ bb o v, M2.ro bb o = some v → (M.ro bb o = some v ∨ (r.blk = some bb ∧ w.cell? ⟨bb, o, none⟩ = some v)) := by
    rcases hc with rfl | ⟨bb, arr, T, h1, h2, h3, h4⟩
    · exact ⟨M, ⟨fun _ _ _ h => h, rfl, rfl, rfl, hr, hg, .inl rfl⟩, fun bb o v h => .inl h⟩
    · have hlive : liveBlk M h bb := ⟨id, blk, r, hb, hr, h1⟩
      have hmono : ∀ b o v, M.ro b o = some v → (if b = bb ∧ o < ds.length then arr[o]? else M.ro b o) = some v := by
        intro b o v hv
        rw [if_neg]
        · exact hv
        · rintro ⟨rfl, _⟩; exact (hs.ro _ _ _ hv).2 hlive
      refine ⟨{ M with ro := fun b o => if b = bb ∧ o < ds.length then arr[o]? else M.ro b o }, ⟨hmono, rfl, rfl, rfl, hr, hg, .inr ⟨bb, fun k => arr.getD k undef, h1, fun k hk => ?_, fun k c hk => ?_⟩⟩, fun b o v hv => ?_⟩
      · have : k < arr.size := by omega
        simp [hk, this]
      · have hk' : k < ds.length := (List.getElem?_eq_some_iff.1 hk).1
        have hka : k < arr.size := by omega
        have := h3.2 k c (arr.getD k undef) hk (by simp [List.getElem?_take, hk', hka])
        exact this.mono hmono
      · simp only at hv
        split at hv
        · rename_i e
          obtain ⟨rfl, _⟩ := e
          exact .inr ⟨h1, by simp [World.cell?, h2, hv]⟩
        · exact .inl hv
  obtain ⟨M2, z, hro⟩ := hM
  refine ⟨M2, r, z, ?_, fun bb o v hv => (hro bb o v hv).imp_right fun hx => ⟨id, blk, r, hb, hr, hx.1⟩⟩
  have hlive : ∀ bb, liveBlk M2 (fzH id g ds h) bb → liveBlk M h bb ∧ r.blk ≠ some bb := by
    rintro bb ⟨i, blk', r', hi, hr', hb'⟩
    obtain ⟨hne, b0, hi0, _⟩ := fzH_get hi
    rw [z.mu] at hr'
    refine ⟨⟨i, b0, r', hi0, hr', hb'⟩, fun e => hne ?_⟩
    exact hs.inj i id b0 blk r' r bb hi0 hb hr' hr hb' e
  refine ⟨fun i blk' hi => ?_, fun i j bi bj ri rj bb hi hj hri hrj => ?_, fun bb o v hv => ?_, fun i hi => ?_, fun bb hbb => ?_⟩
  · obtain ⟨hne, b0, hi0, hfz⟩ := fzH_get hi
    obtain ⟨ri, hri, hat⟩ := hs.blks i b0 hi0
    refine ⟨ri, by rw [z.mu]; exact hri, ?_⟩
    cases b0 with
    | box cs =>
      cases hfz
      obtain ⟨h0, bb, arr, T, h1, h2, h3, h4⟩ := hat
      exact ⟨h0, bb, arr, T, h1, h2, ⟨by simpa using h3.1, z.list (fun _ _ => z.one) h3.2⟩, h4⟩
    | row e sz g' cs => cases hfz; exact BlkAt.of_same z.cc z.ro (fun _ _ => z.mono) (fun _ _ => rfl) hat
    | obj p => cases hfz; exact BlkAt.of_same z.cc z.ro (fun _ _ => z.mono) (fun _ _ => rfl) hat
    | map es => cases hfz; exact BlkAt.of_same z.cc z.ro (fun _ _ => z.mono) (fun _ _ => rfl) hat
    | loop L =>
      cases hfz
      obtain ⟨h0, bb, rec, h1, h2, h3⟩ := hat
      obtain ⟨k1, k2, k3, k4, k5, k6, k7⟩ := h3
      exact ⟨h0, bb, rec, h1, h2, k1, k2, k3, z.cc ▸ k4, z.cc ▸ k5, k6, fun k => by
        show RepV M2 (Env.get (fzE id g ds L.env) k) _
        rw [fzE_get]; exact z.rep (k7 k)⟩
  · obtain ⟨_, bi', hi', _⟩ := fzH_get hi
    obtain ⟨_, bj', hj', _⟩ := fzH_get hj
    rw [z.mu] at hri hrj
    exact hs.inj i j bi' bj' ri rj bb hi' hj' hri hrj
  · refine ⟨?_, fun hl => ?_⟩
    · rcases hro bb o v hv with h1 | h1
      · exact (hs.ro bb o v h1).1
      · exact h1.2
    · obtain ⟨hl1, hl2⟩ := hlive bb hl
      rcases hro bb o v hv with h1 | h1
      · exact (hs.ro bb o v h1).2 hl1
      · exact hl2 h1.1
  · rw [z.mu]
    exact hs.dom i (by simpa [fzH] using hi)
  · rw [z.df] at hbb
    exact ⟨(hs.df bb hbb).1, fun hl => (hs.df bb hbb).2 (hlive bb hl).1⟩
theorem freeze_post {n : Nat} {M M1 M2 : Mem} {h h1 : Heap} {w w1 : World} {id g : Nat} {ds : List D} {r : Ref} (p : Post n M h w M1 h1 w1) (z : Fz M1 M2 id g ds r) (hs : Sim M2 (fzH id g ds h1) w1)
    (hnw : ∀ b o v, M2.ro b o = some v → M1.ro b o = some v ∨ liveBlk M1 h1 b) : Post n M h w M2 (fzH id g ds h1) w1 :=
  ⟨fun b o v hv => z.ro _ _ _ (p.ro b o v hv), ⟨⟨fun k hk => z.df ▸ p.dc.1.1 k hk, fun k hk h => p.dc.1.2.1 k hk (z.df ▸ h),
    fun k o v hk h => (hnw k o v h).elim (p.dc.1.2.2 k o v hk) fun hl => .inr (p.live k hk hl)⟩, z.cc.trans p.dc.2⟩, p.le.trans z.le, by have := p.len; simpa [fzH] using this, hs, p.os, p.tape, p.output, p.size, p.keep, fun b hb hl => by
    obtain ⟨i, blk, r', hi, hr, hb'⟩ := hl
    obtain ⟨_, b0, hi0, _⟩ := fzH_get hi
    rw [z.mu] at hr
    exact p.live b hb ⟨i, b0, r', hi0, hr, hb'⟩⟩
def frzV (env : Env) (h : Heap) : Nat × Option Nat → V
  | (t, none) => env.get t
  | (t, some off) => match env.get t with
    | .ptr id g o => (h.cell id g (o + off)).getD .any
    | _ => .any
def frzB (h : Heap) : V → Option (Nat × Nat × List D)
  | .own id g _ => match (h[id]?).bind blkDs with
    | some (g', ds) => if g = g' then some (id, g, ds) else none
    | none => none
  | .ptr id g _ => match (h[id]?).bind blkDs with
    | some (g', ds) => if g = g' then some (id, g, ds) else none
    | none => none
  | _ => none
theorem frzB_spec {h : Heap} {v : V} {id g : Nat} {ds : List D} (hf : frzB h v = some (id, g, ds)) : ∃ b, h[id]? = some b ∧ blkDs b = some (g, ds) := by
  have key : ∀ (i g0 : Nat), (match (h[i]?).bind blkDs with
      | some (g', ds) => if g0 = g' then some (i, g0, ds) else none
      | none => none) = some (id, g, ds) → ∃ b, h[id]? = some b ∧ blkDs b = some (g, ds) := by
    intro i g0 hh
    split at hh
    · rename_i g' ds' e
      split at hh
      · rename_i hg
        cases hh
        subst hg
        obtain ⟨b, h1, h2⟩ := bind_some' e
        exact ⟨b, h1, h2⟩
      · cases hh
    · cases hh
  unfold frzB at hf
  split at hf
  · exact key _ _ hf
  · exact key _ _ hf
  · cases hf
end Go.Proofs.Ytdnefcjbcieecaa
namespace Go.Proofs.Ytdnefcjbcieecaa
open Go
section
variable {n : Nat} {M : Mem} {h : Heap} {w : World}
def Mem.addDf (M : Mem) (D : Nat) : Mem := { M with df := fun b => M.df b ∨ b = D }
theorem addDf_post (hs : Sim M h w) (hn : n ≤ h.length) : Post n M h w (M.addDf w.heap.size) h (w.alloc (.deferred (some []))) := by
  have hold : ∀ k, k < w.heap.size → (w.alloc (.deferred (some []))).heap[k]? = w.heap[k]? := fun k hk => by
    show (w.heap.push _)[k]? = _
    rw [Array.getElem?_push]; simp [Nat.ne_of_lt hk]
  have hmono : ∀ x v, RepV M x v → RepV (M.addDf w.heap.size) x v := fun x v hx => RepV.mono (M := M) (M' := M.addDf w.heap.size) (fun _ _ _ h => h) (fun i r h => ⟨r, h, Nat.le_refl _, fun _ => rfl⟩) hx
  refine ⟨fun _ _ _ h => h, ⟨⟨fun b hb => .inl hb, fun b hb h => h.resolve_right (by omega), fun _ _ _ _ h => .inl h⟩, rfl⟩, MuLe.refl M, hn, ⟨?_, hs.inj, ?_, hs.dom, ?_⟩, rfl, rfl, rfl, by simp, fun k hk _ => hold k hk, fun _ _ hl => hl⟩
  · intro i blk hi
    obtain ⟨r, hr, hat⟩ := hs.blks i blk hi
    exact ⟨r, hr, BlkAt.of_same (M := M) (w := w) rfl (fun _ _ _ h => h) hmono (fun k hk => hold k (hs.live_lt ⟨i, blk, r, hi, hr, hk⟩)) hat⟩
  · intro b o v hv
    obtain ⟨hc, hnl⟩ := hs.ro b o v hv
    exact ⟨by rw [World.cell?_of_block (w := w) (hold b (ro_lt hs hv))]; exact hc, hnl⟩
  · intro b hb
    rcases hb with hb | rfl
    · obtain ⟨hc, hnl⟩ := hs.df b hb
      exact ⟨by rw [hold b (Array.getElem?_eq_some_iff.1 hc).1]; exact hc, hnl⟩
    · exact ⟨World.alloc_heap_new w _, fun hl => absurd (hs.live_lt hl) (Nat.lt_irrefl _)⟩
theorem Sim.loopAt (hs : Sim M h w) {id l : Nat} {L : LoopB} (hi : h[id]? = some (some (.loop L))) (hv : RepV M (.yl id) (.func (.yield l) #[] #[])) :
    ∃ rec r, M.mu id = some r ∧ r.blk = some l ∧ w.heap[l]? = some (.loop rec) ∧ LoopAt M L rec ∧ r.gen = 0 := by
  obtain ⟨r, hr, h0, b, rec, hb, hw, hl⟩ := hs.blks id _ hi
  cases hv with
  | yl _ r' _ h1 h2 =>
    rw [hr] at h1; cases h1
    rw [h2 h0] at hb; cases hb
    exact ⟨rec, r, hr, h2 h0, hw, hl, h0⟩
theorem put_loop (hs : Sim M h w) (hn : n ≤ h.length) {id l : Nat} {L L' : LoopB} {rec rec' : Loop} {r : Ref} (hi : h[id]? = some (some (.loop L))) (hr : M.mu id = some r) (hb : r.blk = some l) (h0 : r.gen = 0)
    (hw : w.heap[l]? = some (.loop rec)) (hat : LoopAt M L' rec') : Post n M h w M (h.set id (some (.loop L'))) (w.putObj l (.loop rec')) := by
  have hlt := (Array.getElem?_eq_some_iff.1 hw).1
  refine upd_block hs hn hi hr hb (by simp) (fun k hk => World.putObj_heap_other hk) rfl rfl rfl ⟨h0, l, rec', hb, World.putObj_heap_same hlt, hat⟩
theorem drop_block (hs : Sim M h w) (hn : n ≤ h.length) {id l : Nat} {blk : Blk} {o : Obj} {r : Ref} (hi : h[id]? = some (some blk)) (hr : M.mu id = some r) (hb : r.blk = some l) :
    Post n M h w M (h.set id none) (w.putObj l o) := by
  have hlt : id < h.length := (List.getElem?_eq_some_iff.1 hi).1
  have hpre : ∀ (j : Nat) x, (h.set id none)[j]? = some (some x) → j ≠ id ∧ h[j]? = some (some x) := fun j x hx => by
    by_cases hj : j = id
    · subst hj; rw [List.getElem?_set_self hlt] at hx; cases hx
    · exact ⟨hj, by rwa [List.getElem?_set_ne (Ne.symm hj)] at hx⟩
  have hlive : ∀ k, liveBlk M (h.set id none) k → liveBlk M h k ∧ k ≠ l := by
    rintro k ⟨i, blk2, r2, hi2, hr2, hb2⟩
    obtain ⟨hne, hi3⟩ := hpre i _ hi2
    exact ⟨⟨i, blk2, r2, hi3, hr2, hb2⟩, by rintro rfl; exact hne (hs.inj i id _ _ _ _ _ hi3 hi hr2 hr hb2 hb)⟩
  have hbl : liveBlk M h l := ⟨id, blk, r, hi, hr, hb⟩
  have hoth : ∀ k, k ≠ l → (w.putObj l o).heap[k]? = w.heap[k]? := fun k hk => World.putObj_heap_other hk
  refine ⟨fun _ _ _ h => h, ⟨⟨fun _ h => h, fun _ _ h => h, fun _ _ _ _ h => .inl h⟩, rfl⟩, MuLe.refl M, by simpa using hn, ⟨?_, ?_, ?_, ?_, ?_⟩, rfl, rfl, rfl, by simp, fun k hk hnl => hoth k (by rintro rfl; exact hnl hbl), fun k _ hk => (hlive k hk).1⟩
  · intro i blk2 hi2
    obtain ⟨hne, hi3⟩ := hpre i _ hi2
    obtain ⟨r2, hr2, hat2⟩ := hs.blks i blk2 hi3
    refine ⟨r2, hr2, BlkAt.of_same rfl (fun _ _ _ h => h) (fun _ _ h => h) (fun k hk => hoth k ?_) hat2⟩
    rintro rfl
    exact hne (hs.inj i id _ _ _ _ _ hi3 hi hr2 hr hk hb)
  · intro i j bi bj ri rj k hi2 hj2
    exact hs.inj i j bi bj ri rj k (hpre i _ hi2).2 (hpre j _ hj2).2
  · intro k p v hv
    obtain ⟨hc, hnl⟩ := hs.ro k p v hv
    exact ⟨by rw [World.cell?_of_block (w := w) (hoth k (by rintro rfl; exact hnl hbl))]; exact hc, fun hl => hnl (hlive k hl).1⟩
  · intro i hi2
    exact hs.dom i (by simpa using hi2)
  · intro k hk
    obtain ⟨hc, hnl⟩ := hs.df k hk
    exact ⟨by rw [hoth k (by rintro rfl; exact hnl hbl)]; exact hc, fun hl => hnl (hlive k hl).1⟩
def Mem.remDf (M : Mem) (D : Nat) : Mem := { M with df := fun b => M.df b ∧ b ≠ D }
theorem take_sim (hs : Sim M h w) {D : Nat} (hD : M.df D) : Sim (M.remDf D) h (w.putObj D (.deferred none)) := by
  obtain ⟨hc, hnl⟩ := hs.df D hD
  have hlt := (Array.getElem?_eq_some_iff.1 hc).1
  have hoth : ∀ k, k ≠ D → (w.putObj D (.deferred none)).heap[k]? = w.heap[k]? := fun k hk => World.putObj_heap_other hk
  refine ⟨?_, hs.inj, ?_, hs.dom, ?_⟩
  · intro i blk hi
    obtain ⟨r, hr, hat⟩ := hs.blks i blk hi
    exact ⟨r, hr, BlkAt.of_same (M := M) (w := w) rfl (fun _ _ _ h => h) (fun x v hx => RepV.mono (M := M) (M' := M.remDf D) (fun _ _ _ h => h) (fun i r h => ⟨r, h, Nat.le_refl _, fun _ => rfl⟩) hx) (fun k hk => hoth k (by rintro rfl; exact hnl ⟨i, blk, r, hi, hr, hk⟩)) hat⟩
  · intro b o v hv
    obtain ⟨hc2, hnl2⟩ := hs.ro b o v hv
    have hne : b ≠ D := by
      rintro rfl
      simp [World.cell?, hc] at hc2
    exact ⟨by rw [World.cell?_of_block (w := w) (hoth b hne)]; exact hc2, hnl2⟩
  · intro b hb
    obtain ⟨hc2, hnl2⟩ := hs.df b hb.1
    exact ⟨by rw [hoth b hb.2]; exact hc2, hnl2⟩
end
end Go.Proofs.Ytdnefcjbcieecaa
namespace Go.Proofs.Ytdnefcjbcieecaa
open Go
def LoopP (P : Program) (G : Cfg) (n : Nat) (c : CCode) (Q : CExit → Env → Heap → Prop) (env : Env) (h : Heap) : Prop :=
  ∀ g, compC P G g = some c → AWp P n G.sz (.loop g) Q env h
def callF (P : Program) (f : V) (args : List V) (h : Heap) (K : V → Heap → Prop) : Prop :=
  match f with
  | .d (.fn (.func g)) => ACalls P g args h K
  | .fn (.func g) first caps => ACalls P g (first ++ args ++ caps) h K
  | _ => False
def doneR (id : Nat) (env : Env) (h : Heap) (Q : CExit → Env → Heap → Prop) : Prop :=
  match h[id]? with
  | some (some (.loop L)) => L.st ≠ .busy ∧ Q (L.pend.getD .normal) env (h.set id none)
  | _ => False
def wpc (P : Program) (G : Cfg) (n : Nat) : CCode → (CExit → Env → Heap → Prop) → Env → Heap → Prop
  | .skip, Q => Q .normal
  | .region ops live, Q => fun env h => runOps2 P n ops env h fun env' h' => Q .normal (env'.keep live) h'
  | .frz x, Q => fun env h => match frzB h (frzV env h x) with
    | some (id, g, ds) => Q .normal (fzE id g ds env) (fzH id g ds h)
    | none => Q .normal env h
  | .both a b, Q => fun env h => wpc P G n a Q env h ∧ wpc P G n b Q env h
  | .seq a b, Q => wpc P G n a fun e env h => match e with
    | .normal => wpc P G n b Q env h
    | .exit id => Q (.exit id) env h
    | .ret => Q .ret env h
  | .cond c a b, Q => fun env h => brV (opnd env c) (wpc P G n a Q env h) (wpc P G n b Q env h)
  | .block id c, Q => wpc P G n c fun e env h => match e with
    | .normal => Q .normal env h
    | .exit i => if i = id then Q .normal env h else Q (.exit i) env h
    | .ret => Q .ret env h
  | .loop c, Q => LoopP P G n c Q
  | .rangeF g ps ca cb, Q => fun env h => callF P (opnd env g) [.yl h.length] (h ++ [some (.loop ⟨G, ca, cb, ps, env, .ready, none⟩)]) fun _ h' => doneR h.length env h' Q
  | .exit id, Q => Q (.exit id)
  | .ret, Q => Q .ret
section
variable {P : Program} {G : Cfg} {n : Nat}
theorem QQ.of_nxt {M : Mem} {h : Heap} {w : World} {Q : CExit → Env → Heap → Prop} {live : Option (List Nat)} {a' : Act} {w' : World}
    (hx : Nxt n G.sz M h w (fun env' h' => Q .normal (env'.keep live) h') a' w') : QQ n G.sz M h w Q .normal a' w' := by
  obtain ⟨M', env', h', hp, hE, hK⟩ := hx
  exact ⟨M', _, h', hp, hE.keep live, hK⟩
theorem QQ.trans {M M1 : Mem} {h h1 : Heap} {w w1 : World} {Q : CExit → Env → Heap → Prop} {e : Exit} {a : Act} {w' : World} (hp : Post n M h w M1 h1 w1) (hq : QQ n G.sz M1 h1 w1 Q e a w') : QQ n G.sz M h w Q e a w' := by
  obtain ⟨M', env', h', hp', hE, hK⟩ := hq
  exact ⟨M', env', h', hp.trans hp', hE, hK⟩
theorem runOps2_snoc (r : ROp) (K : Env → Heap → Prop) : ∀ (xs : List ROp) (env : Env) (h : Heap), runOps2 P n (xs ++ [r]) env h K → runOps2 P n xs env h fun env h => runG P n r K env h
  | [], env, h, hr => by
    rw [List.nil_append, runOps2_cons] at hr
    exact hr
  | x :: xs, env, h, hr => by
    rw [List.cons_append, runOps2_cons] at hr
    rw [runOps2_cons]
    exact runG_mono (fun env h hh => runOps2_snoc r K xs env h hh) hr
theorem runOps2_mono {K K' : Env → Heap → Prop} (hk : ∀ env h, K env h → K' env h) : ∀ (xs : List ROp) (env : Env) (h : Heap), runOps2 P n xs env h K → runOps2 P n xs env h K'
  | [], env, h, hr => hk _ _ hr
  | x :: xs, env, h, hr => by
    rw [runOps2_cons] at hr ⊢
    exact runG_mono (fun env h hh => runOps2_mono hk xs env h hh) hr
theorem treeC_sound' {rs : List ROp} {live : List Nat} {Q : CExit → Env → Heap → Prop} : ∀ (t : OT) (acc : List ROp) (c : CCode) (env : Env) (h : Heap), treeC rs live t acc = some c → wpc P G n c Q env h →
    runOps2 P n acc.reverse env h (runT P n rs (fun env h => Q .normal (env.keep (some live)) h) t)
  | .leaf, acc, c, env, h, hc, hk => by cases hc; exact hk
  | .node j t, acc, c, env, h, hc, hk => by
    unfold treeC at hc
    split at hc
    · rename_i r hr
      have h1 := treeC_sound' t (r :: acc) c env h hc hk
      rw [List.reverse_cons] at h1
      refine runOps2_mono (fun env h hh => ?_) _ _ _ (runOps2_snoc r _ _ _ _ h1)
      unfold runT runI
      rw [hr]
      exact hh
    · cases hc
  | .alt a b, acc, c, env, h, hc, hk => by
    unfold treeC at hc
    split at hc
    · rename_i x y hx hy
      cases hc
      refine runOps2_mono (fun env h hh => ?_) _ _ _ hk
      exact ⟨treeC_sound' a [] x env h hx hh.1, treeC_sound' b [] y env h hy hh.2⟩
    · cases hc
theorem treeC_sound {rs : List ROp} {live : List Nat} {Q : CExit → Env → Heap → Prop} {t : OT} {c : CCode} {env : Env} {h : Heap} (hc : treeC rs live t [] = some c) (hk : wpc P G n c Q env h) :
    runT P n rs (fun env h => Q .normal (env.keep (some live)) h) t env h := treeC_sound' t [] c env h hc hk
theorem compR_sound {id : Nat} {ops : Array Oper} {draw : Bool} {c : CCode} {Q : CExit → Env → Heap → Prop} {env : Env} {h : Heap} (hc : compR P G id ops draw = some c) (hk : wpc P G n c Q env h) : AWp P n G.sz (.region id ops draw) Q env h := by
  intro ro M w a _ hm hs hn hE
  cases draw with
  | false =>
    obtain ⟨rs, hr, rfl⟩ := map_some' hc
    refine wpIn_region ?_
    have := ops_sound (ro := ro) (P := P) (n := n) (sz := G.sz) (own := G.own) (ops := ops) (Q := QQ n G.sz M h w Q) (K := fun env' h' => Q .normal (env'.keep (some (lvOf G.lv id))) h') ops.toList rs 0 hr
      (fun j o hj => by simpa using hj) M h w a env hm hs hn hE (runOps2_sound P n rs env h _ hk) (fun a' w' hx => QQ.of_nxt hx)
    simpa [List.range_eq_range'] using this
  | true =>
    have hK : ∀ (e e' : Env) (h : Heap), (∀ k, e.get k = e'.get k) → Q .normal (e.keep (some (lvOf G.lv id))) h → Q .normal (e'.keep (some (lvOf G.lv id))) h := fun e e' h he hk => by
      have : e'.keep (some (lvOf G.lv id)) = e.keep (some (lvOf G.lv id)) := by rw [Env.keep_some, Env.keep_some]; exact List.map_congr_left fun k _ => by rw [he k]
      rw [this]; exact hk
    simp only [compR] at hc
    split at hc
    · cases hc
    · rename_i rs hrs
      split at hc
      · rename_i hdep
        split at hc
        · rename_i t ht
          have hk := treeC_sound hc hk
          exact draw_sound (K := fun env' h' => Q .normal (env'.keep (some (lvOf G.lv id))) h') hdep hrs ht hK hm hs hn hE hk (fun a' w' hx => QQ.of_nxt hx)
        · cases hc
      · cases hc
theorem wrapF_sound {g : Code} {Q : CExit → Env → Heap → Prop} {c : CCode} (hk : ∀ env h, wpc P G n c Q env h → AWp P n G.sz g Q env h) : ∀ (xs : List (Nat × Option Nat)) (env : Env) (h : Heap), wpc P G n (wrapF xs c) Q env h → AWp P n G.sz g Q env h
  | [], env, h, hw => hk env h hw
  | x :: xs, env, h, hw => by
    intro ro M w a hro hm hs hn hE
    simp only [wrapF, wpc] at hw
    split at hw
    · rename_i id g' ds e
      obtain ⟨b, hb, hd⟩ := frzB_spec e
      obtain ⟨M2, r, z, hs2, hnw⟩ := freeze_sim hs hb hd
      have hp := freeze_post (.refl hs hn) z hs2 hnw
      exact wpIn_mono (wrapF_sound hk xs _ _ hw ro M2 w a hro (z.cc.trans hm) hs2 hp.len (z.env hE)) (fun e a' w' hq => QQ.trans hp hq)
    · exact wrapF_sound hk xs env h hw ro M w a hro hm hs hn hE
theorem Post.cc {n : Nat} {M M' : Mem} {h h' : Heap} {w w' : World} (p : Post n M h w M' h' w') (hm : M.cc = ccP P) : M'.cc = ccP P := p.dc.2.trans hm
theorem rangeF_sound {f : Operand} {ps : Array Tmp} {ga gb : Code} {ca cb : CCode} {Q : CExit → Env → Heap → Prop} {env : Env} {h : Heap} (hra : hasRange ga = false) (hrb : hasRange gb = false)
    (ha : compC P G ga = some ca) (hb : compC P G gb = some cb) (hk : wpc P G n (.rangeF f ps.toList ca cb) Q env h) : AWp P n G.sz (.rangeFunc f ps ga gb) Q env h := by
  intro ro M w a hro hm hs hn hE
  obtain rfl := hro rfl
  refine wpIn_rangeFunc (fun fn _ => ?_)
  have hp1 := addDf_post (n := n) hs hn
  obtain ⟨rec, hrec⟩ : ∃ rec : Loop, rec = { state := .ready, pending := none, fn, tmps := a.tmps, params := ps, assign := ga, body := gb, defers := w.heap.size } := ⟨_, rfl⟩
  have hml : (M.addDf w.heap.size).mu h.length = none := hp1.sim.mu_len
  have hp2 : Post n (M.addDf w.heap.size) h (w.alloc (.deferred (some []))) ((M.addDf w.heap.size).setMu h.length ⟨some (w.alloc (.deferred (some []))).heap.size, 0, 0⟩)
      (h ++ [some (.loop ⟨G, ca, cb, ps.toList, env, .ready, none⟩)]) ((w.alloc (.deferred (some []))).alloc (.loop rec)) := by
    refine new_block (blk := .loop ⟨G, ca, cb, ps.toList, env, .ready, none⟩) (o := .loop rec) hp1.sim (by simp; omega) hml (by simp) (fun j x hj hx => ?_) (by simp) rfl rfl rfl rfl ?_
    · rcases Nat.lt_or_ge j h.length with hl | hl
      · rwa [List.getElem?_append_left hl] at hx
      · rw [List.getElem?_append_right hl] at hx
        cases hd : j - h.length with
        | zero => omega
        | succ m => rw [hd] at hx; simp at hx
    · refine ⟨rfl, _, rec, rfl, World.alloc_heap_new _ _, ?_⟩
      subst hrec
      refine ⟨rfl, rfl, by simp, ?_, ?_, hE.1, fun k => ?_⟩
      · show M.cc G ga ca
        rw [hm]; exact ⟨ha, hra⟩
      · show M.cc G gb cb
        rw [hm]; exact ⟨hb, hrb⟩
      · exact RepV.setMu (M := M.addDf w.heap.size) (fun r0 h => by rw [hml] at h; cases h) (hp1.rep (hE.2.2 k))
  have hp := hp1.trans hp2
  generalize hM1 : (M.addDf w.heap.size).setMu h.length ⟨some (w.alloc (.deferred (some []))).heap.size, 0, 0⟩ = M1 at hp hp2
  have hmu1 : M1.mu h.length = some ⟨some (w.heap.size + 1), 0, 0⟩ := by rw [← hM1, Mem.setMu_same, World.size_alloc]
  have hdf1 : M1.df w.heap.size := by rw [← hM1]; exact .inr rfl
  generalize hh1 : h ++ [some (Blk.loop ⟨G, ca, cb, ps.toList, env, .ready, none⟩)] = h1 at hp hp2
  generalize hw1 : ((w.alloc (.deferred (some []))).alloc (.loop rec)) = w1 at hp hp2
  have hE1 := hE.post hp
  have hyl : RepV M1 (.yl h.length) (.func (.yield (w.heap.size + 1)) #[] #[]) := .yl _ _ _ hmu1 (fun _ => rfl)
  have henter : (Instr.enterLoop fn a.tmps ps ga gb (fw none).round).run P w = .ok (w.heap.size + 1, [{ target := .collected w.heap.size, args := #[] }]) w1 := by
    rw [← hw1, hrec]; exact run_enterLoop_outer fn a.tmps ps ga gb
  have key : ∀ (gf : FuncId) (vs : List V) (first caps : List Value), ACalls P gf vs h1 (fun _ h' => doneR h.length env h' Q) → RepL M1 vs (first ++ [.func (.yield (w.heap.size + 1)) #[] #[]] ++ caps) →
      a.eval f = .func (.func gf) first.toArray caps.toArray →
      ∃ (l : Nat) (mark : List Deferred) (w₁ : World) (d : Deferred) (w₁' : World) (f' : FuncId) (args : Array Value) (w₂ : World),
      (Instr.enterLoop fn a.tmps ps ga gb (fw none).round).run P w = .ok (l, mark) w₁ ∧
      (resolve a.eval (rangeCall f l) 0).run P w₁ = .ok d w₁' ∧
      (∀ f', Target.leads P w₁' d.target d.args = some f' → (fw none).fn f') ∧
      (invoke d.target d.args).run P w₁' = .ok (.enter f' args) w₂ ∧
      ((fw none).depth.isSome = true → 1 ≤ 0) ∧
      CallsIn (fw none) (0 - 1) P f' args w₂ (rangePost (fw none) 0 P l (QQ n G.sz M h w Q) { a with defers := mark ++ a.defers }) := by
    intro gf vs first caps hc hr hev
    obtain ⟨fn', hf1, hf2, hf3⟩ := hc.1
    have h2' : fn'.name ≠ "runtime.NumGoroutine" := by simpa using hf2
    have h3' : fn'.body ≠ none := by intro e; rw [e] at hf3; cases hf3
    refine ⟨_, _, w1, { target := .fn (.func gf) caps.toArray, args := (first ++ [Value.func (.yield (w.heap.size + 1)) #[] #[]]).toArray }, w1, gf, (first ++ [Value.func (.yield (w.heap.size + 1)) #[] #[]] ++ caps).toArray, w1, henter, ?_, fun _ _ => trivial, ?_, fun h => (by cases h), ?_⟩
    · simp only [resolve]
      rw [hev]
      simp [Deferred.ofValue, Act.eval]
    · simp [invoke, callFunc, hf1, h2', h3']
    · refine callsIn_wide.2 ((hc.2 M1 w1 _ (hp.cc hm) hp.sim hr).mono ?_)
      rintro e w' ⟨cv, v, h', M', rfl, hp3, hv, hd⟩
      have hp4 := hp.trans (hp3.mono (n' := n) (by have := hp.len; rw [← hh1] at this ⊢; simp; omega))
      unfold doneR at hd
      split at hd
      · rename_i L hL
        obtain ⟨rec', r', hr', hb', hw', hat, h0⟩ := hp3.sim.loopAt hL (hp3.rep hyl)
        have hend := run_endLoop (P := P) hw' (by rw [hat.1]; exact hd.1)
        have hp5 := hp4.trans (drop_block (o := .loop { rec' with state := .exhausted }) hp4.sim hp4.len hL hr' hb')
        generalize w'.putObj (w.heap.size + 1) (.loop { rec' with state := .exhausted }) = w4 at hend hp5
        rw [hat.2.1] at hend
        refine ⟨_, w4, hend, ?_⟩
        have hE5 : RepE G.sz M' env { a with defers := [{ target := .collected w.heap.size, args := #[] }] ++ a.defers } := by
          have h5 := hE.post hp4
          refine ⟨h5.1, ?_, h5.2.2⟩
          obtain ⟨Ds, e1, e2, e3⟩ := hE.2.1
          refine ⟨w.heap.size :: Ds, by rw [e1]; rfl, List.nodup_cons.2 ⟨fun hin => ?_, e2⟩, fun D hD => ?_⟩
          · have := (Array.getElem?_eq_some_iff.1 (hs.df _ (e3 _ hin)).1).1
            omega
          · rcases List.mem_cons.1 hD with rfl | hD
            · exact hp3.dc.1.1 _ hdf1
            · exact hp4.dc.1.1 _ (e3 D hD)
        cases hpe : L.pend with
        | none =>
          rw [hpe] at hd
          exact ⟨M', env, _, hp5, hE5, hd.2⟩
        | some x =>
          rw [hpe] at hd
          cases x with
          | normal => exact wpIn_skip ⟨M', env, _, hp5, hE5, hd.2⟩
          | exit id => exact wpIn_exit ⟨M', env, _, hp5, hE5, hd.2⟩
          | ret => exact wpIn_ret ⟨M', env, _, hp5, hE5, hd.2⟩
      · exact hd.elim
  rw [wpc, hh1] at hk
  have hf := hE1.opnd f
  have hone : RepL M1 [V.yl h.length] [.func (.yield (w.heap.size + 1)) #[] #[]] := ⟨rfl, fun k v c hv hc => by cases k with | zero => cases hv; cases hc; exact hyl | succ k => simp at hv⟩
  unfold callF at hk
  split at hk
  · rename_i g e
    rw [e] at hf
    have h4 : a.eval f = .func (.func g) #[] #[] := by generalize a.eval f = u at hf; cases hf with | d _ _ h => cases h; rfl
    exact key g _ [] [] hk (by simpa using hone) h4
  · rename_i g first caps e
    rw [e] at hf
    generalize hu : a.eval f = u at hf
    cases hf with
    | fn _ _ _ a1 a2 l1 l2 r1 r2 => exact key g _ a1 a2 hk (RepL.append (RepL.append ⟨l1, r1⟩ hone) ⟨l2, r2⟩) hu
  · exact hk.elim
theorem stepR_scope {b : Frame} {a : Act} {k : List Item} {cs : List Frame} {w : World} {c : Code} : Go.step P (lone (b.atR a (.code (.scope c) :: k)) cs w) = .next (lone (b.atR a (.code c :: .inScope c :: k)) cs w) :=
  step_lone_go (by simp [stepG, stepG.exec, Frame.atR])
theorem stepR_inScope {b : Frame} {a : Act} {k : List Item} {cs : List Frame} {w : World} {c : Code} : Go.step P (lone (b.atR a (.inScope c :: k)) cs w) = .next (lone (b.atR a k) cs w) :=
  step_lone_go (by simp [stepG, stepG.exec, Frame.atR])
theorem wpIn_scope {F : Fence} {m : Nat} {c : Code} {Q : Exit → Act → World → Prop} {a : Act} {w : World} (h : c.wpIn F m P Q a w) (hng : ∀ l a w, ¬ Q (.goto l) a w) : (Code.scope c).wpIn F m P Q a w := by
  intro b k cs hro hb hr
  have h0 : (lone (b.atR a (.code (.scope c) :: k)) cs w).fenced P F := fenced_calm hb hr rfl
  obtain ⟨e, a₁, w₁, hq, harr⟩ := h b (.inScope c :: k) cs hro hb hr
  cases e with
  | normal => exact ⟨.normal, a₁, w₁, hq, .head h0 stepR_scope (StepsIn.trans harr (.one (fenced_calm hb hr rfl) stepR_inScope))⟩
  | exit id =>
    have hx : exitTo id (.inScope c :: k) = exitTo id k := by simp [exitTo]
    exact ⟨.exit id, a₁, w₁, hq, fun k' hk => .head h0 stepR_scope (harr.1 k' (by rw [hx]; exact hk)),
      fun hr' hk => let ⟨k₁, h1, h2⟩ := harr.2 hr' (by rw [hx]; exact hk); ⟨k₁, h1, .head h0 stepR_scope h2⟩⟩
  | goto l => exact (hng _ _ _ hq).elim
  | ret => exact ⟨_, a₁, w₁, hq, .of_steps (.one h0 stepR_scope) harr⟩
  | panic ch => exact ⟨_, a₁, w₁, hq, .of_steps (.one h0 stepR_scope) harr⟩
  | outgrown => exact ⟨_, a₁, w₁, hq, .of_steps (.one h0 stepR_scope) harr⟩
theorem wpc_sound : ∀ (g : Code) (c : CCode) (Q : CExit → Env → Heap → Prop) (env : Env) (h : Heap), compC P G g = some c → wpc P G n c Q env h → AWp P n G.sz g Q env h := by
  intro g
  induction g with
  | skip =>
    intro c Q env h hc hk ro M w a hro hm hs hn hE
    cases hc
    exact wpIn_skip ⟨M, env, h, .refl hs hn, hE, hk⟩
  | region id ops draw =>
    intro c Q env h hc hk
    obtain ⟨c', hc', rfl⟩ := map_some' hc
    exact wrapF_sound (fun env h hk => compR_sound hc' hk) _ env h hk
  | seq x y ihx ihy =>
    intro c Q env h hc hk ro M w a hro hm hs hn hE
    simp only [compC] at hc
    split at hc
    · rename_i cx cy hx hy
      cases hc
      refine wpIn_seq (wpIn_mono (ihx cx _ env h hx hk ro M w a (fun hh => hro (by simp [hasRange, hh])) hm hs hn hE) (fun e a' w' hq => ?_))
      obtain ⟨M', env', h', hp, hE', hK⟩ := hq
      cases e with
      | normal => exact wpIn_mono (ihy cy Q env' h' hy hK ro M' w' a' (fun hh => hro (by simp [hasRange, hh])) (hp.cc hm) hp.sim hp.len hE') (fun e2 a2 w2 hq2 => QQ.trans hp hq2)
      | exit id => exact ⟨M', env', h', hp, hE', hK⟩
      | ret => exact ⟨M', env', h', hp, hE', hK⟩
      | goto l => exact hK.elim
      | panic c => exact hK.elim
      | outgrown => exact hK.elim
    · cases hc
  | cond c x y ihx ihy =>
    intro cc Q env h hc hk ro M w a hro hm hs hn hE
    simp only [compC] at hc
    split at hc
    · rename_i cx cy hx hy
      cases hc
      simp only [wpc, brV] at hk
      split at hk
      · rename_i t e
        have hv := hE.opnd c
        rw [e] at hv
        exact wpIn_cond_split hv.boolI (fun ht => ihx cx Q env h hx (hk.1 ht) ro M w a (fun hh => hro (by simp [hasRange, hh])) hm hs hn hE) (fun hf => ihy cy Q env h hy (hk.2 hf) ro M w a (fun hh => hro (by simp [hasRange, hh])) hm hs hn hE)
      · exact hk.elim
    · cases hc
  | block id x ih =>
    intro c Q env h hc hk ro M w a hro hm hs hn hE
    obtain ⟨cx, hx, rfl⟩ := map_some' hc
    refine wpIn_block (wpIn_mono (ih cx _ env h hx hk ro M w a hro hm hs hn hE) (fun e a' w' hq => ?_))
    obtain ⟨M', env', h', hp, hE', hK⟩ := hq
    cases e with
    | normal => exact ⟨M', env', h', hp, hE', hK⟩
    | exit i =>
      simp only [Exit.inBlock]
      by_cases hi : i = id
      · simp only [hi, if_true] at hK ⊢
        exact ⟨M', env', h', hp, hE', hK⟩
      · simp only [hi, if_false] at hK ⊢
        exact ⟨M', env', h', hp, hE', hK⟩
    | ret => exact ⟨M', env', h', hp, hE', hK⟩
    | goto l => exact hK.elim
    | panic c => exact hK.elim
    | outgrown => exact hK.elim
  | loop x ih =>
    intro c Q env h hc hk
    obtain ⟨cx, hx, rfl⟩ := map_some' hc
    exact hk x hx
  | exit id =>
    intro c Q env h hc hk ro M w a hro hm hs hn hE
    cases hc
    exact wpIn_exit ⟨M, env, h, .refl hs hn, hE, hk⟩
  | ret =>
    intro c Q env h hc hk ro M w a hro hm hs hn hE
    cases hc
    exact wpIn_ret ⟨M, env, h, .refl hs hn, hE, hk⟩
  | rangeFunc f ps x y ihx ihy =>
    intro c Q env h hc hk
    simp only [compC] at hc
    split at hc
    · cases hc
    · rename_i hr
      simp only [Bool.or_eq_true, not_or, Bool.not_eq_true] at hr
      split at hc
      · rename_i cx cy hx hy
        cases hc
        exact rangeF_sound hr.1 hr.2 hx hy hk
      · cases hc
  | scope x ih =>
    intro c Q env h hc hk ro M w a hro hm hs hn hE
    exact wpIn_scope (ih c Q env h hc hk ro M w a hro hm hs hn hE) (fun l a w ⟨_, _, _, _, _, hq⟩ => hq)
  | label l =>
    intro c Q env h hc hk ro M w a hro hm hs hn hE
    cases hc
    exact wpIn_label ⟨M, env, h, .refl hs hn, hE, hk⟩
  | _ => intro c Q env h hc; cases hc
theorem loop_rule {c : CCode} {Q : CExit → Env → Heap → Prop} (I : Nat → Env → Heap → Prop) {m0 : Nat} {env : Env} {h : Heap} (h0 : I m0 env h)
    (hstep : ∀ m env h, I m env h → wpc P G n c (fun e env' h' => match e with
      | .normal => ∃ m', m' < m ∧ I m' env' h'
      | .exit id => Q (.exit id) env' h'
      | .ret => Q .ret env' h') env h) : LoopP P G n c Q env h := by
  intro g hg ro M w a hro hm hs hn hE
  intro b k cs hro' hb hroom
  have main : ∀ m, ∀ env1 h1 M1 w1 a1, I m env1 h1 → Post n M h w M1 h1 w1 → RepE G.sz M1 env1 a1 →
      ∃ e a' w', QQ n G.sz M h w Q e a' w' ∧ ArrivesIn (Machine.fenced P (fw ro)) P (lone (b.atR a1 (.code g :: .inLoop g :: k)) cs w1) b k cs e a' w' := by
    intro m
    induction m using Nat.strongRecOn with
    | _ m ih =>
      intro env1 h1 M1 w1 a1 hI hp hE1
      obtain ⟨e, a2, w2, hq, harr⟩ := wpc_sound g c _ env1 h1 hg (hstep m env1 h1 hI) ro M1 w1 a1 hro (hp.cc hm) hp.sim hp.len hE1 b (.inLoop g :: k) cs hro' hb hroom
      obtain ⟨M2, env2, h2, hp2, hE2, hK⟩ := hq
      cases e with
      | normal =>
        obtain ⟨m', hlt, hI'⟩ := hK
        obtain ⟨e3, a3, w3, hq3, harr3⟩ := ih m' hlt env2 h2 M2 w2 a2 hI' (hp.trans hp2) hE2
        exact ⟨e3, a3, w3, hq3, .of_steps (StepsIn.trans harr (.one (fenced_calm hb hroom rfl) stepR_inLoop)) harr3⟩
      | exit id => exact ⟨_, a2, w2, ⟨M2, env2, h2, hp.trans hp2, hE2, hK⟩, .pass (x := .inLoop g) rfl (fun _ _ => .inl (by simp)) harr⟩
      | ret => exact ⟨_, a2, w2, ⟨M2, env2, h2, hp.trans hp2, hE2, hK⟩, .pass (x := .inLoop g) rfl (fun _ _ => .inl (by simp)) harr⟩
      | goto l => exact hK.elim
      | panic c => exact hK.elim
      | outgrown => exact hK.elim
  obtain ⟨e, a', w', hq, harr⟩ := main m0 env h M w a h0 (.refl hs hn) hE
  exact ⟨e, a', w', hq, .of_steps (.one (fenced_calm hb hroom rfl) stepR_loop) harr⟩
inductive CRes where
  | tmp (t : Nat)
  | cell (a : Nat) (agg : Option Nat)
def compRes (P : Program) : List ResultVar → Option (List CRes)
  | [] => some []
  | .tmp t :: r => (compRes P r).map (.tmp t :: ·)
  | .cell a T :: r => match aggOf P T, compRes P r with
    | some g, some r => some (.cell a g :: r)
    | _, _ => none
def resV (env : Env) (h : Heap) : List CRes → (List V → Prop) → Prop
  | [], K => K []
  | .tmp t :: r, K => resV env h r fun vs => K (env.get t :: vs)
  | .cell a g :: r, K => step (.load g (.tmp a)) (opnd env) h fun v h' => h' = h ∧ resV env h r fun vs => K (v :: vs)
def oneV : List V → V
  | [v] => v
  | vs => .tup vs
def retQ (rs : List CRes) (R : V → Heap → Prop) : CExit → Env → Heap → Prop := fun e env h => match e with
  | .exit _ => False
  | _ => resV env h rs fun vs => R (oneV vs) h
def envOf (vs : List V) : Env := vs.zipIdx.map fun p => (p.2, p.1)
theorem get_envOf' (vs : List V) (i k : Nat) : Env.get ((vs.zipIdx i).map fun p => (p.2, p.1)) k = if i ≤ k then (vs[k - i]?).getD .any else .any := by
  induction vs generalizing i with
  | nil => simp [Env.get]
  | cons v vs ih =>
    simp only [List.zipIdx_cons, List.map_cons, Env.get]
    by_cases hk : k = i
    · subst hk; simp
    · rw [if_neg hk, ih]
      by_cases h1 : i ≤ k
      · have e : k - i = (k - (i + 1)) + 1 := by omega
        rw [if_pos h1, if_pos (by omega), e, List.getElem?_cons_succ]
      · rw [if_neg h1, if_neg (by omega)]
theorem get_envOf (vs : List V) (k : Nat) : (envOf vs).get k = (vs[k]?).getD .any := by
  have := get_envOf' vs 0 k
  simpa [envOf] using this
def resOne (a : Act) : ResultVar → Sem Value
  | .tmp t => pure (a.tmps.getD t undef)
  | .cell x T => do loadVar T (← asAddr (a.tmps.getD x undef))
theorem res_sound {env : Env} {h : Heap} {M : Mem} {w : World} {a : Act} (hs : Sim M h w) (hE : RepE G.sz M env a) :
    ∀ (rs : List ResultVar) (cr : List CRes) (K : List V → Prop), compRes P rs = some cr → resV env h cr K →
      ∃ vs us, (rs.mapM (resOne a)).run P w = .ok us w ∧ RepL M vs us ∧ K vs
  | [], cr, K, hc, hk => by cases hc; exact ⟨[], [], rfl, ⟨rfl, fun k v c hv => by simp at hv⟩, hk⟩
  | .tmp t :: r, cr, K, hc, hk => by
    obtain ⟨cr', hr, rfl⟩ := map_some' hc
    obtain ⟨vs, us, h1, h2, h3⟩ := res_sound hs hE r cr' _ hr hk
    refine ⟨_, a.tmps.getD t undef :: us, ?_, RepL.append (RepL.single (hE.2.2 t)) h2, h3⟩
    rw [List.mapM_cons]
    simp only [resOne, Sem.run_bind, Sem.run_pure, Result.andThen_ok, h1]
  | .cell x T :: r, cr, K, hc, hk => by
    simp only [compRes] at hc
    split at hc
    · rename_i g r' hg hr
      cases hc
      let o : Oper := { (default : Oper) with op := .load T (.tmp x) }
      obtain ⟨cv, v, hrun, hv, _, hk⟩ := load0 (P := P) (o := o) (ρ := a.eval) T (.tmp x) g rfl hg (hE.opnd (.tmp x)) hs hk
      obtain ⟨vs, us, h1, h2, h3⟩ := res_sound hs hE r r' _ hr hk
      refine ⟨_, cv :: us, ?_, RepL.append (RepL.single hv) h2, h3⟩
      have h4 : (do loadVar T (← asAddr (a.tmps.getD x undef)) : Sem Value).run P w = .ok cv w := by
        have h5 : (Instr.loadAt T (a.tmps.getD x undef)).run P w = .ok cv w := by
          have h6 : (Functor.map (fun v => Next.value v) (Instr.loadAt T (a.tmps.getD x undef))).run P w = .ok (.value cv) w := by
            have : (execOp a.eval o) = Functor.map (fun v => Next.value v) (Instr.loadAt T (a.tmps.getD x undef)) := by
              simp only [execOp, o, Act.eval]
              rfl
            rw [← this]; exact hrun
          rw [Sem.run_map] at h6
          cases hr5 : (Instr.loadAt T (a.tmps.getD x undef)).run P w with
          | ok c w5 => rw [hr5] at h6; simp only [Result.andThen_ok, Result.ok.injEq, Next.value.injEq] at h6; rw [h6.1, h6.2]
          | halt e w5 => rw [hr5] at h6; simp at h6
        unfold Instr.loadAt Instr.sureAddr at h5
        generalize a.tmps.getD x undef = u at h5
        cases u with
        | pointer ad =>
          cases ad with
          | none => simp at h5
          | some ad => simpa [asAddr] using h5
        | _ => simp at h5
      rw [List.mapM_cons]
      simp only [Sem.run_bind, Result.andThen_ok, h1, Sem.run_pure]
      have h7 : (resOne a (.cell x T)).run P w = .ok cv w := h4
      rw [h7]
      simp only [Result.andThen_ok, h1]
    · cases hc
theorem leaves_marks {M0 M' : Mem} {h h' : Heap} {w : World} {fn : Func} {tmps : Array Value} {cr : List CRes} {R : V → Heap → Prop} {env' : Env}
    (hs0 : Sim M0 h w) (hr : compRes P fn.results.toList = some cr) (hres : resV env' h' cr (fun vs => R (oneV vs) h')) (hm : M'.cc = M0.cc) : ∀ (Ds : List Nat) (M1 : Mem) (w' : World) (ds : List Deferred),
    Post h.length { M0 with df := fun _ => False } h w M1 h' w' → RepE G.sz M1 env' { tmps, defers := [] } → Ds.Nodup → (∀ D ∈ Ds, M1.df D) →
    LeavesInM (fw none) 0 P fn tmps (CallQ M0 h w R) (Ds.map (fun D => { target := .collected D, args := #[] })) .returning w'
  | [], M1, w', ds, hp, hE', _, _ => by
    obtain ⟨vs', us, h1, h2, h3⟩ := res_sound hp.sim hE' _ _ _ hr hres
    have hmap : (fn.results.mapM (resOne { tmps, defers := [] })).run P w' = .ok us.toArray w' := by
      rw [Array.mapM_eq_mapM_toList, Sem.run_map, h1]; rfl
    have hrun : (results fn tmps).run P w' = .ok (if h : us.toArray.size = 1 then us.toArray[0] else .tuple us.toArray) w' := by
      have : results fn tmps = (do let vs ← fn.results.mapM (resOne { tmps, defers := [] }); pure (if h : vs.size = 1 then vs[0] else .tuple vs)) := rfl
      rw [this, Sem.run_bind, hmap, Result.andThen_ok, Sem.run_pure]
    have hmono : ∀ x v, RepV M1 x v → RepV { M1 with df := M0.df } x v := fun x v hx => RepV.mono (M := M1) (M' := { M1 with df := M0.df }) (fun _ _ _ h => h) (fun i r h => ⟨r, h, Nat.le_refl _, fun _ => rfl⟩) hx
    have hpost : Post h.length M0 h w { M1 with df := M0.df } h' w' := by
      refine ⟨hp.ro, ⟨⟨fun _ h => h, fun _ _ h => h, hp.dc.1.2.2⟩, hp.dc.2⟩, hp.le, hp.len, ⟨fun i blk hi => ?_, hp.sim.inj, hp.sim.ro, hp.sim.dom, fun b hb => ?_⟩, hp.os, hp.tape, hp.output, hp.size, hp.keep, hp.live⟩
      · obtain ⟨r, hr, hat⟩ := hp.sim.blks i blk hi
        exact ⟨r, hr, BlkAt.of_same (M := M1) (w := w') rfl (fun _ _ _ h => h) hmono (fun _ _ => rfl) hat⟩
      · obtain ⟨hc, hnl⟩ := hs0.df b hb
        have hlt := (Array.getElem?_eq_some_iff.1 hc).1
        exact ⟨(hp.keep b hlt hnl).trans hc, fun hl => hnl (hp.live b hlt hl)⟩
    show LeavesIn _ _ _ _ _ _ _ _ _
    refine ⟨_, hrun, _, oneV vs', h', _, rfl, hpost, hmono _ _ ?_, h3⟩
    have hl2 := h2.1
    cases vs' with
    | nil =>
      obtain rfl : us = [] := List.eq_nil_of_length_eq_zero hl2.symm
      exact .tup [] [] rfl (fun k v c hv => by simp at hv)
    | cons v1 vs' =>
      cases us with
      | nil => simp at hl2
      | cons u1 us =>
        cases vs' with
        | nil =>
          obtain rfl : us = [] := List.eq_nil_of_length_eq_zero (by simpa using hl2.symm)
          exact h2.2 0 v1 u1 rfl rfl
        | cons v2 vs' =>
          have hne : ¬ (u1 :: us).toArray.size = 1 := by simp only [List.length_cons, List.size_toArray] at hl2 ⊢; omega
          rw [dif_neg hne]
          exact .tup _ _ hl2 h2.2
  | D :: Ds, M1, w', ds, hp, hE', hnd, hdf => by
    obtain ⟨hnd1, hnd2⟩ := List.nodup_cons.1 hnd
    have hD := hdf D (by simp)
    obtain ⟨hc, hnl⟩ := hp.sim.df D hD
    have hge : w.heap.size ≤ D := by
      rcases Nat.lt_or_ge D w.heap.size with hl | hl
      · exact (hp.dc.1.2.1 D hl hD).elim
      · exact hl
    have hs2 := take_sim hp.sim hD
    have hoth : ∀ k, k ≠ D → (w'.putObj D (.deferred none)).heap[k]? = w'.heap[k]? := fun k hk => World.putObj_heap_other hk
    have hp2 : Post h.length { M0 with df := fun _ => False } h w (M1.remDf D) h' (w'.putObj D (.deferred none)) :=
      ⟨hp.ro, ⟨⟨fun _ h => h.elim, fun b hb h => hp.dc.1.2.1 b hb h.1, hp.dc.1.2.2⟩, hp.dc.2⟩, hp.le, hp.len, hs2, hp.os, hp.tape, hp.output, by simpa using hp.size,
        fun b hb hnl => (hoth b (by omega)).trans (hp.keep b hb hnl), hp.live⟩
    refine ⟨by simp, .inl ⟨D, _, rfl, run_takeDeferred hc, ?_⟩⟩
    refine leaves_marks hs0 hr hres hm Ds (M1.remDf D) _ ds hp2 ⟨hE'.1, DefOk.nil _, fun k => ?_⟩ hnd2 (fun E hE => ⟨hdf E (by simp [hE]), fun e => hnd1 (e ▸ hE)⟩)
    exact RepV.mono (M := M1) (M' := M1.remDf D) (fun _ _ _ h => h) (fun i r h => ⟨r, h, Nat.le_refl _, fun _ => rfl⟩) (hE'.2.2 k)
theorem acalls_of_body {f : FuncId} {fn : Func} {g : Code} {c : CCode} {cr : List CRes} {vs : List V} {h : Heap} {R : V → Heap → Prop} (hf : P.funcs[f]? = some fn) (hname : (fn.name == "runtime.NumGoroutine") = false)
    (hb : fn.body = some g) (hc : compC P G g = some c) (hsz : fn.ntmps = G.sz) (hr : compRes P fn.results.toList = some cr) (hl : vs.length ≤ G.sz)
    (hk : wpc P G h.length c (retQ cr R) (envOf vs) h) : ACalls P f vs h R := by
  refine ⟨⟨fn, hf, hname, by rw [hb]; rfl⟩, fun M0 w args hm hs0 ha => ?_⟩
  refine (callsIn_wide (n := 0)).1 (callsIn_of_wp_marks (F := fw none) hf hb trivial ?_ rfl)
  have hmono : ∀ x v, RepV M0 x v → RepV { M0 with df := fun _ => False } x v := fun x v hx => RepV.mono (M := M0) (M' := { M0 with df := fun _ => False }) (fun _ _ _ h => h) (fun i r h => ⟨r, h, Nat.le_refl _, fun _ => rfl⟩) hx
  have hs : Sim { M0 with df := fun _ => False } h w := ⟨fun i blk hi => by
    obtain ⟨r, hr, hat⟩ := hs0.blks i blk hi
    exact ⟨r, hr, BlkAt.of_same (M := M0) (w := w) rfl (fun _ _ _ h => h) hmono (fun _ _ => rfl) hat⟩, hs0.inj, hs0.ro, hs0.dom, fun _ h => h.elim⟩
  have hE : RepE G.sz { M0 with df := fun _ => False } (envOf vs) { tmps := args.toArray ++ Array.replicate (fn.ntmps - args.toArray.size) undef, defers := [] } := by
    refine ⟨by have := ha.1; simp; omega, DefOk.nil _, fun k => ?_⟩
    rw [get_envOf]
    by_cases hk : k < vs.length
    · have hk' : k < args.length := by rw [← ha.1]; exact hk
      have := hmono _ _ (ha.2 k vs[k] args[k] (by simp [hk]) (by simp [hk']))
      simp [Array.getD_eq_getD_getElem?, Array.getElem?_append, hk, hk', this]
    · rw [List.getElem?_eq_none (by omega)]; exact .any _
  refine wpIn_mono (wpc_sound g c _ _ _ hc hk none { M0 with df := fun _ => False } w _ (fun _ => rfl) hm hs (Nat.le_refl _) hE) (fun e a' w' hq => ?_)
  obtain ⟨M', env', h', hp, hE', hK⟩ := hq
  have fin : resV env' h' cr (fun vs => R (oneV vs) h') → LeavesInM (fw none) 0 P fn a'.tmps (CallQ M0 h w R) a'.defers .returning w' := by
    intro hres
    obtain ⟨Ds, e1, e2, e3⟩ := hE'.2.1
    rw [e1]
    exact leaves_marks (G := G) hs0 hr hres hp.dc.2 Ds M' w' [] hp ⟨hE'.1, DefOk.nil _, hE'.2.2⟩ e2 e3
  cases e with
  | normal => exact fin hK
  | ret => exact fin hK
  | exit id => exact hK.elim
  | goto l => exact hK.elim
  | panic c => exact hK.elim
  | outgrown => exact hK.elim
theorem acalls_of {f : FuncId} {fn : Func} {c : CCode} {cr : List CRes} {vs : List V} {h : Heap} {R : V → Heap → Prop} (hf : P.funcs[f]? = some fn) (hc : fn.body.bind (compC P G) = some c)
    (hr : compRes P fn.results.toList = some cr) (hname : (fn.name == "runtime.NumGoroutine") = false) (hsz : fn.ntmps = G.sz) (hl : vs.length ≤ G.sz)
    (hk : wpc P G h.length c (retQ cr R) (envOf vs) h) : ACalls P f vs h R := by
  obtain ⟨g, hb, hc⟩ := bind_some' hc
  exact acalls_of_body hf hname hb hc hsz hr hl hk
end
end Go.Proofs.Ytdnefcjbcieecaa
namespace Go.Proofs.Ytdnefcjbcieecaa
open Go
def envY (ps : List Nat) (args : List V) (env : Env) : Env := (ps.zip args).foldl (fun e p => e.put (some p.1) p.2) env
def endR (id : Nat) (R : V → Heap → Prop) : CExit → Env → Heap → Prop := fun e _ h =>
  match h[id]? with
  | some (some (.loop L)) => match e with
    | .normal => R (.d (.bool true)) (h.set id (some (.loop { L with st := .ready, pend := none })))
    | e => R (.d (.bool false)) (h.set id (some (.loop { L with st := .done, pend := some e })))
  | _ => False
def begR (P : Program) (G : Cfg) (n : Nat) (cb : CCode) (id : Nat) (R : V → Heap → Prop) : CExit → Env → Heap → Prop := fun e env h =>
  match e with
  | .normal => match h[id]? with
    | some (some (.loop L)) => L.st = .ready ∧ wpc P G n cb (endR id R) env (h.set id (some (.loop { L with st := .busy })))
    | _ => False
  | _ => False
section
variable {P : Program} {n : Nat}
theorem LoopAt.set {M : Mem} {L : LoopB} {rec : Loop} (h : LoopAt M L rec) (st : LoopState) (pe : Option CExit) : LoopAt M { L with st := st, pend := pe } { rec with state := st, pending := pe.map codeX } :=
  ⟨rfl, rfl, h.2.2⟩
theorem AYield.of_body {id : Nat} {args : List V} {h : Heap} {L : LoopB} {R : V → Heap → Prop} (hid : h[id]? = some (some (.loop L))) (hl : args.length = L.ps.length) (hps : L.ps.all (fun p => decide (p < L.G.sz)) = true)
    (hk : wpc P L.G h.length L.ca (begR P L.G h.length L.cb id R) (envY L.ps args L.env) h) : AYield P id args h R := by
  intro M w us l hm hs ha hv
  obtain ⟨rec, r, hr, hb, hw, hat, h0⟩ := hs.loopAt hid hv
  obtain ⟨hat1, hat2, hat3, hat4, hat5, hat6, hat7⟩ := hat
  rw [hm] at hat4 hat5
  have hsz : us.toArray.size = rec.params.size := by rw [hat3]; simp [← ha.1, hl]
  refine ⟨_, _, _, _, run_yield hw hsz, ?_⟩
  refine roundIn_of_wpIn (F := Fence.wide) trivial ?_
  have hE : RepE L.G.sz M (envY L.ps args L.env) { tmps := (rec.params.zip us.toArray).foldl (fun tmps (t, a) => tmps.setIfInBounds t a) rec.tmps, defers := [] } := by
    have key : ∀ (ps : List Nat) (args : List V) (us : List Value) (env : Env) (tmps : Array Value), RepL M args us → ps.all (fun p => decide (p < L.G.sz)) = true → RepE L.G.sz M env { tmps, defers := [] } →
        RepE L.G.sz M (envY ps args env) { tmps := (ps.zip us).foldl (fun tmps (t, a) => tmps.setIfInBounds t a) tmps, defers := [] } := by
      intro ps
      induction ps with
      | nil => intro args us env tmps _ _ hE; exact hE
      | cons p ps ih =>
        intro args us env tmps ha hp hE
        cases args with
        | nil =>
          obtain rfl : us = [] := List.eq_nil_of_length_eq_zero ha.1.symm
          exact hE
        | cons v args =>
          cases us with
          | nil => have := ha.1; simp at this
          | cons u us =>
            simp only [List.all_cons, Bool.and_eq_true, decide_eq_true_eq] at hp
            refine ih args us _ _ ⟨by simpa using ha.1, fun k v c hv hc => ha.2 (k + 1) v c (by simpa using hv) (by simpa using hc)⟩ hp.2 ?_
            exact RepE.put (a := { tmps, defers := [] }) (d := some p) (fun x hx => by cases hx; exact hp.1) hE (ha.2 0 v u rfl rfl)
    have := key L.ps args us L.env rec.tmps ha hps ⟨hat6, DefOk.nil _, hat7⟩
    have hz : rec.params.zip us.toArray = (L.ps.zip us).toArray := by rw [hat3]; simp
    rw [hz]
    simpa using this
  have h1 := wpc_sound rec.assign L.ca _ _ h hat4.1 hk (some l) M w _ (fun hh => by rw [hat4.2] at hh; cases hh) hm hs (Nat.le_refl _) hE
  refine wpIn_mono h1 (fun e a' w' hq => ?_)
  obtain ⟨M1, env1, h1', hp1, hE1, hK⟩ := hq
  cases e with
  | normal =>
    simp only [begR] at hK
    split at hK
    · rename_i L1 hL1
      obtain ⟨rec1, r1, hr1, hb1, hw1, hat1', h01⟩ := hp1.sim.loopAt hL1 (hp1.rep hv)
      refine ⟨_, run_beginRound hw1 (by rw [hat1'.1]; exact hK.1), ?_⟩
      have hp2 := hp1.trans (put_loop hp1.sim hp1.len (rec' := { rec1 with state := .busy }) hL1 hr1 hb1 h01 hw1 (L' := { L1 with st := .busy }) ⟨rfl, hat1'.2⟩)
      have h2 := wpc_sound rec.body L.cb _ _ _ hat5.1 hK.2 (some l) M1 _ a' (fun hh => by rw [hat5.2] at hh; cases hh) (hp2.cc hm) hp2.sim hp2.len hE1
      refine wpIn_mono h2 (fun e2 a2 w2 hq2 => ?_)
      obtain ⟨M2, env2, h2', hp3, hE2, hK2⟩ := hq2
      have hp4 := hp2.trans hp3
      have fin : ∀ e : CExit, endR id R e env2 h2' → ∃ v w'', (Instr.endRound l (match e with | .normal => none | e => some (codeX e))).run P w2 = .ok v w'' ∧ CallQ M h w R (.returned v) w'' := by
        intro e hK2
        unfold endR at hK2
        split at hK2
        · rename_i L2 hL2
          obtain ⟨rec2, r2, hr2, hb2, hw2, hat2', h02⟩ := hp4.sim.loopAt hL2 (hp4.rep hv)
          refine ⟨_, _, run_endRound _ hw2, ?_⟩
          cases e with
          | normal =>
            have hp5 := hp4.trans (put_loop hp4.sim hp4.len (rec' := { rec2 with state := .ready, pending := none }) hL2 hr2 hb2 h02 hw2 (L' := { L2 with st := .ready, pend := none }) (hat2'.set .ready none))
            exact ⟨_, _, _, M2, rfl, hp5, .d _ _ (.bool true), hK2⟩
          | exit id =>
            have hp5 := hp4.trans (put_loop hp4.sim hp4.len (rec' := { rec2 with state := .done, pending := some (.exit id) }) hL2 hr2 hb2 h02 hw2 (L' := { L2 with st := .done, pend := some (.exit id) }) (hat2'.set .done (some (.exit id))))
            exact ⟨_, _, _, M2, rfl, hp5, .d _ _ (.bool false), hK2⟩
          | ret =>
            have hp5 := hp4.trans (put_loop hp4.sim hp4.len (rec' := { rec2 with state := .done, pending := some .ret }) hL2 hr2 hb2 h02 hw2 (L' := { L2 with st := .done, pend := some .ret }) (hat2'.set .done (some .ret)))
            exact ⟨_, _, _, M2, rfl, hp5, .d _ _ (.bool false), hK2⟩
        · exact hK2.elim
      cases e2 with
      | normal => exact fin .normal hK2
      | exit i => exact fin (.exit i) hK2
      | ret => exact fin .ret hK2
      | goto t => exact hK2.elim
      | panic c => exact hK2.elim
      | outgrown => exact hK2.elim
    · exact hK.elim
  | exit i => exact hK.elim
  | ret => exact hK.elim
  | goto t => exact hK.elim
  | panic c => exact hK.elim
  | outgrown => exact hK.elim
end
end Go.Proofs.Ytdnefcjbcieecaa
namespace Go.Proofs.Ytdnefcjbcieecaa
open Go
inductive Fr where
  | seq (c : CCode)
  | blk (id : Nat)
section
variable (P : Program) (G : Cfg) (n : Nat)
def stkQ : List Fr → (CExit → Env → Heap → Prop) → CExit → Env → Heap → Prop
  | [], Q, e, env, h => Q e env h
  | .seq c :: s, Q, e, env, h => match e with
    | .normal => wpc P G n c (stkQ s Q) env h
    | e => stkQ s Q e env h
  | .blk id :: s, Q, e, env, h => match e with
    | .normal => stkQ s Q .normal env h
    | .exit i => if i = id then stkQ s Q .normal env h else stkQ s Q (.exit i) env h
    | .ret => stkQ s Q .ret env h
def runC (c : CCode) (s : List Fr) (Q : CExit → Env → Heap → Prop) (env : Env) (h : Heap) : Prop := wpc P G n c (stkQ P G n s Q) env h
def retS (e : CExit) (s : List Fr) (Q : CExit → Env → Heap → Prop) (env : Env) (h : Heap) : Prop := stkQ P G n s Q e env h
def lpS (c : CCode) (s : List Fr) (Q : CExit → Env → Heap → Prop) (env : Env) (h : Heap) : Prop := LoopP P G n c (stkQ P G n s Q) env h
variable {s : List Fr} {Q : CExit → Env → Heap → Prop} {env : Env} {h : Heap} {P G n}
theorem runC_seq (a b : CCode) : runC P G n (.seq a b) s Q env h = runC P G n a (.seq b :: s) Q env h := by
  have : stkQ P G n (.seq b :: s) Q = fun e env h => match e with
    | .normal => wpc P G n b (stkQ P G n s Q) env h
    | .exit id => stkQ P G n s Q (.exit id) env h
    | .ret => stkQ P G n s Q .ret env h := by
    funext e env h; cases e <;> rfl
  unfold runC
  rw [this]
  rfl
theorem runC_block (id : Nat) (c : CCode) : runC P G n (.block id c) s Q env h = runC P G n c (.blk id :: s) Q env h := by
  have : stkQ P G n (.blk id :: s) Q = fun e env h => match e with
    | .normal => stkQ P G n s Q .normal env h
    | .exit i => if i = id then stkQ P G n s Q .normal env h else stkQ P G n s Q (.exit i) env h
    | .ret => stkQ P G n s Q .ret env h := by
    funext e env h; cases e <;> rfl
  unfold runC
  rw [this]
  rfl
theorem runC_frz (x : Nat × Option Nat) : runC P G n (.frz x) s Q env h = match frzB h (frzV env h x) with
    | some (id, g, ds) => retS P G n .normal s Q (fzE id g ds env) (fzH id g ds h)
    | none => retS P G n .normal s Q env h := rfl
end
end Go.Proofs.Ytdnefcjbcieecaa
namespace Go.Proofs.Ytdnefcjbcieecaa
open Go
def bel0 (n : Nat) : V → Bool
  | .any => true
  | .d _ => true
  | .rptr _ _ => true
  | .own id _ _ => Nat.blt id n
  | .ptr id _ _ => Nat.blt id n
  | .mp id => Nat.blt id n
  | .yl id => Nat.blt id n
  | _ => false
def belA (n : Nat) : V → Bool
  | .agg cs => cs.all (bel0 n)
  | v => bel0 n v
def bel1 (n : Nat) : V → Bool
  | .agg cs => cs.all (bel0 n)
  | .fn _ a c => a.all (belA n) && c.all (belA n)
  | v => bel0 n v
def bel2 (n : Nat) : V → Bool
  | .tup cs => cs.all (bel1 n)
  | v => bel1 n v
def blkBel (n : Nat) : Option Blk → Bool
  | some (.box cs) => cs.all (bel1 n)
  | some (.map es) => es.all fun p => bel1 n p.1 && bel1 n p.2
  | some (.loop L) => L.env.all fun p => bel2 n p.2
  | _ => true
def Mem.cut (M : Mem) (n : Nat) : Mem := { M with mu := fun i => if i < n then M.mu i else none }
theorem Mem.cut_lt (M : Mem) {n i : Nat} (h : i < n) : (M.cut n).mu i = M.mu i := by simp [Mem.cut, h]
theorem Mem.cut_some {M : Mem} {n i : Nat} {r : Ref} (h : (M.cut n).mu i = some r) : i < n ∧ M.mu i = some r := by
  simp only [Mem.cut] at h
  split at h
  · rename_i hl; exact ⟨hl, h⟩
  · cases h
section
variable {M : Mem} {n : Nat}
theorem lt_of_blt {a b : Nat} (h : Nat.blt a b = true) : a < b := by simpa [Nat.blt_eq] using h
theorem RepV.bel0 {v : V} {c : Value} (hb : Go.Proofs.Ytdnefcjbcieecaa.bel0 n v = true) (h : RepV M v c) : RepV (M.cut n) v c := by
  cases h with
  | any v => exact .any _
  | d x v h => exact .d _ _ h
  | agg => cases hb
  | tup => cases hb
  | own id g len r ao cap h1 h2 h3 h4 h5 => exact .own _ _ _ r ao cap (by rw [Mem.cut_lt _ (lt_of_blt hb)]; exact h1) h2 h3 h4 h5
  | ptr id g off r b h1 h2 h3 => exact .ptr _ _ _ r b (by rw [Mem.cut_lt _ (lt_of_blt hb)]; exact h1) h2 h3
  | rptr cs off b o vals h1 h2 => exact .rptr _ _ b o vals h1 h2
  | fn => cases hb
  | mp id r b h1 h2 => exact .mp _ r b (by rw [Mem.cut_lt _ (lt_of_blt hb)]; exact h1) h2
  | yl id r b h1 h2 => exact .yl _ r b (by rw [Mem.cut_lt _ (lt_of_blt hb)]; exact h1) h2
theorem all_get {α : Type} {p : α → Bool} {l : List α} (h : l.all p = true) {k : Nat} {x : α} (hk : l[k]? = some x) : p x = true := List.all_eq_true.1 h x (List.mem_of_getElem? hk)
theorem RepV.belA {v : V} {c : Value} (hb : Go.Proofs.Ytdnefcjbcieecaa.belA n v = true) (h : RepV M v c) : RepV (M.cut n) v c := by
  cases h with
  | agg cs arr hl h h1 => exact .agg cs arr hl (fun k v c hv hc => (h k v c hv hc).bel0 (all_get hb hv)) h1
  | fn => cases hb
  | any v => exact .any _
  | d x v h => exact .d _ _ h
  | tup => cases hb
  | own id g len r ao cap h1 h2 h3 h4 h5 => exact RepV.bel0 hb (.own id g len r ao cap h1 h2 h3 h4 h5)
  | ptr id g off r b h1 h2 h3 => exact RepV.bel0 hb (.ptr id g off r b h1 h2 h3)
  | rptr cs off b o vals h1 h2 => exact .rptr _ _ b o vals h1 h2
  | mp id r b h1 h2 => exact RepV.bel0 hb (.mp id r b h1 h2)
  | yl id r b h1 h2 => exact RepV.bel0 hb (.yl id r b h1 h2)
theorem RepV.bel1 {v : V} {c : Value} (hb : Go.Proofs.Ytdnefcjbcieecaa.bel1 n v = true) (h : RepV M v c) : RepV (M.cut n) v c := by
  cases h with
  | agg cs arr hl h h1 => exact .agg cs arr hl (fun k v c hv hc => (h k v c hv hc).bel0 (all_get hb hv)) h1
  | fn f first caps a1 a2 l1 l2 h1 h2 =>
    simp only [Go.Proofs.Ytdnefcjbcieecaa.bel1, Bool.and_eq_true] at hb
    exact .fn f first caps a1 a2 l1 l2 (fun k v c hv hc => (h1 k v c hv hc).belA (all_get hb.1 hv)) (fun k v c hv hc => (h2 k v c hv hc).belA (all_get hb.2 hv))
  | any v => exact .any _
  | d x v h => exact .d _ _ h
  | tup => cases hb
  | own id g len r ao cap h1 h2 h3 h4 h5 => exact RepV.bel0 hb (.own id g len r ao cap h1 h2 h3 h4 h5)
  | ptr id g off r b h1 h2 h3 => exact RepV.bel0 hb (.ptr id g off r b h1 h2 h3)
  | rptr cs off b o vals h1 h2 => exact .rptr _ _ b o vals h1 h2
  | mp id r b h1 h2 => exact RepV.bel0 hb (.mp id r b h1 h2)
  | yl id r b h1 h2 => exact RepV.bel0 hb (.yl id r b h1 h2)
theorem RepV.bel2 {v : V} {c : Value} (hb : Go.Proofs.Ytdnefcjbcieecaa.bel2 n v = true) (h : RepV M v c) : RepV (M.cut n) v c := by
  cases h with
  | tup cs arr hl h => exact .tup cs arr hl (fun k v c hv hc => (h k v c hv hc).bel1 (all_get hb hv))
  | agg cs arr hl h h1 => exact RepV.bel1 hb (.agg cs arr hl h h1)
  | fn f first caps a1 a2 l1 l2 h1 h2 => exact RepV.bel1 hb (.fn f first caps a1 a2 l1 l2 h1 h2)
  | any v => exact .any _
  | d x v h => exact .d _ _ h
  | own id g len r ao cap h1 h2 h3 h4 h5 => exact RepV.bel0 hb (.own id g len r ao cap h1 h2 h3 h4 h5)
  | ptr id g off r b h1 h2 h3 => exact RepV.bel0 hb (.ptr id g off r b h1 h2 h3)
  | rptr cs off b o vals h1 h2 => exact .rptr _ _ b o vals h1 h2
  | mp id r b h1 h2 => exact RepV.bel0 hb (.mp id r b h1 h2)
  | yl id r b h1 h2 => exact RepV.bel0 hb (.yl id r b h1 h2)
theorem env_bel {env : Env} (hb : env.all (fun p => Go.Proofs.Ytdnefcjbcieecaa.bel2 n p.2) = true) (k : Nat) : Go.Proofs.Ytdnefcjbcieecaa.bel2 n (env.get k) = true := by
  induction env with
  | nil => rfl
  | cons p env ih =>
    simp only [List.all_cons, Bool.and_eq_true] at hb
    simp only [Env.get]
    split
    · exact hb.1
    · exact ih hb.2
theorem BlkAt.bel {w : World} {r : Ref} {blk : Blk} (hb : blkBel n (some blk) = true) (h : BlkAt M w r blk) : BlkAt (M.cut n) w r blk := by
  cases blk with
  | box cs =>
    obtain ⟨h0, b, arr, T, h1, h2, h3, h4⟩ := h
    exact ⟨h0, b, arr, T, h1, h2, ⟨h3.1, fun k v c hv hc => (h3.2 k v c hv hc).bel1 (all_get hb hv)⟩, h4⟩
  | row e sz g cs => exact h
  | obj p => exact h
  | map es =>
    obtain ⟨h0, b, arr, clk, h1, h2, h3, h4⟩ := h
    refine ⟨h0, b, arr, clk, h1, h2, h3, fun k e x he hx => ?_⟩
    have := all_get hb he
    simp only [Bool.and_eq_true] at this
    exact ⟨(h4 k e x he hx).1.bel1 this.1, (h4 k e x he hx).2.bel1 this.2⟩
  | loop L =>
    obtain ⟨h0, b, rec, h1, h2, k1, k2, k3, k4, k5, k6, k7⟩ := h
    exact ⟨h0, b, rec, h1, h2, k1, k2, k3, k4, k5, k6, fun k => (k7 k).bel2 (env_bel hb k)⟩
end
theorem Post.cut {M M' : Mem} {h h1 : Heap} {w w' : World} (hs : Sim M h w) (p : Post h.length M h w M' h1 w') (hb : (h1.take h.length).all (blkBel h.length) = true) :
    Post h.length M h w (M'.cut h.length) (h1.take h.length) w' := by
  have hd : ∀ i r, M.mu i = some r → i < h.length := fun i r hr => by
    rcases Nat.lt_or_ge i h.length with hl | hl
    · exact hl
    · rw [hs.dom i hl] at hr; cases hr
  have hget : ∀ (i : Nat) x, (h1.take h.length)[i]? = some x → i < h.length ∧ h1[i]? = some x := fun i x hx => by
    rw [List.getElem?_take] at hx
    split at hx
    · rename_i hl; exact ⟨hl, hx⟩
    · cases hx
  have hlive : ∀ b, liveBlk (M'.cut h.length) (h1.take h.length) b → liveBlk M' h1 b := fun b ⟨i, blk, r, hi, hr, hb⟩ => ⟨i, blk, r, (hget i _ hi).2, (Mem.cut_some hr).2, hb⟩
  have hlen := p.len
  refine ⟨p.ro, p.dc, fun i r hr => ?_, by simp; omega, ⟨fun i blk hi => ?_, ?_, fun b o v hv => ?_, fun i hi => ?_, fun b hb => ?_⟩, p.os, p.tape, p.output, p.size, p.keep, fun b hb hl => p.live b hb (hlive b hl)⟩
  · rw [Mem.cut_lt _ (hd i r hr)]; exact p.le i r hr
  · obtain ⟨hlt, hi'⟩ := hget i _ hi
    obtain ⟨r, hr, hat⟩ := p.sim.blks i blk hi'
    exact ⟨r, by rw [Mem.cut_lt _ hlt]; exact hr, hat.bel (all_get hb hi)⟩
  · intro i j bi bj ri rj b hi hj hri hrj
    exact p.sim.inj i j bi bj ri rj b (hget i _ hi).2 (hget j _ hj).2 (Mem.cut_some hri).2 (Mem.cut_some hrj).2
  · exact ⟨(p.sim.ro b o v hv).1, fun hl => (p.sim.ro b o v hv).2 (hlive b hl)⟩
  · have : h.length ≤ i := by simp at hi; omega
    simp [Mem.cut]; omega
  · exact ⟨(p.sim.df b hb).1, fun hl => (p.sim.df b hb).2 (hlive b hl)⟩
theorem freeze0 {n : Nat} {M M1 : Mem} {h h1 : Heap} {w w1 : World} {id g : Nat} {ds : List D} {b : Option Blk} (p : Post n M h w M1 h1 w1) (hb : h1[id]? = some b) (hd : blkDs b = some (g, ds)) :
    ∃ M2 r, Fz M1 M2 id g ds r ∧ Post n M h w M2 (h1.set id none) w1 := by
  obtain ⟨M2, r, z, hs2, hnw⟩ := freeze_sim p.sim hb hd
  have hp2 := freeze_post p z hs2 hnw
  have hlt : id < h1.length := (List.getElem?_eq_some_iff.1 hb).1
  have hpre : ∀ (j : Nat) x, (h1.set id none)[j]? = some (some x) → j ≠ id ∧ h1[j]? = some (some x) := fun j x hx => by
    by_cases hj : j = id
    · subst hj; rw [List.getElem?_set_self hlt] at hx; cases hx
    · exact ⟨hj, by rwa [List.getElem?_set_ne (Ne.symm hj)] at hx⟩
  have hfz : ∀ (j : Nat) x, (h1.set id none)[j]? = some (some x) → ∃ y, (fzH id g ds h1)[j]? = some (some y) := fun j x hx => by
    obtain ⟨hj, hx⟩ := hpre j x hx
    unfold fzH
    rw [List.getElem?_set_ne (Ne.symm hj), List.getElem?_map, hx]
    simp only [Option.map_some]
    unfold fzB
    split
    · exact ⟨_, rfl⟩
    · exact ⟨_, rfl⟩
    · exact ⟨_, rfl⟩
  have hlive : ∀ bb, liveBlk M2 (h1.set id none) bb → liveBlk M2 (fzH id g ds h1) bb := fun bb ⟨i, blk, r, hi, hr, hb⟩ => by
    obtain ⟨y, hy⟩ := hfz i _ hi
    exact ⟨i, y, r, hy, hr, hb⟩
  refine ⟨M2, r, z, hp2.ro, hp2.dc, hp2.le, by simpa using p.len, ⟨fun i blk hi => ?_, fun i j bi bj ri rj bb hi hj hri hrj => ?_, fun bb o v hv => ?_, fun i hi => ?_, fun bb hbb => ?_⟩, hp2.os, hp2.tape, hp2.output, hp2.size, hp2.keep, fun bb hbb hl => hp2.live bb hbb (hlive bb hl)⟩
  · obtain ⟨hne, hi'⟩ := hpre i _ hi
    obtain ⟨r', hr', hat⟩ := p.sim.blks i blk hi'
    exact ⟨r', by rw [z.mu]; exact hr', BlkAt.of_same z.cc z.ro (fun _ _ => z.mono) (fun _ _ => rfl) hat⟩
  · rw [z.mu] at hri hrj
    exact p.sim.inj i j bi bj ri rj bb (hpre i _ hi).2 (hpre j _ hj).2 hri hrj
  · exact ⟨(hs2.ro bb o v hv).1, fun hl => (hs2.ro bb o v hv).2 (hlive bb hl)⟩
  · exact hs2.dom i (by simpa [fzH] using hi)
  · exact ⟨(hs2.df bb hbb).1, fun hl => (hs2.df bb hbb).2 (hlive bb hl)⟩
def rowIn (n : Nat) : V → List (Nat × Nat)
  | .own id g _ => if Nat.ble n id then [(id, g)] else []
  | _ => []
def rowsIn1 (n : Nat) : V → List (Nat × Nat)
  | .agg cs => cs.flatMap (rowIn n)
  | v => rowIn n v
def rowsIn (n : Nat) : V → List (Nat × Nat)
  | .tup cs => cs.flatMap (rowsIn1 n)
  | v => rowsIn1 n v
def frzRows : List (Nat × Nat) → V → Heap → V × Heap
  | [], v, h => (v, h)
  | (id, g) :: r, v, h => match frzB h (.own id g 0) with
    | some (id', g', ds) => frzRows r (fzV id' g' ds v) (h.set id' none)
    | none => frzRows r v h
theorem frzRows_post {n : Nat} {M : Mem} {h : Heap} {w w1 : World} {cv : Value} : ∀ (l : List (Nat × Nat)) (v : V) (h1 : Heap) (M1 : Mem), Post n M h w M1 h1 w1 → RepV M1 v cv →
    ∃ M2, Post n M h w M2 (frzRows l v h1).2 w1 ∧ RepV M2 (frzRows l v h1).1 cv
  | [], v, h1, M1, p, hv => ⟨M1, p, hv⟩
  | (id, g) :: r, v, h1, M1, p, hv => by
    simp only [frzRows]
    split
    · rename_i id' g' ds e
      obtain ⟨b, hb, hd⟩ := frzB_spec e
      obtain ⟨M2, r2, z, hp2⟩ := freeze0 p hb hd
      exact frzRows_post r _ _ M2 hp2 (z.rep hv)
    · exact frzRows_post r v h1 M1 p hv
def finX (n : Nat) (v : V) (h : Heap) : V × Heap :=
  match frzRows (rowsIn n v) v h with
  | (v1, h1) => if (bel2 n v1 && (h1.take n).all (blkBel n)) = true then (v1, h1.take n) else (v, h)
theorem ACalls.finX {P : Program} {f : FuncId} {vs : List V} {h : Heap} {v : V} {h1 : Heap} (hc : ACalls P f vs h fun v' h' => v' = v ∧ h' = h1) :
    ACalls P f vs h fun v' h' => v' = (finX h.length v h1).1 ∧ h' = (finX h.length v h1).2 := by
  refine ⟨hc.1, fun M w args hm hs ha => (hc.2 M w args hm hs ha).mono ?_⟩
  rintro e w' ⟨cv, v', h', M', rfl, hp, hv, rfl, rfl⟩
  unfold Go.Proofs.Ytdnefcjbcieecaa.finX
  obtain ⟨M2, hp2, hv2⟩ := frzRows_post (rowsIn h.length v') v' h' M' hp hv
  generalize frzRows (rowsIn h.length v') v' h' = q at hp2 hv2
  obtain ⟨v1, h1⟩ := q
  simp only at hp2 hv2 ⊢
  split
  · rename_i hb
    simp only [Bool.and_eq_true] at hb
    exact ⟨cv, _, _, _, rfl, hp2.cut hs hb.2, hv2.bel2 hb.1, rfl, rfl⟩
  · exact ⟨cv, _, _, M', rfl, hp, hv, rfl, rfl⟩
theorem ACalls.cut {P : Program} {f : FuncId} {vs : List V} {h : Heap} {R : V → Heap → Prop}
    (hc : ACalls P f vs h fun v h' => bel2 h.length v = true ∧ (h'.take h.length).all (blkBel h.length) = true ∧ R v (h'.take h.length)) : ACalls P f vs h R := by
  refine ⟨hc.1, fun M w args hm hs ha => (hc.2 M w args hm hs ha).mono ?_⟩
  rintro e w' ⟨cv, v, h', M', rfl, hp, hv, hb1, hb2, hR⟩
  exact ⟨cv, v, _, _, rfl, hp.cut hs hb2, hv.bel2 hb1, hR⟩
end Go.Proofs.Ytdnefcjbcieecaa
