/- A first-order machine over the compiled code: each state is data, so that the simplifier runs it a step at a time. -/
import Derived.Test.YtdnefcjbcieecaaCoreL
set_option linter.unusedVariables false
set_option linter.unusedSimpArgs false
namespace Go.Proofs.Ytdnefcjbcieecaa
open Go

/-- A proposition with its decision. -/
structure DP where
  P : Prop
  d : Decidable P
@[reducible] def dp (p : Prop) [d : Decidable p] : DP := ⟨p, d⟩
def dAnd (a b : DP) : DP := ⟨a.P ∧ b.P, @instDecidableAnd a.P b.P a.d b.d⟩

def evBin (op : BinOp) (x y : V) : Option (DP × V) :=
  match x, y with
  | .d (.int k a), .d (.int k' b) =>
    let ar (r : Int) : DP × V := match k with
      | .i64 => (dp (k = k' ∧ -9223372036854775808 ≤ r ∧ r ≤ 9223372036854775807), .d (.int .i64 r))
      | k => (dp (k = k'), .d (.int k (k.wrap r)))
    match op with
    | .add => some (ar (a + b))
    | .sub => some (ar (a - b))
    | .mul => some (ar (a * b))
    | .quo => some (dAnd (dp (b ≠ 0)) (ar (a.tdiv b)).1, (ar (a.tdiv b)).2)
    | .rem => some (dp (k = k' ∧ b ≠ 0), .d (.int k (a.tmod b)))
    | .shr => some (dp (0 ≤ b), .d (.int k (a.fdiv (2 ^ (min b.toNat k.bits)))))
    | .shl => match k with
      | .i64 => some (dp (0 ≤ b ∧ -9223372036854775808 ≤ a * 2 ^ (min b.toNat 64) ∧ a * 2 ^ (min b.toNat 64) ≤ 9223372036854775807), .d (.int .i64 (a * 2 ^ (min b.toNat 64))))
      | _ => none
    | .and => some (dp (k = k'), .d (.int k (bitsV .and k a b)))
    | .or => some (dp (k = k'), .d (.int k (bitsV .or k a b)))
    | .xor => some (dp (k = k'), .d (.int k (bitsV .xor k a b)))
    | .eql => some (dp (k = k'), .d (.bool (a == b)))
    | .neq => some (dp (k = k'), .d (.bool (a != b)))
    | .lss => some (dp (k = k'), .d (.bool (decide (a < b))))
    | .leq => some (dp (k = k'), .d (.bool (decide (a ≤ b))))
    | .gtr => some (dp (k = k'), .d (.bool (decide (b < a))))
    | .geq => some (dp (k = k'), .d (.bool (decide (b ≤ a))))
    | _ => none
  | _, _ => none

def evUn (op : UnOp) (x : V) : Option (DP × V) :=
  match op, x with
  | .not, .d (.bool b) => some (dp True, .d (.bool (!b)))
  | .neg, .d (.int .i64 a) => some (dp (-9223372036854775808 ≤ 0 - a ∧ 0 - a ≤ 9223372036854775807), .d (.int .i64 (0 - a)))
  | _, _ => none

def evLoad (g : Option Nat) (x : V) (h : Heap) : Option (DP × V) :=
  match g, x with
  | none, .ptr id g off => (h.cell id g off).map fun v => (dp True, v)
  | none, .rptr ds off => (ds[off]?).map fun v => (dp True, .d v)
  | some n, .ptr id g off => (h.cells id g off n).map fun vs => (dp True, .agg vs)
  | some n, .rptr ds off => some (dp (off + n ≤ ds.length), .agg (((ds.drop off).take n).map .d))
  | _, _ => none

def evField (g : Option Nat) (off : Nat) (x : V) : Option (DP × V) :=
  match g, x with
  | none, .agg cs => (cs[off]?).map fun v => (dp True, v)
  | some n, .agg cs => some (dp (off + n ≤ cs.length), .agg ((cs.drop off).take n))
  | _, _ => none

def evIdx (sz : Nat) (x i : V) (h : Heap) : Option (DP × V) :=
  match i, x with
  | .d (.int _ i), .d (.sl _ len cs) => (elemAt cs sz i.toNat).map fun e => (dp (0 ≤ i ∧ i < len), .rptr e 0)
  | .d (.int _ i), .own id g len => some (dp ((0 ≤ i ∧ i < len) ∧ (h.cells id g (i.toNat * sz) sz).isSome = true), .ptr id g (i.toNat * sz))
  | _, _ => none

def evIdxA (len sz : Nat) (x i : V) : Option (DP × V) :=
  match i, x with
  | .d (.int _ i), .ptr id g o => some (dp (0 ≤ i ∧ i < len), .ptr id g (o + i.toNat * sz))
  | .d (.int _ i), .rptr ds o => some (dp (0 ≤ i ∧ i < len), .rptr ds (o + i.toNat * sz))
  | _, _ => none

def evFA (off : Nat) (x : V) : Option (DP × V) :=
  match x with
  | .ptr id g o => some (dp True, .ptr id g (o + off))
  | .rptr ds o => some (dp True, .rptr ds (o + off))
  | _ => none

def evExt (x : V) (k : Nat) : Option (DP × V) :=
  match x with
  | .tup vs => (vs[k]?).map fun v => (dp True, v)
  | _ => none

def evConv (k : IntKind) (x : V) : Option (DP × V) :=
  match x with
  | .d (.int _ n) => some (dp True, .d (.int k (k.wrap n)))
  | _ => none

def evLen (x : V) : Option (DP × V) :=
  match x with
  | .d (.sl _ len _) => some (dp True, .d (.int .i64 len))
  | .own _ _ len => some (dp True, .d (.int .i64 len))
  | .d .nils => some (dp True, .d (.int .i64 0))
  | _ => none

def evLenStr (x : V) : Option (DP × V) :=
  match x with
  | .d (.str l) => some (dp True, .d (.int .i64 l.length))
  | _ => none

def minL : List Int → Option Int
  | [] => none
  | x :: xs => some (xs.foldl (fun a b => if b < a then b else a) x)
def maxL : List Int → Option Int
  | [] => none
  | x :: xs => some (xs.foldl (fun a b => if b > a then b else a) x)

def evApp (own : Bool) (e sz bytes : Nat) (x y : V) (h : Heap) : Option (DP × V × Heap) :=
  match conts h y with
  | none => none
  | some q => match own, x with
    | false, .d (.sl ex n cs) => some (dp (q.2.length = q.1 * sz ∧ ex = true ∧ cs.length = n * sz ∧ n + q.1 ≤ 140737488355328 ∧ (n + q.1) * bytes ≤ 140737488355328), .d (.sl false (n + q.1) (cs ++ q.2)), h)
    | false, .d .nils => some (dp (q.2.length = q.1 * sz ∧ q.1 ≤ 140737488355328 ∧ q.1 * bytes ≤ 140737488355328), .d (.sl false q.1 q.2), h)
    | true, .d .nils => some (dp (q.2.length = q.1 * sz ∧ q.1 ≤ 140737488355328 ∧ q.1 * bytes ≤ 140737488355328), .own h.length 0 q.1, h ++ [some (.row e sz 0 q.2)])
    | true, .d (.sl ex n cs) => if q.1 = 0 then some (dp (q.2.length = q.1 * sz), .d (.sl ex n cs), h)
        else some (dp (q.2.length = q.1 * sz ∧ ex = true ∧ cs.length = n * sz ∧ n + q.1 ≤ 140737488355328 ∧ (n + q.1) * bytes ≤ 140737488355328), .own h.length 0 (n + q.1), h ++ [some (.row e sz 0 (cs ++ q.2))])
    | _, _ => none

def evSlice (sz : Nat) (x l t : V) (mx : Option V) (hasHi : Bool) : Option (DP × V) :=
  match x, l, t, mx with
  | .d (.sl _ len cs), .d (.int _ l), .d (.int _ t), none =>
    some (dp (cs.length = len * sz ∧ 0 ≤ l ∧ l ≤ t ∧ t ≤ len), .d (.sl false (t.toNat - l.toNat) ((cs.drop (l.toNat * sz)).take ((t.toNat - l.toNat) * sz))))
  | .d (.sl _ len cs), .d (.int _ l), .d (.int _ t), some (.d (.int _ m)) =>
    some (dp (cs.length = len * sz ∧ 0 ≤ l ∧ l ≤ t ∧ t = m ∧ m ≤ len ∧ hasHi = true), .d (.sl true (t.toNat - l.toNat) ((cs.drop (l.toNat * sz)).take ((t.toNat - l.toNat) * sz))))
  | .own _ _ len, l, t, mx => (ev0 len (.d (.sl true 0 [])) l t mx hasHi).map fun v => (dp True, v)
  | .d .nils, l, t, mx => (ev0 0 (.d .nils) l t mx hasHi).map fun v => (dp True, v)
  | _, _, _, _ => none

def lenOfSl : V → Nat
  | .d (.sl _ len _) => len
  | _ => 0

def inH (h : Heap) : Option (DP × V) → Option (DP × V × Heap)
  | none => none
  | some (p, v) => some (p, v, h)

def evOp (c : COp) (ρ : Operand → V) (h : Heap) : Option (DP × V × Heap) :=
  match c with
  | .move x => some (dp True, ρ x, h)
  | .alloc z => some (dp True, .ptr h.length 0 0, h ++ [some (.box z)])
  | .box true x => (cellsV (ρ x)).map fun cs => (dp True, .ptr h.length 0 0, h ++ [some (.box cs)])
  | .box false x => match (cellsV (ρ x)).bind toDs with
    | some ds => some (dp True, .rptr ds 0, h)
    | none => (cellsV (ρ x)).map fun cs => (dp True, .ptr h.length 0 0, h ++ [some (.box cs)])
  | .build z ps => (partsV ρ ps).map fun qs => (dp (fitL z.length qs = true), .agg (fillL z qs), h)
  | .bslice true e sz len z ps => (partsD ρ sz ps).map fun qs => (dp (fitL z.length qs = true), .own h.length 0 len, h ++ [some (.row e sz 0 (fillL z qs))])
  | .bslice false _ sz len z ps => (partsD ρ sz ps).map fun qs => (dp (fitL z.length qs = true), .d (.sl true len (fillL z qs)), h)
  | .load g x => inH h (evLoad g (ρ x) h)
  | .store n x v => match ρ x, cellsV (ρ v) with
    | .ptr id g off, some vs => (h.put id g off vs).map fun h' => (dp (vs.length = n), .any, h')
    | _, _ => none
  | .bin op x y => inH h (evBin op (ρ x) (ρ y))
  | .un op x => inH h (evUn op (ρ x))
  | .conv k x => inH h (evConv k (ρ x))
  | .fieldAddr off x => inH h (evFA off (ρ x))
  | .field g off x => inH h (evField g off (ρ x))
  | .indexS sz x i => inH h (evIdx sz (ρ x) (ρ i) h)
  | .indexA len sz x i => inH h (evIdxA len sz (ρ x) (ρ i))
  | .extract x k => inH h (evExt (ρ x) k)
  | .nilCheck x => inH h (evFA 0 (ρ x))
  | .mkfn f a c => some (dp True, .fn f (a.map ρ) (c.map ρ), h)
  | .len x => inH h (evLen (ρ x))
  | .lenArr m => some (dp True, .d (.int .i64 m), h)
  | .lenStr x => inH h (evLenStr (ρ x))
  | .append own e sz bytes x y => evApp own e sz bytes (ρ x) (ρ y) h
  | .min xs => ((intsV (xs.map ρ)).bind minL).map fun n => (dp True, .d (.int .i64 n), h)
  | .max xs => ((intsV (xs.map ρ)).bind maxL).map fun n => (dp True, .d (.int .i64 n), h)
  | .isNil k neg x => (evIsNil k (ρ x) h).map fun b => (dp True, .d (.bool (if neg then !b else b)), h)
  | .binB neg x y => (evBinB neg (ρ x) (ρ y)).map fun v => (dp True, v, h)
  | .binS op x y => (evBinS op (ρ x) (ρ y)).map fun v => (dp True, v, h)
  | .eqA neg sh x y => (evEqA neg sh (ρ x) (ρ y)).map fun v => (dp True, v, h)
  | .mkmap => some (dp True, .mp h.length, h ++ [some (.map [])])
  | .lookup agg sh z ok x k => (evLk agg sh z ok (ρ x) (ρ k) h).map fun v => (dp True, v, h)
  | .mupd agg sh x k v => (evUp agg sh (ρ x) (ρ k) (ρ v) h).map fun h' => (dp True, .any, h')
  | .mkslice e sz b z l c => (evMk e sz b z (ρ l) (ρ c) h).map fun q => (dp True, q.1, q.2)
  | .sliceA len sz x lo hi => (evSlA len sz (ρ x) ((lo.map ρ).getD (.d (.int .i64 0))) ((hi.map ρ).getD (.d (.int .i64 len)))).map fun v => (dp True, v, h)
  | .sliceS sz x lo hi mx => inH h (evSlice sz (ρ x) ((lo.map ρ).getD (.d (.int .i64 0))) ((hi.map ρ).getD (.d (.int .i64 (lenOfSl (ρ x))))) (mx.map ρ) hi.isSome)
  | _ => none

theorem inH_some {h h' : Heap} {o : Option (DP × V)} {p : DP} {v : V} (hh : inH h o = some (p, v, h')) : o = some (p, v) ∧ h' = h := by
  cases o with
  | none => cases hh
  | some q => cases hh; exact ⟨rfl, rfl⟩

theorem evOp_sound {c : COp} {ρ : Operand → V} {h h' : Heap} {p : DP} {v : V} {K : V → Heap → Prop} (he : evOp c ρ h = some (p, v, h')) (hp : p.P) (hk : K v h') : step c ρ h K := by
  cases c with
  | move x => cases he; exact hk
  | pick c a b => cases he
  | alloc z => cases he; exact hk
  | box own x =>
    cases own with
    | true => obtain ⟨cs, hc, he⟩ := map_some' he; cases he; exact ⟨cs, hc, hk⟩
    | false =>
      simp only [evOp] at he
      simp only [step]
      split at he
      · rename_i ds hd; cases he; rw [hd]; exact hk
      · rename_i hd; obtain ⟨cs, hc, he⟩ := map_some' he; cases he; rw [hd]; exact ⟨cs, hc, hk⟩
  | build z ps => obtain ⟨qs, hc, he⟩ := map_some' he; cases he; exact ⟨qs, hc, hp, hk⟩
  | bslice own e sz len z ps =>
    cases own with
    | true => obtain ⟨qs, hc, he⟩ := map_some' he; cases he; exact ⟨qs, hc, hp, hk⟩
    | false => obtain ⟨qs, hc, he⟩ := map_some' he; cases he; exact ⟨qs, hc, hp, hk⟩
  | load g x =>
    obtain ⟨he2, hh⟩ := inH_some he
    clear he
    subst hh
    have he := he2
    clear he2
    unfold evLoad at he
    split at he
    · rename_i id ge off e; obtain ⟨u, hu, he⟩ := map_some' he; cases he; simp only [step, onPtr, e]; exact ⟨_, hu, hk⟩
    · rename_i ds off e; obtain ⟨u, hu, he⟩ := map_some' he; cases he; simp only [step, onPtr, e]; exact ⟨_, hu, hk⟩
    · rename_i n id ge off e; obtain ⟨u, hu, he⟩ := map_some' he; cases he; simp only [step, onPtr, e]; exact ⟨_, hu, hk⟩
    · rename_i n ds off e; cases he; simp only [step, onPtr, e]; exact ⟨hp, hk⟩
    · cases he
  | store n x v' =>
    simp only [evOp] at he
    split at he
    · rename_i id ge off vs e1 e2
      obtain ⟨u, hu, he⟩ := map_some' he
      cases he
      simp only [step, onPtr, e1]
      exact ⟨vs, e2, hp, _, hu, hk⟩
    · cases he
  | bin op x y =>
    obtain ⟨he2, hh⟩ := inH_some he
    clear he
    subst hh
    have he := he2
    clear he2
    unfold evBin at he
    split at he
    · rename_i k a k' b e1 e2
      simp only [step, onInts, e1, e2]
      have ar : ∀ r, (match k with
          | .i64 => (dp (k = k' ∧ -9223372036854775808 ≤ r ∧ r ≤ 9223372036854775807), V.d (.int .i64 r))
          | k => (dp (k = k'), V.d (.int k (k.wrap r)))) = (p, v) → k = k' ∧ arV k r fun v => K v h' := by
        intro r hr
        cases k <;> cases hr <;> first | exact ⟨hp.1, ⟨hp.2.1, hp.2.2⟩, hk⟩ | exact ⟨hp, hk⟩
      have ar2 : ∀ r, ∀ q : DP × V, (match k with
          | .i64 => (dp (k = k' ∧ -9223372036854775808 ≤ r ∧ r ≤ 9223372036854775807), V.d (.int .i64 r))
          | k => (dp (k = k'), V.d (.int k (k.wrap r)))) = q → q.1.P → q.2 = v → k = k' ∧ arV k r fun v => K v h' := by
        intro r q hr h1 h2
        subst hr h2
        cases k <;> first | exact ⟨h1.1, ⟨h1.2.1, h1.2.2⟩, hk⟩ | exact ⟨h1, hk⟩
      cases op <;> simp only [Option.some.injEq] at he <;> first
        | exact ar _ he
        | (cases he; exact ⟨hp, hk⟩)
        | (cases he; exact ⟨hp.1, hp.2, hk⟩)
        | (simp only [Prod.mk.injEq] at he; obtain ⟨h1, h2⟩ := he; subst h1; obtain ⟨h3, h4⟩ := hp; have := ar2 _ _ rfl h4 h2; exact ⟨this.1, h3, this.2⟩)
        | (split at he <;> first | (cases he; exact ⟨hp.1, ⟨hp.2.1, hp.2.2⟩, hk⟩) | cases he)
        | cases he
    · cases he
  | un op x =>
    obtain ⟨he2, hh⟩ := inH_some he
    clear he
    subst hh
    have he := he2
    clear he2
    unfold evUn at he
    split at he
    · rename_i b e; cases he; simp only [step, unV, onBools, e]; exact hk
    · rename_i a e; cases he; simp only [step, unV, onInt, e]; exact ⟨hp, hk⟩
    · cases he
  | conv k x =>
    obtain ⟨he2, hh⟩ := inH_some he
    clear he
    subst hh
    have he := he2
    clear he2
    unfold evConv at he
    split at he
    · rename_i e; cases he; simp only [step, onInt, e]; exact hk
    · cases he
  | fieldAddr off x =>
    obtain ⟨he2, hh⟩ := inH_some he
    clear he
    subst hh
    have he := he2
    clear he2
    unfold evFA at he
    split at he
    · rename_i e; cases he; simp only [step, onPtr, e]; exact hk
    · rename_i e; cases he; simp only [step, onPtr, e]; exact hk
    · cases he
  | field g off x =>
    obtain ⟨he2, hh⟩ := inH_some he
    clear he
    subst hh
    have he := he2
    clear he2
    unfold evField at he
    split at he
    · rename_i e; obtain ⟨u, hu, he⟩ := map_some' he; cases he; simp only [step, onAgg, e]; exact ⟨_, hu, hk⟩
    · rename_i e; cases he; simp only [step, onAgg, e]; exact ⟨hp, hk⟩
    · cases he
  | indexS sz x i =>
    obtain ⟨he2, hh⟩ := inH_some he
    clear he
    subst hh
    have he := he2
    clear he2
    unfold evIdx at he
    split at he
    · rename_i e1 e2; obtain ⟨u, hu, he⟩ := map_some' he; cases he; simp only [step, natI, onInt, onSl, e1, e2]; exact ⟨hp, _, hu, hk⟩
    · rename_i e1 e2; cases he; simp only [step, natI, onInt, onSl, e1, e2]; exact ⟨hp.1, Option.isSome_iff_exists.1 hp.2, hk⟩
    · cases he
  | indexA len sz x i =>
    obtain ⟨he2, hh⟩ := inH_some he
    clear he
    subst hh
    have he := he2
    clear he2
    unfold evIdxA at he
    split at he
    · rename_i e1 e2; cases he; simp only [step, natI, onInt, onPtr, e1, e2]; exact ⟨hp, hk⟩
    · rename_i e1 e2; cases he; simp only [step, natI, onInt, onPtr, e1, e2]; exact ⟨hp, hk⟩
    · cases he
  | extract x k =>
    obtain ⟨he2, hh⟩ := inH_some he
    clear he
    subst hh
    have he := he2
    clear he2
    unfold evExt at he
    split at he
    · rename_i e; obtain ⟨u, hu, he⟩ := map_some' he; cases he; simp only [step, onTup, e]; exact ⟨_, hu, hk⟩
    · cases he
  | nilCheck x =>
    obtain ⟨he2, hh⟩ := inH_some he
    clear he
    subst hh
    have he := he2
    clear he2
    unfold evFA at he
    split at he
    · rename_i e; cases he; simp only [step, onPtr, e]; exact hk
    · rename_i e; cases he; simp only [step, onPtr, e]; exact hk
    · cases he
  | mkfn f a c => cases he; exact hk
  | len x =>
    obtain ⟨he2, hh⟩ := inH_some he
    clear he
    subst hh
    have he := he2
    clear he2
    unfold evLen at he
    split at he
    · rename_i e; cases he; simp only [step, onSl, e]; exact hk
    · rename_i e; cases he; simp only [step, onSl, e]; exact hk
    · rename_i e; cases he; simp only [step, onSl, e]; exact hk
    · cases he
  | lenArr m => cases he; exact hk
  | lenStr x =>
    obtain ⟨he2, hh⟩ := inH_some he
    clear he
    subst hh
    have he := he2
    clear he2
    unfold evLenStr at he
    split at he
    · rename_i e; cases he; simp only [step, onStr, e]; exact hk
    · cases he
  | append own e sz bytes x y =>
    simp only [evOp, evApp] at he
    split at he
    · cases he
    · rename_i q hq
      split at he
      · rename_i ex n cs e1; cases he; simp only [step, appendV, onSl, e1]; exact ⟨q, hq, hp.1, hp.2, hk⟩
      · rename_i e1; cases he; simp only [step, appendV, onSl, e1]; exact ⟨q, hq, hp.1, hp.2, hk⟩
      · rename_i e1; cases he; simp only [step, appendV, onSl, e1]; exact ⟨q, hq, hp.1, hp.2, hk⟩
      · rename_i ex n cs e1
        split at he
        · rename_i h0; cases he; simp only [step, appendV, onSl, e1, h0, if_true]; exact ⟨q, hq, by simpa [h0] using hp, by rw [if_pos h0]; exact hk⟩
        · rename_i h0; cases he; simp only [step, appendV, onSl, e1]; exact ⟨q, hq, hp.1, by rw [if_neg h0]; exact ⟨hp.2, hk⟩⟩
      · cases he
  | min xs =>
    obtain ⟨m, hm, he⟩ := map_some' he
    cases he
    obtain ⟨l, hl, hm⟩ := bind_some' hm
    cases l with
    | nil => cases hm
    | cons a l => cases hm; exact ⟨_, hl, hk⟩
  | max xs =>
    obtain ⟨m, hm, he⟩ := map_some' he
    cases he
    obtain ⟨l, hl, hm⟩ := bind_some' hm
    cases l with
    | nil => cases hm
    | cons a l => cases hm; exact ⟨_, hl, hk⟩
  | sliceS sz x lo hi mx =>
    obtain ⟨he2, hh⟩ := inH_some he
    clear he
    subst hh
    have he := he2
    clear he2
    unfold evSlice at he
    split at he
    · rename_i ex len cs kl l kt t e1 e2 e3 e4
      cases he
      rw [e1] at e3
      simp only [lenOfSl] at e3
      simp only [step, onSl, e1, sliceV, natI, e2, e3, e4, onInt]
      exact ⟨hp.1, hp.2, hk⟩
    · rename_i ex len cs kl l kt t km m e1 e2 e3 e4
      cases he
      rw [e1] at e3
      simp only [lenOfSl] at e3
      simp only [step, onSl, e1, sliceV, natI, e2, e3, e4, onInt]
      exact ⟨hp.1, hp.2, hk⟩
    · rename_i id g len e1
      obtain ⟨v', hv, he⟩ := map_some' he
      cases he
      simp only [step, onSl, e1]
      rw [e1] at hv
      exact ⟨_, hv, hk⟩
    · rename_i e1
      obtain ⟨v', hv, he⟩ := map_some' he
      cases he
      simp only [step, onSl, e1]
      rw [e1] at hv
      exact ⟨_, hv, hk⟩
    · cases he
  | isNil k neg x => obtain ⟨v, hv, he⟩ := map_some' he; cases he; exact ⟨_, hv, hk⟩
  | binB neg x y => obtain ⟨v, hv, he⟩ := map_some' he; cases he; exact ⟨_, hv, hk⟩
  | binS op x y => obtain ⟨v, hv, he⟩ := map_some' he; cases he; exact ⟨_, hv, hk⟩
  | eqA neg sh x y => obtain ⟨v, hv, he⟩ := map_some' he; cases he; exact ⟨_, hv, hk⟩
  | mkmap => cases he; exact hk
  | lookup agg sh z ok x k => obtain ⟨v, hv, he⟩ := map_some' he; cases he; exact ⟨_, hv, hk⟩
  | mupd agg sh x k v => obtain ⟨v, hv, he⟩ := map_some' he; cases he; exact ⟨_, hv, hk⟩
  | mkslice e sz b z l c => obtain ⟨v, hv, he⟩ := map_some' he; cases he; exact ⟨_, hv, hk⟩
  | sliceA len sz x lo hi => obtain ⟨v, hv, he⟩ := map_some' he; cases he; exact ⟨_, hv, hk⟩
  | _ => cases he

def runOps2 (P : Program) (n : Nat) : List ROp → Env → Heap → (Env → Heap → Prop) → Prop
  | [], env, h, K => K env h
  | r :: rs, env, h, K => guardV env r.guard
      (match r.op with
        | .simple (.pick c a b) => brV (opnd env c) (runOps2 P n rs (env.put r.dst (opnd env a)) h K) (runOps2 P n rs (env.put r.dst (opnd env b)) h K)
        | .simple c => match evOp c (opnd env) h with
          | some (p, v, h') => p.P ∧ runOps2 P n rs (env.put r.dst v) h' K
          | none => False
        | .call f args => callV P (opnd env f) (args.map (opnd env)) h fun v h' => runOps2 P n rs (env.put r.dst v) h' K
        | .callx f args => callV P (opnd env f) (args.map (opnd env)) h fun v h' => HLe h h' ∧ runOps2 P n rs (env.put r.dst v) h' K
        | .app e sz bytes x y => match opnd env x with
          | .own id g len => match rowOf h id g, conts h (opnd env y) with
            | some q, some p => (q.1 = e ∧ q.2.1 = sz ∧ q.2.2.length = len * sz ∧ p.2.length = p.1 * sz ∧ len + p.1 ≤ 140737488355328 ∧ (len + p.1) * bytes ≤ 140737488355328) ∧
                runOps2 P n rs (env.put r.dst (.own id (g + 1) (len + p.1))) (h.set id (some (.row e sz (g + 1) (q.2.2 ++ p.2)))) K
            | _, _ => False
          | .d x => match evApp true e sz bytes (.d x) (opnd env y) h with
            | some (p, v, h') => p.P ∧ runOps2 P n rs (env.put r.dst v) h' K
            | none => False
          | _ => False)
      (runOps2 P n rs (env.put r.dst (.tup [])) h K)

section
variable (P : Program) (n : Nat)
theorem brV_imp {v : V} {a b a' b' : Prop} (h : brV v a b) (h1 : a → a') (h2 : b → b') : brV v a' b' := by
  unfold brV at *
  split at h
  · exact ⟨fun e => h1 (h.1 e), fun e => h2 (h.2 e)⟩
  · exact h
theorem guardV_imp {env : Env} {g : Option (Nat × Bool)} {a b a' b' : Prop} (h : guardV env g a b) (h1 : a → a') (h2 : b → b') : guardV env g a' b' := by
  unfold guardV at *
  cases g with
  | none => exact h1 h
  | some p =>
    obtain ⟨t, w⟩ := p
    simp only [guardB] at *
    split at h
    · exact h2 h
    · cases w with
      | true => exact brV_imp h h1 h2
      | false => exact brV_imp h h2 h1

theorem callV_mono {P : Program} {f : V} {args : List V} {h : Heap} {K K' : V → Heap → Prop} (hy : callV P f args h K) (hk : ∀ v h', K v h' → K' v h') : callV P f args h K' := by
  unfold callV at *
  split at hy
  · exact ACalls.mono hy hk
  · exact ACalls.mono hy hk
  · exact AYield.mono hy hk
  · exact hy

theorem runOps2_sound : ∀ (rs : List ROp) (env : Env) (h : Heap) (K : Env → Heap → Prop), runOps2 P n rs env h K → runOps P n rs env h K
  | [], _, _, _, h => h
  | r :: rs, env, h, K, hr => by
    refine guardV_imp hr (fun hy => ?_) (runOps2_sound rs _ _ _)
    have simple : ∀ c, r.op = .simple c → (match evOp c (opnd env) h with
          | some (p, v, h') => p.P ∧ runOps2 P n rs (env.put r.dst v) h' K
          | none => False) → runOp P n r env h fun env' h' => runOps P n rs env' h' K := by
      intro c hc hy
      unfold runOp
      rw [hc]
      split at hy
      · rename_i p v h' e
        exact evOp_sound e hy.1 (runOps2_sound rs _ _ _ hy.2)
      · exact hy.elim
    cases hop : r.op with
    | simple c =>
      rw [hop] at hy
      cases c with
      | pick c a b =>
        unfold runOp
        rw [hop]
        exact brV_imp hy (runOps2_sound rs _ _ _) (runOps2_sound rs _ _ _)
      | _ => exact simple _ hop hy
    | call f args =>
      rw [hop] at hy
      unfold runOp
      rw [hop]
      exact callV_mono hy (fun v h' hK => runOps2_sound rs _ _ _ hK)
    | callx f args =>
      rw [hop] at hy
      unfold runOp
      rw [hop]
      exact callV_mono hy (fun v h' hK => ⟨hK.1, runOps2_sound rs _ _ _ hK.2⟩)
    | app e sz bytes x y =>
      rw [hop] at hy
      unfold runOp
      rw [hop]
      simp only at hy ⊢
      split at hy
      · rename_i id g len ex
        rw [ex]
        simp only [onSl]
        split at hy
        · rename_i q p hq hp
          exact ⟨q, hq, ⟨hy.1.1, hy.1.2.1, hy.1.2.2.1⟩, p, hp, ⟨hy.1.2.2.2.1, hy.1.2.2.2.2.1, hy.1.2.2.2.2.2⟩, runOps2_sound rs _ _ _ hy.2⟩
        · exact hy.elim
      · rename_i dx ex
        split at hy
        · rename_i p v h' e'
          have he : evOp (.append true e sz bytes x y) (opnd env) h = some (p, v, h') := by simp only [evOp, ex]; exact e'
          have hst := evOp_sound (K := fun v h' => runOps P n rs (env.put r.dst v) h' K) he hy.1 (runOps2_sound rs _ _ _ hy.2)
          have hx : (∃ a b c, dx = .sl a b c) ∨ dx = .nils := by
            unfold evApp at e'
            split at e'
            · cases e'
            · split at e' <;> first | (rename_i h1 h2; cases h2; exact .inl ⟨_, _, _, rfl⟩) | (rename_i h1 h2; cases h2; exact .inr rfl) | cases e'
          rw [ex]
          simp only [onSl]
          rcases hx with ⟨a, b, c, rfl⟩ | rfl
          · exact hst
          · exact hst
        · exact hy.elim
      · exact hy.elim

end
end Go.Proofs.Ytdnefcjbcieecaa
