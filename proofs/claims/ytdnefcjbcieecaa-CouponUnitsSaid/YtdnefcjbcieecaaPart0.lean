/- A part of the proof. -/
import Derived.WalkKit
import Derived.Orders
import Derived.Laws.AppendOwn
import Derived.Laws.StructEq
import Derived.ChangeKeysEq
import Derived.MapKept
import Derived.Laws.Tables
import Derived.Great.BuildSlice
import Derived.Laws.MakeOwn
import Derived.Laws.Cover3
import Derived.Laws.Pointers
import Derived.OrdersIn
import Derived.RangeFuncIn
import Derived.RangeFuncLeaves
import Derived.RangeFuncSeq
set_option linter.unusedVariables false
set_option linter.unusedSimpArgs false
namespace Go.Proofs.Ytdnefcjbcieecaa
open Go
inductive D where
  | any
  | int (k : IntKind) (n : Int)
  | bool (b : Bool)
  | str (l : List UInt8)
  | nilf
  | nils
  | nilp
  | nili
  | fn (f : Fn)
  | sl (x : Bool) (len : Nat) (cs : List D)
  deriving Inhabited
inductive V where
  | any
  | d (x : D)
  | agg (cs : List V)
  | tup (vs : List V)
  | own (id g len : Nat)
  | ptr (id g off : Nat)
  | rptr (cs : List D) (off : Nat)
  | fn (f : Fn) (first caps : List V)
  | mp (id : Nat)
  | yl (id : Nat)
  deriving Inhabited
inductive SK where
  | int (k : IntKind)
  | bool
  | str
  deriving DecidableEq
inductive COp where
  | move (x : Operand)
  | pick (c a b : Operand)
  | alloc (zero : List V)
  | box (own : Bool) (x : Operand)
  | build (zero : List V) (parts : List (Nat × Nat × Operand))
  | bslice (own : Bool) (e sz len : Nat) (zero : List D) (parts : List (Nat × Operand))
  | load (agg : Option Nat) (x : Operand)
  | store (n : Nat) (x v : Operand)
  | bin (op : BinOp) (x y : Operand)
  | un (op : UnOp) (x : Operand)
  | conv (k : IntKind) (x : Operand)
  | fieldAddr (off : Nat) (x : Operand)
  | field (agg : Option Nat) (off : Nat) (x : Operand)
  | indexS (sz : Nat) (x i : Operand)
  | indexA (len sz : Nat) (x i : Operand)
  | extract (x : Operand) (k : Nat)
  | nilCheck (x : Operand)
  | mkfn (f : Fn) (first caps : List Operand)
  | len (x : Operand)
  | lenStr (x : Operand)
  | lenArr (m : Nat)
  | min (xs : List Operand)
  | max (xs : List Operand)
  | sliceS (sz : Nat) (x : Operand) (lo hi mx : Option Operand)
  | sliceA (len sz : Nat) (x : Operand) (lo hi : Option Operand)
  | append (own : Bool) (e sz bytes : Nat) (x y : Operand)
  | panic (x : Operand)
  | bad
  | eqA (neg : Bool) (sh : List SK) (x y : Operand)
  | mkmap
  | lookup (agg : Bool) (sh : List SK) (zero : V) (ok : Bool) (x k : Operand)
  | mupd (agg : Bool) (sh : List SK) (x k v : Operand)
  | mkslice (e sz bytes : Nat) (zero : List D) (l c : Operand)
  | isNil (k : Nat) (neg : Bool) (x : Operand)
  | binB (neg : Bool) (x y : Operand)
  | binS (op : BinOp) (x y : Operand)
abbrev Env := List (Nat × V)
def Env.get (env : Env) (k : Nat) : V :=
  match env with
  | [] => .any
  | (j, v) :: r => if k = j then v else Env.get r k
inductive RKind where
  | simple (c : COp)
  | call (f : Operand) (args : List Operand)
  | callx (f : Operand) (args : List Operand)
  | app (e sz bytes : Nat) (x y : Operand)
structure ROp where
  dst : Option Nat
  guard : Option (Nat × Bool)
  op : RKind
inductive CExit where
  | normal | exit (id : Nat) | ret
inductive CCode where
  | skip
  | region (ops : List ROp) (live : Option (List Nat))
  | both (a b : CCode)
  | frz (x : Nat × Option Nat)
  | rangeF (g : Operand) (ps : List Nat) (ca cb : CCode)
  | seq (a b : CCode)
  | cond (c : Operand) (a b : CCode)
  | block (id : Nat) (c : CCode)
  | loop (c : CCode)
  | exit (id : Nat)
  | ret
structure Cfg where
  own : List Nat
  lv : List (Nat × List Nat)
  sz : Nat
  fz : List (Nat × List (Nat × Option Nat)) := []
structure LoopB where
  G : Cfg
  ca : CCode
  cb : CCode
  ps : List Nat
  env : Env
  st : LoopState
  pend : Option CExit
def codeX : CExit → Code
  | .normal => .skip
  | .exit id => .exit id
  | .ret => .ret
structure Ref where
  blk : Option Nat
  cap : Nat
  gen : Nat
structure Mem where
  ro : Nat → Nat → Option Value
  mu : Nat → Option Ref
  df : Nat → Prop
  cc : Cfg → Code → CCode → Prop
inductive RepD (ro : Nat → Nat → Option Value) : D → Value → Prop
  | any (v : Value) (h : v.oneCell' = true) : RepD ro .any v
  | int (k : IntKind) (n : Int) : RepD ro (.int k n) (.int k n)
  | bool (b : Bool) : RepD ro (.bool b) (.bool b)
  | str (l : List UInt8) : RepD ro (.str l) (.string ⟨l.toArray⟩)
  | nilf : RepD ro .nilf .nilFunc
  | nils : RepD ro .nils (.slice none 0 0)
  | nilp : RepD ro .nilp (.pointer none)
  | nili : RepD ro .nili .nilIface
  | fn (f : Fn) : RepD ro (.fn f) (.func f #[] #[])
  | sl (x : Bool) (len cap : Nat) (cs : List D) (ao : Option Addr) (b off : Nat) (vals : Nat → Value)
      (hl : len ≤ cap) (hm : cap ≤ maxLen) (hx : x = true → cap = len)
      (hao : cs = [] ∨ ao = some ⟨b, off, none⟩)
      (hro : ∀ k, k < cs.length → ro b (off + k) = some (vals k))
      (hrep : ∀ (k : Nat) c, cs[k]? = some c → RepD ro c (vals k)) : RepD ro (.sl x len cs) (.slice ao len cap)
inductive RepV (M : Mem) : V → Value → Prop
  | any (v : Value) : RepV M .any v
  | d (x : D) (v : Value) (h : RepD M.ro x v) : RepV M (.d x) v
  | agg (cs : List V) (arr : List Value) (hl : cs.length = arr.length)
      (h : ∀ (k : Nat) v c, cs[k]? = some v → arr[k]? = some c → RepV M v c)
      (h1 : ∀ u ∈ arr, u.oneCell' = true) : RepV M (.agg cs) (.agg arr.toArray)
  | tup (cs : List V) (arr : List Value) (hl : cs.length = arr.length)
      (h : ∀ (k : Nat) v c, cs[k]? = some v → arr[k]? = some c → RepV M v c) : RepV M (.tup cs) (.tuple arr.toArray)
  | own (id g len : Nat) (r : Ref) (ao : Option Addr) (cap : Nat) (h : M.mu id = some r) (hg : g ≤ r.gen) (hl : len ≤ cap) (hm : cap ≤ maxLen)
      (hv : r.gen = g → ao = r.blk.map (fun b => ⟨b, 0, none⟩) ∧ cap = r.cap) : RepV M (.own id g len) (.slice ao len cap)
  | ptr (id g off : Nat) (r : Ref) (b : Nat) (h : M.mu id = some r) (hg : g ≤ r.gen)
      (hv : r.gen = g → r.blk = some b) : RepV M (.ptr id g off) (.pointer (some ⟨b, off, none⟩))
  | rptr (cs : List D) (off b o : Nat) (vals : Nat → Value)
      (hro : ∀ k, k < cs.length → M.ro b (o + k) = some (vals k))
      (hrep : ∀ (k : Nat) c, cs[k]? = some c → RepD M.ro c (vals k)) : RepV M (.rptr cs off) (.pointer (some ⟨b, o + off, none⟩))
  | fn (f : Fn) (first caps : List V) (a1 a2 : List Value) (h1l : first.length = a1.length) (h2l : caps.length = a2.length)
      (h1 : ∀ (k : Nat) v c, first[k]? = some v → a1[k]? = some c → RepV M v c)
      (h2 : ∀ (k : Nat) v c, caps[k]? = some v → a2[k]? = some c → RepV M v c) : RepV M (.fn f first caps) (.func f a1.toArray a2.toArray)
  | mp (id : Nat) (r : Ref) (b : Nat) (h : M.mu id = some r) (hv : r.gen = 0 → r.blk = some b) : RepV M (.mp id) (.map (some b))
  | yl (id : Nat) (r : Ref) (b : Nat) (h : M.mu id = some r) (hv : r.gen = 0 → r.blk = some b) : RepV M (.yl id) (.func (.yield b) #[] #[])
def RepL (M : Mem) (vs : List V) (cs : List Value) : Prop :=
  vs.length = cs.length ∧ ∀ (k : Nat) v c, vs[k]? = some v → cs[k]? = some c → RepV M v c
inductive Blk where
  | box (cs : List V)
  | row (e sz g : Nat) (cs : List D)
  | obj (p : Obj → Prop)
  | map (es : List (V × V))
  | loop (l : LoopB)
abbrev Heap := List (Option Blk)
def RepDs (M : Mem) (ds : List D) (cs : List Value) : Prop :=
  ds.length = cs.length ∧ ∀ (k : Nat) x c, ds[k]? = some x → cs[k]? = some c → RepD M.ro x c
def EntsAt (M : Mem) (es : List (V × V)) (arr : Array MapEntry) : Prop :=
  es.length = arr.size ∧ ∀ (k : Nat) e x, es[k]? = some e → arr[k]? = some x → RepV M e.1 x.key ∧ RepV M e.2 x.val
def LoopAt (M : Mem) (L : LoopB) (rec : Loop) : Prop :=
  rec.state = L.st ∧ rec.pending = L.pend.map codeX ∧ rec.params = L.ps.toArray ∧ M.cc L.G rec.assign L.ca ∧ M.cc L.G rec.body L.cb ∧ rec.tmps.size = L.G.sz ∧
    ∀ k, RepV M (L.env.get k) (rec.tmps.getD k undef)
def BlkAt (M : Mem) (w : World) (r : Ref) : Blk → Prop
  | .box cs => r.gen = 0 ∧ ∃ b arr T, r.blk = some b ∧ w.heap[b]? = some (.cells arr T (0, 0)) ∧ RepL M cs arr.toList ∧ ∀ u ∈ arr.toList, u.oneCell' = true
  | .row e sz g cs => r.gen = g ∧ ((cs = [] ∧ r.blk = none ∧ r.cap = 0) ∨ ∃ b arr, r.blk = some b ∧ w.heap[b]? = some (.cells arr e (0, 0)) ∧
      arr.size = r.cap * sz ∧ r.cap ≤ maxLen ∧ cs.length ≤ arr.size ∧ RepDs M cs (arr.toList.take cs.length))
  | .obj p => r.gen = 0 ∧ ∃ b o, r.blk = some b ∧ w.heap[b]? = some o ∧ p o
  | .map es => r.gen = 0 ∧ ∃ b arr clock, r.blk = some b ∧ w.heap[b]? = some (.map arr clock) ∧ EntsAt M es arr
  | .loop L => r.gen = 0 ∧ ∃ b rec, r.blk = some b ∧ w.heap[b]? = some (.loop rec) ∧ LoopAt M L rec
def liveBlk (M : Mem) (h : Heap) (b : Nat) : Prop :=
  ∃ (i : Nat) (blk : Blk) (r : Ref), h[i]? = some (some blk) ∧ M.mu i = some r ∧ r.blk = some b
structure Sim (M : Mem) (h : Heap) (w : World) : Prop where
  blks : ∀ (i : Nat) blk, h[i]? = some (some blk) → ∃ r, M.mu i = some r ∧ BlkAt M w r blk
  inj : ∀ (i j : Nat) bi bj ri rj b, h[i]? = some (some bi) → h[j]? = some (some bj) → M.mu i = some ri → M.mu j = some rj →
    ri.blk = some b → rj.blk = some b → i = j
  ro : ∀ b o v, M.ro b o = some v → w.cell? ⟨b, o, none⟩ = some v ∧ ¬ liveBlk M h b
  dom : ∀ i, h.length ≤ i → M.mu i = none
  df : ∀ b, M.df b → w.heap[b]? = some (.deferred (some [])) ∧ ¬ liveBlk M h b
def MuLe (M M' : Mem) : Prop := ∀ i r, M.mu i = some r → ∃ r', M'.mu i = some r' ∧ r.gen ≤ r'.gen ∧ (r'.gen = r.gen → r' = r)
theorem MuLe.refl (M : Mem) : MuLe M M := fun _ r h => ⟨r, h, Nat.le_refl _, fun _ => rfl⟩
theorem MuLe.trans {A B C : Mem} (h1 : MuLe A B) (h2 : MuLe B C) : MuLe A C := fun i r h => by
  obtain ⟨r1, e1, g1, k1⟩ := h1 i r h
  obtain ⟨r2, e2, g2, k2⟩ := h2 i r1 e1
  refine ⟨r2, e2, Nat.le_trans g1 g2, fun e => ?_⟩
  have h3 : r1.gen = r.gen := by omega
  have h4 := k1 h3
  have h5 := k2 (by omega)
  rw [h5, h4]
structure Post (n : Nat) (M : Mem) (h : Heap) (w : World) (M' : Mem) (h' : Heap) (w' : World) : Prop where
  ro : ∀ b o v, M.ro b o = some v → M'.ro b o = some v
  dc : ((∀ b, M.df b → M'.df b) ∧ (∀ b, b < w.heap.size → M'.df b → M.df b) ∧
    ∀ b o v, b < w.heap.size → M'.ro b o = some v → M.ro b o = some v ∨ liveBlk M h b) ∧ M'.cc = M.cc
  le : MuLe M M'
  len : n ≤ h'.length
  sim : Sim M' h' w'
  os : w'.os = w.os
  tape : w'.tape = w.tape
  output : w'.output = w.output
  size : w.heap.size ≤ w'.heap.size
  keep : ∀ b, b < w.heap.size → ¬ liveBlk M h b → w'.heap[b]? = w.heap[b]?
  live : ∀ b, b < w.heap.size → liveBlk M' h' b → liveBlk M h b
theorem Post.refl {n : Nat} {M : Mem} {h : Heap} {w : World} (hs : Sim M h w) (hn : n ≤ h.length) : Post n M h w M h w :=
  ⟨fun _ _ _ h => h, ⟨⟨fun _ h => h, fun _ _ h => h, fun _ _ _ _ h => .inl h⟩, rfl⟩, MuLe.refl M, hn, hs, rfl, rfl, rfl, Nat.le_refl _, fun _ _ _ => rfl, fun _ _ h => h⟩
theorem Post.trans {n : Nat} {M1 M2 M3 : Mem} {h1 h2 h3 : Heap} {w1 w2 w3 : World}
    (a : Post n M1 h1 w1 M2 h2 w2) (b : Post n M2 h2 w2 M3 h3 w3) : Post n M1 h1 w1 M3 h3 w3 where
  ro _ _ _ h := b.ro _ _ _ (a.ro _ _ _ h)
  dc := ⟨⟨fun k h => b.dc.1.1 k (a.dc.1.1 k h), fun k hk h => a.dc.1.2.1 k hk (b.dc.1.2.1 k (Nat.lt_of_lt_of_le hk a.size) h),
    fun k o v hk h => (b.dc.1.2.2 k o v (Nat.lt_of_lt_of_le hk a.size) h).elim (a.dc.1.2.2 k o v hk) fun hl => .inr (a.live k hk hl)⟩, b.dc.2.trans a.dc.2⟩
  le := a.le.trans b.le
  len := b.len
  sim := b.sim
  os := b.os.trans a.os
  tape := b.tape.trans a.tape
  output := b.output.trans a.output
  size := Nat.le_trans a.size b.size
  keep k hk hl := (b.keep k (Nat.lt_of_lt_of_le hk a.size) (fun h => hl (a.live k hk h))).trans (a.keep k hk hl)
  live k hk h := a.live k hk (b.live k (Nat.lt_of_lt_of_le hk a.size) h)
theorem Post.mono {n n' : Nat} {M1 M2 : Mem} {h1 h2 : Heap} {w1 w2 : World} (a : Post n M1 h1 w1 M2 h2 w2) (hn : n' ≤ n) : Post n' M1 h1 w1 M2 h2 w2 :=
  { a with len := Nat.le_trans hn a.len }
theorem RepD.mono {ro ro' : Nat → Nat → Option Value} (hr : ∀ b o v, ro b o = some v → ro' b o = some v) {x : D} {v : Value} (h : RepD ro x v) : RepD ro' x v := by
  induction h with
  | any v h => exact .any v h
  | int k n => exact .int k n
  | bool b => exact .bool b
  | str s => exact .str s
  | nilf => exact .nilf
  | nils => exact .nils
  | nilp => exact .nilp
  | nili => exact .nili
  | fn f => exact .fn f
  | sl x len cap cs ao b off vals hl hm hx hao hro hrep ih =>
    exact .sl x len cap cs ao b off vals hl hm hx hao (fun k hk => hr _ _ _ (hro k hk)) ih
theorem RepV.mono {M M' : Mem} (hr : ∀ b o v, M.ro b o = some v → M'.ro b o = some v) (hm : MuLe M M')
    {x : V} {v : Value} (h : RepV M x v) : RepV M' x v := by
  induction h with
  | any v => exact .any v
  | d x v h => exact .d x v (h.mono hr)
  | agg cs arr hl h h1 ih => exact .agg cs arr hl ih h1
  | tup cs arr hl h ih => exact .tup cs arr hl ih
  | own id g len r ao cap h hg hl hm' hv =>
    obtain ⟨r', e, g1, k⟩ := hm id r h
    exact .own id g len r' ao cap e (Nat.le_trans hg g1) hl hm' (fun eg => by have := k (by omega); subst this; exact hv eg)
  | ptr id g off r b h hg hv =>
    obtain ⟨r', e, g1, k⟩ := hm id r h
    exact .ptr id g off r' b e (Nat.le_trans hg g1) (fun eg => by have := k (by omega); subst this; exact hv eg)
  | rptr cs off b o vals hro hrep => exact .rptr cs off b o vals (fun k hk => hr _ _ _ (hro k hk)) (fun k c hk => (hrep k c hk).mono hr)
  | fn f first caps a1 a2 h1l h2l h1 h2 ih1 ih2 => exact .fn f first caps a1 a2 h1l h2l ih1 ih2
  | mp id r b h hv =>
    obtain ⟨r', e, g1, k⟩ := hm id r h
    exact .mp id r' b e (fun eg => by have := k (by omega); subst this; exact hv eg)
  | yl id r b h hv =>
    obtain ⟨r', e, g1, k⟩ := hm id r h
    exact .yl id r' b e (fun eg => by have := k (by omega); subst this; exact hv eg)
theorem RepL.mono {M M' : Mem} (hr : ∀ b o v, M.ro b o = some v → M'.ro b o = some v) (hm : MuLe M M')
    {x : List V} {v : List Value} (h : RepL M x v) : RepL M' x v :=
  ⟨h.1, fun k a b ha hb => (h.2 k a b ha hb).mono hr hm⟩
theorem Post.rep {n : Nat} {M M' : Mem} {h h' : Heap} {w w' : World} (p : Post n M h w M' h' w') {x : V} {v : Value} (hx : RepV M x v) : RepV M' x v := hx.mono p.ro p.le
theorem Sim.live_lt {M : Mem} {h : Heap} {w : World} (hs : Sim M h w) {b : Nat} (hl : liveBlk M h b) : b < w.heap.size := by
  obtain ⟨i, blk, r, hi, hr, hb⟩ := hl
  obtain ⟨r', hr', hat⟩ := hs.blks i blk hi
  rw [hr] at hr'; cases hr'
  cases blk with
  | box cs => obtain ⟨_, b', arr, T, h1, h2, _⟩ := hat; rw [hb] at h1; cases h1; exact (Array.getElem?_eq_some_iff.1 h2).1
  | row e sz g cs =>
    rcases hat.2 with ⟨_, h0, _⟩ | ⟨b', arr, h1, h2, _⟩
    · rw [h0] at hb; cases hb
    · rw [hb] at h1; cases h1; exact (Array.getElem?_eq_some_iff.1 h2).1
  | obj p => obtain ⟨_, b', o, h1, h2, _⟩ := hat; rw [hb] at h1; cases h1; exact (Array.getElem?_eq_some_iff.1 h2).1
  | map es => obtain ⟨_, b', o, c, h1, h2, _⟩ := hat; rw [hb] at h1; cases h1; exact (Array.getElem?_eq_some_iff.1 h2).1
  | loop L => obtain ⟨_, b', o, h1, h2, _⟩ := hat; rw [hb] at h1; cases h1; exact (Array.getElem?_eq_some_iff.1 h2).1
theorem EntsAt.mono {M M' : Mem} (hm : ∀ x v, RepV M x v → RepV M' x v) {es : List (V × V)} {arr : Array MapEntry} (h : EntsAt M es arr) : EntsAt M' es arr :=
  ⟨h.1, fun k e x he hx => ⟨hm _ _ (h.2 k e x he hx).1, hm _ _ (h.2 k e x he hx).2⟩⟩
theorem LoopAt.mono {M M' : Mem} (hm : ∀ x v, RepV M x v → RepV M' x v) (hc : M'.cc = M.cc) {L : LoopB} {rec : Loop} (h : LoopAt M L rec) : LoopAt M' L rec := by
  obtain ⟨h1, h2, h3, h4, h5, h6, h7⟩ := h
  exact ⟨h1, h2, h3, hc ▸ h4, hc ▸ h5, h6, fun k => hm _ _ (h7 k)⟩
theorem BlkAt.of_same {M M' : Mem} {w w' : World} {r : Ref} {blk : Blk} (hc : M'.cc = M.cc) (hr : ∀ b o v, M.ro b o = some v → M'.ro b o = some v)
    (hm : ∀ x v, RepV M x v → RepV M' x v)
    (hw : ∀ b, r.blk = some b → w'.heap[b]? = w.heap[b]?) (h : BlkAt M w r blk) : BlkAt M' w' r blk := by
  cases blk with
  | box cs =>
    obtain ⟨h0, b, arr, T, h1, h2, h3⟩ := h
    exact ⟨h0, b, arr, T, h1, by rw [hw b h1, h2], ⟨h3.1.1, fun k v c hv hc => hm _ _ (h3.1.2 k v c hv hc)⟩, h3.2⟩
  | row e sz g cs =>
    refine ⟨h.1, ?_⟩
    rcases h.2 with h | ⟨b, arr, h1, h2, h3, h4, h5, h6⟩
    · exact .inl h
    · exact .inr ⟨b, arr, h1, by rw [hw b h1, h2], h3, h4, h5, h6.1, fun k v c hv hc => (h6.2 k v c hv hc).mono hr⟩
  | obj p =>
    obtain ⟨h0, b, o, h1, h2, h3⟩ := h
    exact ⟨h0, b, o, h1, by rw [hw b h1, h2], h3⟩
  | map es =>
    obtain ⟨h0, b, o, c, h1, h2, h3⟩ := h
    exact ⟨h0, b, o, c, h1, by rw [hw b h1, h2], h3.mono hm⟩
  | loop L =>
    obtain ⟨h0, b, o, h1, h2, h3⟩ := h
    exact ⟨h0, b, o, h1, by rw [hw b h1, h2], h3.mono hm hc⟩
theorem Sim.of_heap {M : Mem} {h : Heap} {w w' : World} (hs : Sim M h w) (he : w'.heap = w.heap) : Sim M h w' where
  blks i blk hi := by
    obtain ⟨r, hr, hat⟩ := hs.blks i blk hi
    exact ⟨r, hr, BlkAt.of_same rfl (fun _ _ _ h => h) (fun _ _ h => h) (fun b _ => by rw [he]) hat⟩
  inj := hs.inj
  ro b o v hv := by
    have := hs.ro b o v hv
    exact ⟨by rw [← this.1]; simp [World.cell?, he], this.2⟩
  dom := hs.dom
  df b hb := by rw [he]; exact hs.df b hb
theorem Post.of_heap {n : Nat} {M : Mem} {h : Heap} {w w' : World} (hs : Sim M h w) (hn : n ≤ h.length) (he : w'.heap = w.heap) (h1 : w'.os = w.os)
    (h2 : w'.tape = w.tape) (h3 : w'.output = w.output) : Post n M h w M h w' :=
  ⟨fun _ _ _ h => h, ⟨⟨fun _ h => h, fun _ _ h => h, fun _ _ _ _ h => .inl h⟩, rfl⟩, MuLe.refl M, hn, hs.of_heap he, h1, h2, h3, by rw [he]; exact Nat.le_refl _, fun _ _ _ => by rw [he], fun _ _ h => h⟩
def Sub (h' h : Heap) : Prop := h'.length = h.length ∧ ∀ (i : Nat) blk, h'[i]? = some (some blk) → h[i]? = some (some blk)
theorem Sub.live {M : Mem} {h h' : Heap} (hs : Sub h' h) {b : Nat} (hl : liveBlk M h' b) : liveBlk M h b := by
  obtain ⟨i, blk, r, hi, hr⟩ := hl
  exact ⟨i, blk, r, hs.2 i blk hi, hr⟩
theorem Sim.sub {M : Mem} {h h' : Heap} {w : World} (hs : Sim M h w) (hsub : Sub h' h) : Sim M h' w where
  blks i blk hi := hs.blks i blk (hsub.2 i blk hi)
  inj i j bi bj ri rj b hi hj := hs.inj i j bi bj ri rj b (hsub.2 _ _ hi) (hsub.2 _ _ hj)
  ro b o v hv := ⟨(hs.ro b o v hv).1, fun hl => (hs.ro b o v hv).2 (hsub.live hl)⟩
  dom i hi := hs.dom i (by have := hsub.1; omega)
  df b hb := ⟨(hs.df b hb).1, fun hl => (hs.df b hb).2 (hsub.live hl)⟩
end Go.Proofs.Ytdnefcjbcieecaa
namespace Go.Proofs.Ytdnefcjbcieecaa
open Go
def Mem.setMu (M : Mem) (id : Nat) (r : Ref) : Mem := { M with mu := fun i => if i = id then some r else M.mu i }
theorem Mem.setMu_same (M : Mem) (id : Nat) (r : Ref) : (M.setMu id r).mu id = some r := by simp [Mem.setMu]
theorem Mem.setMu_other (M : Mem) {id i : Nat} (r : Ref) (h : i ≠ id) : (M.setMu id r).mu i = M.mu i := by simp [Mem.setMu, h]
theorem MuLe.setMu {M : Mem} {id : Nat} {r : Ref} (hn : ∀ r0, M.mu id = some r0 → r0.gen < r.gen) : MuLe M (M.setMu id r) := by
  intro i r0 hi
  by_cases h : i = id
  · subst h
    have := hn r0 hi
    exact ⟨r, Mem.setMu_same _ _ _, by omega, fun e => by omega⟩
  · exact ⟨r0, by rw [Mem.setMu_other _ _ h]; exact hi, Nat.le_refl _, fun _ => rfl⟩
theorem RepV.setMu {M : Mem} {id : Nat} {r : Ref} (hn : ∀ r0, M.mu id = some r0 → r0.gen < r.gen) {x : V} {v : Value} (h : RepV M x v) : RepV (M.setMu id r) x v :=
  RepV.mono (M := M) (M' := M.setMu id r) (fun _ _ _ h => h) (MuLe.setMu hn) h
theorem upd_block {n : Nat} {M : Mem} {h : Heap} {w w' : World} {id b : Nat} {blk blk' : Blk} {r : Ref} (hs : Sim M h w) (hn : n ≤ h.length)
    (hi : h[id]? = some (some blk)) (hr : M.mu id = some r) (hb : r.blk = some b)
    (hsz : w'.heap.size = w.heap.size) (hoth : ∀ k, k ≠ b → w'.heap[k]? = w.heap[k]?) (h1 : w'.os = w.os) (h2 : w'.tape = w.tape) (h3 : w'.output = w.output)
    (hat : BlkAt M w' r blk') : Post n M h w M (h.set id (some blk')) w' := by
  have hlt : id < h.length := (List.getElem?_eq_some_iff.1 hi).1
  have hlive : ∀ k, liveBlk M (h.set id (some blk')) k → liveBlk M h k := by
    rintro k ⟨i, blk2, r2, hi2, hr2, hb2⟩
    by_cases hii : i = id
    · subst hii; exact ⟨i, blk, r2, hi, hr2, hb2⟩
    · exact ⟨i, blk2, r2, by rwa [List.getElem?_set_ne (Ne.symm hii)] at hi2, hr2, hb2⟩
  have hbl : liveBlk M h b := ⟨id, blk, r, hi, hr, hb⟩
  refine ⟨fun _ _ _ h => h, ⟨⟨fun _ h => h, fun _ _ h => h, fun _ _ _ _ h => .inl h⟩, rfl⟩, MuLe.refl M, by simpa using hn, ⟨?_, ?_, ?_, ?_, ?_⟩, h1, h2, h3, by omega, ?_, fun k _ hk => hlive k hk⟩
  · intro i blk2 hi2
    by_cases hii : i = id
    · subst hii
      rw [List.getElem?_set_self hlt] at hi2
      cases hi2
      exact ⟨r, hr, hat⟩
    · rw [List.getElem?_set_ne (Ne.symm hii)] at hi2
      obtain ⟨r2, hr2, hat2⟩ := hs.blks i blk2 hi2
      refine ⟨r2, hr2, BlkAt.of_same rfl (fun _ _ _ h => h) (fun _ _ h => h) (fun k hk => hoth k ?_) hat2⟩
      rintro rfl
      exact hii (hs.inj i id _ _ _ _ _ hi2 hi hr2 hr hk hb)
  · intro i j bi bj ri rj k hi2 hj2 hri hrj hbi hbj
    have e1 : ∃ b', h[i]? = some (some b') := by
      by_cases hii : i = id
      · subst hii; exact ⟨_, hi⟩
      · exact ⟨_, by rwa [List.getElem?_set_ne (Ne.symm hii)] at hi2⟩
    have e2 : ∃ b', h[j]? = some (some b') := by
      by_cases hii : j = id
      · subst hii; exact ⟨_, hi⟩
      · exact ⟨_, by rwa [List.getElem?_set_ne (Ne.symm hii)] at hj2⟩
    obtain ⟨b1, e1⟩ := e1
    obtain ⟨b2, e2⟩ := e2
    exact hs.inj i j b1 b2 ri rj k e1 e2 hri hrj hbi hbj
  · intro k o v hv
    obtain ⟨hc, hnl⟩ := hs.ro k o v hv
    refine ⟨?_, fun hl => hnl (hlive k hl)⟩
    rw [World.cell?_of_block (w := w) (hoth k (by rintro rfl; exact hnl hbl))]
    exact hc
  · intro i hi2
    exact hs.dom i (by simpa using hi2)
  · intro k hk
    obtain ⟨hc, hnl⟩ := hs.df k hk
    exact ⟨by rw [hoth k (by rintro rfl; exact hnl hbl)]; exact hc, fun hl => hnl (hlive k hl)⟩
  · intro k hk hnl
    exact hoth k (by rintro rfl; exact hnl hbl)
theorem new_block {n : Nat} {M : Mem} {h h' : Heap} {w w' : World} {id cap : Nat} {blk : Blk} {o : Obj} (hs : Sim M h w) (hn : n ≤ h'.length) (hmu : M.mu id = none)
    (hid : h'[id]? = some (some blk)) (hoth : ∀ (j : Nat) x, j ≠ id → h'[j]? = some (some x) → h[j]? = some (some x)) (hlen : h.length ≤ h'.length)
    (hw : w'.heap = w.heap.push o) (h1 : w'.os = w.os) (h2 : w'.tape = w.tape) (h3 : w'.output = w.output)
    (hat : BlkAt (M.setMu id ⟨some w.heap.size, cap, 0⟩) w' ⟨some w.heap.size, cap, 0⟩ blk) : Post n M h w (M.setMu id ⟨some w.heap.size, cap, 0⟩) h' w' := by
  have hmu' : ∀ r0, M.mu id = some r0 → r0.gen < (⟨some w.heap.size, cap, 0⟩ : Ref).gen := fun r0 h => by rw [hmu] at h; cases h
  have hold : ∀ k, k < w.heap.size → w'.heap[k]? = w.heap[k]? := fun k hk => by rw [hw, Array.getElem?_push]; simp [Nat.ne_of_lt hk]
  have hlive : ∀ k, k < w.heap.size → liveBlk (M.setMu id ⟨some w.heap.size, cap, 0⟩) h' k → liveBlk M h k := by
    rintro k hk ⟨i, blk2, r2, hi2, hr2, hb2⟩
    by_cases hii : i = id
    · subst hii; rw [Mem.setMu_same] at hr2; cases hr2; cases hb2; omega
    · rw [Mem.setMu_other _ _ hii] at hr2
      exact ⟨i, blk2, r2, hoth i _ hii hi2, hr2, hb2⟩
  have hidl : id < h'.length := (List.getElem?_eq_some_iff.1 hid).1
  refine ⟨fun _ _ _ h => h, ⟨⟨fun _ h => h, fun _ _ h => h, fun _ _ _ _ h => .inl h⟩, rfl⟩, MuLe.setMu hmu', hn, ⟨?_, ?_, ?_, ?_, ?_⟩, h1, h2, h3, by rw [hw]; simp, fun k hk _ => hold k hk, hlive⟩
  · intro i blk2 hi2
    by_cases hii : i = id
    · subst hii
      rw [hid] at hi2
      cases hi2
      exact ⟨_, Mem.setMu_same _ _ _, hat⟩
    · obtain ⟨r2, hr2, hat2⟩ := hs.blks i blk2 (hoth i _ hii hi2)
      refine ⟨r2, by rw [Mem.setMu_other _ _ hii]; exact hr2, BlkAt.of_same rfl (M := M) (w := w) (fun _ _ _ h => h) (fun _ _ h => h.setMu hmu') (fun k hk => hold k ?_) hat2⟩
      exact hs.live_lt ⟨i, blk2, r2, hoth i _ hii hi2, hr2, hk⟩
  · intro i j bi bj ri rj k hi2 hj2 hri hrj hbi hbj
    by_cases hii : i = id
    · subst hii
      rw [Mem.setMu_same] at hri; cases hri; cases hbi
      by_cases hjj : j = i
      · exact hjj.symm
      · rw [Mem.setMu_other _ _ hjj] at hrj
        have := hs.live_lt ⟨j, bj, rj, hoth j _ hjj hj2, hrj, hbj⟩
        omega
    · rw [Mem.setMu_other _ _ hii] at hri
      by_cases hjj : j = id
      · subst hjj
        rw [Mem.setMu_same] at hrj; cases hrj; cases hbj
        have := hs.live_lt ⟨i, bi, ri, hoth i _ hii hi2, hri, hbi⟩
        omega
      · rw [Mem.setMu_other _ _ hjj] at hrj
        exact hs.inj i j bi bj ri rj k (hoth i _ hii hi2) (hoth j _ hjj hj2) hri hrj hbi hbj
  · intro k p v hv
    obtain ⟨hc, hnl⟩ := hs.ro k p v hv
    have hk : k < w.heap.size := World.block_lt_of_cell? w ⟨k, p, none⟩ hc
    refine ⟨?_, fun hl => hnl (hlive k hk hl)⟩
    rw [World.cell?_of_block (w := w) (hold k hk)]
    exact hc
  · intro i hi
    rw [Mem.setMu_other _ _ (by omega)]
    exact hs.dom i (by omega)
  · intro k hk0
    obtain ⟨hc, hnl⟩ := hs.df k hk0
    have hk : k < w.heap.size := (Array.getElem?_eq_some_iff.1 hc).1
    exact ⟨by rw [hold k hk]; exact hc, fun hl => hnl (hlive k hk hl)⟩
theorem bump_block {n : Nat} {M : Mem} {h : Heap} {w w' : World} {id : Nat} {blk0 blk : Blk} {r r' : Ref} (hs : Sim M h w) (hn : n ≤ h.length)
    (hi : h[id]? = some (some blk0)) (hr : M.mu id = some r) (hg : r.gen < r'.gen)
    (hb : ∀ b, r'.blk = some b → r.blk = some b ∨ w.heap.size ≤ b)
    (hsz : w.heap.size ≤ w'.heap.size) (hoth : ∀ k, k < w.heap.size → r.blk ≠ some k → w'.heap[k]? = w.heap[k]?) (h1 : w'.os = w.os) (h2 : w'.tape = w.tape) (h3 : w'.output = w.output)
    (hat : BlkAt (M.setMu id r') w' r' blk) :
    Post n M h w (M.setMu id r') (h.set id (some blk)) w' := by
  have hlt : id < h.length := (List.getElem?_eq_some_iff.1 hi).1
  have hle : MuLe M (M.setMu id r') := MuLe.setMu (fun r0 h => by rw [hr] at h; cases h; exact hg)
  have hself : (h.set id (some blk))[id]? = some (some blk) := List.getElem?_set_self hlt
  have hpre : ∀ (j : Nat) x, j ≠ id → (h.set id (some blk))[j]? = some (some x) → h[j]? = some (some x) := fun j x hj hx => by rwa [List.getElem?_set_ne (Ne.symm hj)] at hx
  have hlive : ∀ k, k < w.heap.size → liveBlk (M.setMu id r') (h.set id (some blk)) k → liveBlk M h k := by
    rintro k hk ⟨i, blk2, r2, hi2, hr2, hb2⟩
    by_cases hii : i = id
    · subst hii; rw [Mem.setMu_same] at hr2; cases hr2
      rcases hb k hb2 with h | h
      · exact ⟨i, blk0, r, hi, hr, h⟩
      · omega
    · rw [Mem.setMu_other _ _ hii] at hr2
      exact ⟨i, blk2, r2, hpre i _ hii hi2, hr2, hb2⟩
  have hkeep : ∀ k, k < w.heap.size → ¬ liveBlk M h k → w'.heap[k]? = w.heap[k]? := fun k hk hnl => hoth k hk (fun e => hnl ⟨id, blk0, r, hi, hr, e⟩)
  refine ⟨fun _ _ _ h => h, ⟨⟨fun _ h => h, fun _ _ h => h, fun _ _ _ _ h => .inl h⟩, rfl⟩, hle, by simpa using hn, ⟨?_, ?_, ?_, ?_, ?_⟩, h1, h2, h3, hsz, hkeep, hlive⟩
  · intro i blk2 hi2
    by_cases hii : i = id
    · subst hii
      rw [hself] at hi2
      cases hi2
      exact ⟨_, Mem.setMu_same _ _ _, hat⟩
    · have hj := hpre i _ hii hi2
      obtain ⟨r2, hr2, hat2⟩ := hs.blks i blk2 hj
      refine ⟨r2, by rw [Mem.setMu_other _ _ hii]; exact hr2, BlkAt.of_same rfl (M := M) (w := w) (fun _ _ _ h => h) (fun _ _ h => RepV.mono (M := M) (M' := M.setMu id r') (fun _ _ _ h => h) hle h) (fun k hk => ?_) hat2⟩
      exact hoth k (hs.live_lt ⟨i, blk2, r2, hj, hr2, hk⟩) (fun e => hii (hs.inj i id _ _ _ _ _ hj hi hr2 hr hk e))
  · intro i j bi bj ri rj k hi2 hj2 hri hrj hbi hbj
    by_cases hii : i = id
    · subst hii
      rw [Mem.setMu_same] at hri; cases hri
      by_cases hjj : j = i
      · exact hjj.symm
      · rw [Mem.setMu_other _ _ hjj] at hrj
        have hj3 := hpre j _ hjj hj2
        have hlj := hs.live_lt ⟨j, bj, rj, hj3, hrj, hbj⟩
        rcases hb k hbi with h | h
        · exact (hs.inj j i _ _ _ _ _ hj3 hi hrj hr hbj h).symm
        · omega
    · rw [Mem.setMu_other _ _ hii] at hri
      have hi3 := hpre i _ hii hi2
      by_cases hjj : j = id
      · subst hjj
        rw [Mem.setMu_same] at hrj; cases hrj
        have hlj := hs.live_lt ⟨i, bi, ri, hi3, hri, hbi⟩
        rcases hb k hbj with h | h
        · exact hs.inj i j _ _ _ _ _ hi3 hi hri hr hbi h
        · omega
      · rw [Mem.setMu_other _ _ hjj] at hrj
        exact hs.inj i j bi bj ri rj k hi3 (hpre j _ hjj hj2) hri hrj hbi hbj
  · intro k p v hv
    obtain ⟨hc, hnl⟩ := hs.ro k p v hv
    have hk : k < w.heap.size := World.block_lt_of_cell? w ⟨k, p, none⟩ hc
    refine ⟨?_, fun hl => hnl (hlive k hk hl)⟩
    rw [World.cell?_of_block (w := w) (hkeep k hk hnl)]
    exact hc
  · intro i hi2
    have hi' : h.length ≤ i := by simpa using hi2
    rw [Mem.setMu_other _ _ (by omega)]
    exact hs.dom i hi'
  · intro k hk0
    obtain ⟨hc, hnl⟩ := hs.df k hk0
    have hk : k < w.heap.size := (Array.getElem?_eq_some_iff.1 hc).1
    exact ⟨by rw [hkeep k hk hnl]; exact hc, fun hl => hnl (hlive k hk hl)⟩
end Go.Proofs.Ytdnefcjbcieecaa
namespace Go.Proofs.Ytdnefcjbcieecaa
open Go
def shapeFs (sh : TypeId → Option (List SK)) (sz : TypeId → Option Nat) : List Field → Nat → Option (List SK)
  | [], _ => some []
  | f :: fs, off => if f.name ≠ "_" ∧ f.offset = off then
      match sh f.type, sz f.type with
      | some s, some n => if s.length = n then (shapeFs sh sz fs (off + n)).map (s ++ ·) else none
      | _, _ => none
    else none
def shapeOf (P : Program) : Nat → TypeId → Option (List SK)
  | 0, _ => none
  | m + 1, T => match P.underlying T with
    | some .bool => some [.bool]
    | some (.int k) => some [.int k]
    | some .string => some [.str]
    | some (.array n e) => match shapeOf P m e, P.info? e with
      | some s, some i => if s.length = i.size ∧ 0 < i.size then some ((List.replicate n s).flatten) else none
      | _, _ => none
    | some (.struct fs) => if P.stoodInHeld T then none else shapeFs (shapeOf P m) (fun t => (P.info? t).map (·.size)) fs.toList 0
    | _ => none
def matchS : SK → D → Bool
  | .int k, .int k' _ => k == k'
  | .bool, .bool _ => true
  | .str, .str _ => true
  | _, _ => false
def matchSs : List SK → List D → Bool
  | [], [] => true
  | s :: ss, d :: ds => matchS s d && matchSs ss ds
  | _, _ => false
def eqD : D → D → Bool
  | .int _ a, .int _ b => a == b
  | .bool a, .bool b => a == b
  | .str a, .str b => a == b
  | _, _ => false
def eqDs : List D → List D → Bool
  | [], [] => true
  | a :: as, b :: bs => eqD a b && eqDs as bs
  | _, _ => false
def valD : D → Value
  | .int k n => .int k n
  | .bool b => .bool b
  | .str l => .string ⟨l.toArray⟩
  | _ => undef
theorem matchSs_len : ∀ {sh : List SK} {ds : List D}, matchSs sh ds = true → sh.length = ds.length
  | [], [], _ => rfl
  | s :: ss, d :: ds, h => by
    simp only [matchSs, Bool.and_eq_true] at h
    simp [matchSs_len h.2]
  | [], _ :: _, h => by cases h
  | _ :: _, [], h => by cases h
theorem matchSs_append : ∀ {a b : List SK} {ds : List D}, matchSs (a ++ b) ds = true → matchSs a (ds.take a.length) = true ∧ matchSs b (ds.drop a.length) = true
  | [], b, ds, h => ⟨rfl, by simpa using h⟩
  | s :: a, b, d :: ds, h => by
    simp only [List.cons_append, matchSs, Bool.and_eq_true] at h
    obtain ⟨h1, h2⟩ := matchSs_append h.2
    exact ⟨by simp [matchSs, h.1, h1], by simpa using h2⟩
  | s :: a, b, [], h => by cases h
theorem eqDs_append : ∀ {a b c d : List D}, a.length = b.length → eqDs (a ++ c) (b ++ d) = (eqDs a b && eqDs c d)
  | [], [], c, d, _ => by simp [eqDs]
  | x :: a, y :: b, c, d, h => by simp [eqDs, eqDs_append (a := a) (b := b) (c := c) (d := d) (by simpa using h), Bool.and_assoc]
  | [], _ :: _, _, _, h => by simp at h
  | _ :: _, [], _, _, h => by simp at h
section
variable {P : Program} (w : World)
def aggT (P : Program) (T : TypeId) : Bool := match P.underlying T with
  | some (.struct _) => true
  | some (.array _ _) => true
  | _ => false
def wrapT (P : Program) (T : TypeId) (xs : List Value) : Value := if aggT P T then .agg xs.toArray else xs.headD undef
theorem run_part_wrap {T : TypeId} {i : TypeInfo} {xs : Array Value} {off : Nat} {ys : List Value} (hi : P.info? T = some i) (hu : ∃ d, P.underlying T = some d) (hs : ys.length = i.size) (hne : aggT P T = false → ys.length = 1)
    (hx : (xs.toList.drop off).take ys.length = ys) : (part T xs off).run P w = .ok (wrapT P T ys) w := by
  obtain ⟨d, hu⟩ := hu
  have hag : (isAgg T).run P w = .ok (aggT P T) w := by
    simp only [isAgg, Sem.run_bind, run_underlying hu, Result.andThen_ok, aggT, hu]
    cases d <;> rfl
  unfold part wrapT
  simp only [Sem.run_bind, hag, Result.andThen_ok]
  cases ha : aggT P T with
  | true =>
    simp only [if_true, Sem.run_bind, sizeOf, typeInfo, hi]
    have : (xs.extract off (off + i.size)) = ys.toArray := by
      apply Array.ext'
      rw [Array.toList_extract, List.extract_eq_take_drop, ← hx, hs]
      simp
    simp [hi, this]
  | false =>
    have h1 := hne ha
    obtain ⟨y, rfl⟩ : ∃ y, ys = [y] := by
      cases ys with
      | nil => simp at h1
      | cons y ys => exact ⟨y, by simp at h1; rw [h1]⟩
    have : xs[off]? = some y := by
      have h2 := congrArg (fun l => l[0]?) hx
      simpa [List.getElem?_take] using h2
    simp [this]
theorem run_eqS : ∀ (m d : Nat) (T : TypeId) (sh : List SK), shapeOf P m T = some sh → ∀ (ds es : List D), matchSs sh ds = true → matchSs sh es = true →
    (aggT P T = false → sh.length = 1) ∧ (∃ dd, P.underlying T = some dd) ∧ (Op.equalIn (d + m) T (wrapT P T (ds.map valD)) (wrapT P T (es.map valD))).run P w = .ok (eqDs ds es) w
  | 0, _, _, _, h => by cases h
  | m + 1, d, T, sh, h => by
    intro ds es h1 h2
    unfold shapeOf at h
    have scal : ∀ k, matchSs [k] ds = true → matchSs [k] es = true → ∃ a b, ds = [a] ∧ es = [b] ∧ matchS k a = true ∧ matchS k b = true := by
      intro k h1 h2
      cases ds with
      | nil => cases h1
      | cons a ds =>
        cases ds with
        | cons _ _ => simp [matchSs] at h1
        | nil =>
          cases es with
          | nil => cases h2
          | cons b es =>
            cases es with
            | cons _ _ => simp [matchSs] at h2
            | nil => exact ⟨a, b, rfl, rfl, by simpa [matchSs] using h1, by simpa [matchSs] using h2⟩
    split at h
    · rename_i hu
      cases h
      obtain ⟨a, b, rfl, rfl, k1, k2⟩ := scal _ h1 h2
      have hag : aggT P T = false := by simp [aggT, hu]
      refine ⟨fun _ => rfl, ⟨_, hu⟩, ?_⟩
      cases a <;> simp [matchS] at k1
      cases b <;> simp [matchS] at k2
      simp only [wrapT, hag, List.map_cons, List.map_nil, valD]
      exact (run_equalIn_bool w _ T _ _ hu).trans (by simp [eqDs, eqD])
    · rename_i k hu
      cases h
      obtain ⟨a, b, rfl, rfl, k1, k2⟩ := scal _ h1 h2
      have hag : aggT P T = false := by simp [aggT, hu]
      refine ⟨fun _ => rfl, ⟨_, hu⟩, ?_⟩
      cases a <;> simp [matchS] at k1
      cases b <;> simp [matchS] at k2
      subst k1 k2
      simp only [wrapT, hag, List.map_cons, List.map_nil, valD]
      exact (run_equalIn_int w _ T _ _ _ _ hu).trans (by simp [eqDs, eqD])
    · rename_i hu
      cases h
      obtain ⟨a, b, rfl, rfl, k1, k2⟩ := scal _ h1 h2
      have hag : aggT P T = false := by simp [aggT, hu]
      refine ⟨fun _ => rfl, ⟨_, hu⟩, ?_⟩
      cases a <;> simp [matchS] at k1
      cases b <;> simp [matchS] at k2
      simp only [wrapT, hag, List.map_cons, List.map_nil, valD]
      exact (run_equalIn_string w _ T _ _ hu).trans (by simp [eqDs, eqD, ByteArray.toList_eq])
    · rename_i n e hu
      have hag : aggT P T = true := by simp [aggT, hu]
      split at h
      · rename_i s i hs hi
        split at h
        · rename_i hsz
          cases h
          refine ⟨fun hf => (by rw [hag] at hf; cases hf), ⟨_, hu⟩, ?_⟩
          have hc : P.cellsOf e = i.size := by simp [Program.cellsOf, hi]
          simp only [wrapT, hag, if_true]
          rw [show d + (m + 1) = (d + m) + 1 from rfl, run_equalIn_array w (d + m) _ _ hu hi, List.range_eq_range', hc]
          have key : ∀ (n k : Nat) (xs ys : List D), matchSs ((List.replicate n s).flatten) (xs.drop (k * i.size)) = true → matchSs ((List.replicate n s).flatten) (ys.drop (k * i.size)) = true →
              (Op.eqItems (d + m) e i.size (xs.map valD).toArray (ys.map valD).toArray (List.range' k n)).run P w = .ok (eqDs (xs.drop (k * i.size)) (ys.drop (k * i.size))) w := by
            intro n
            induction n with
            | zero =>
              intro k xs ys hx hy
              have e1 : xs.drop (k * i.size) = [] := List.eq_nil_of_length_eq_zero (by simpa using (matchSs_len hx).symm)
              have e2 : ys.drop (k * i.size) = [] := List.eq_nil_of_length_eq_zero (by simpa using (matchSs_len hy).symm)
              rw [e1, e2]
              simp [Op.eqItems, eqDs]
            | succ n ih =>
              intro k xs ys hx hy
              rw [List.replicate_succ, List.flatten_cons] at hx hy
              obtain ⟨hx1, hx2⟩ := matchSs_append hx
              obtain ⟨hy1, hy2⟩ := matchSs_append hy
              rw [hsz.1] at hx1 hx2 hy1 hy2
              rw [List.drop_drop, show k * i.size + i.size = (k + 1) * i.size by rw [Nat.add_mul]; omega] at hx2 hy2
              obtain ⟨c1, c2, c3⟩ := run_eqS m d e s hs _ _ hx1 hy1
              have l1 : ((xs.drop (k * i.size)).take i.size).length = i.size := by rw [← matchSs_len hx1]; exact hsz.1
              have l2 : ((ys.drop (k * i.size)).take i.size).length = i.size := by rw [← matchSs_len hy1]; exact hsz.1
              have p1 := run_part_wrap w (T := e) (xs := (xs.map valD).toArray) (off := k * i.size) (ys := ((xs.drop (k * i.size)).take i.size).map valD) hi c2 (by simpa using l1) (fun hf => by
                have := c1 hf; simp only [List.length_map]; omega) (by
                simp only [List.length_map, l1]; rw [← List.map_drop, ← List.map_take])
              have p2 := run_part_wrap w (T := e) (xs := (ys.map valD).toArray) (off := k * i.size) (ys := ((ys.drop (k * i.size)).take i.size).map valD) hi c2 (by simpa using l2) (fun hf => by
                have := c1 hf; simp only [List.length_map]; omega) (by
                simp only [List.length_map, l2]; rw [← List.map_drop, ← List.map_take])
              rw [List.range'_succ]
              simp only [Op.eqItems, Sem.run_bind, p1, p2, c3, Result.andThen_ok]
              have hsp : eqDs (xs.drop (k * i.size)) (ys.drop (k * i.size)) = (eqDs ((xs.drop (k * i.size)).take i.size) ((ys.drop (k * i.size)).take i.size) && eqDs (xs.drop ((k + 1) * i.size)) (ys.drop ((k + 1) * i.size))) := by
                have e1 := List.take_append_drop i.size (xs.drop (k * i.size))
                have e2 := List.take_append_drop i.size (ys.drop (k * i.size))
                rw [List.drop_drop, show k * i.size + i.size = (k + 1) * i.size by rw [Nat.add_mul]; omega] at e1 e2
                rw [← eqDs_append (by rw [l1, l2]), e1, e2]
              rw [hsp]
              cases eqDs ((xs.drop (k * i.size)).take i.size) ((ys.drop (k * i.size)).take i.size) with
              | false => simp
              | true => simpa using ih (k + 1) xs ys hx2 hy2
          have := key n 0 ds es (by simpa using h1) (by simpa using h2)
          simpa using this
        · cases h
      · cases h
    · rename_i fs hu
      have hag : aggT P T = true := by simp [aggT, hu]
      split at h
      · cases h
      · rename_i hst
        refine ⟨fun hf => (by rw [hag] at hf; cases hf), ⟨_, hu⟩, ?_⟩
        have hfs : P.fieldsOf T = fs := by simp [Program.fieldsOf, hu]
        simp only [wrapT, hag, if_true]
        rw [show d + (m + 1) = (d + m) + 1 from rfl, run_equalIn_struct w (d + m) T _ _ (by rw [hfs]; exact hu) (by simpa using hst), hfs]
        have key : ∀ (fs : List Field) (off : Nat) (sh : List SK), shapeFs (shapeOf P m) (fun t => (P.info? t).map (·.size)) fs off = some sh → ∀ (xs ys : List D), matchSs sh (xs.drop off) = true → matchSs sh (ys.drop off) = true →
            (Op.eqFields (d + m) (xs.map valD).toArray (ys.map valD).toArray fs).run P w = .ok (eqDs (xs.drop off) (ys.drop off)) w := by
          intro fs
          induction fs with
          | nil =>
            intro off sh hsh xs ys hx hy
            cases hsh
            have e1 : xs.drop off = [] := List.eq_nil_of_length_eq_zero (by simpa using (matchSs_len hx).symm)
            have e2 : ys.drop off = [] := List.eq_nil_of_length_eq_zero (by simpa using (matchSs_len hy).symm)
            rw [e1, e2]
            simp [Op.eqFields, eqDs]
          | cons f fs ih =>
            intro off sh hsh xs ys hx hy
            unfold shapeFs at hsh
            split at hsh
            · rename_i hf
              split at hsh
              · rename_i s n hs hn
                split at hsh
                · rename_i hsz
                  cases hr : shapeFs (shapeOf P m) (fun t => (P.info? t).map (·.size)) fs (off + n) with
                  | none => rw [hr] at hsh; cases hsh
                  | some sh' =>
                    rw [hr] at hsh
                    cases hsh
                    cases hi : P.info? f.type with
                    | none => rw [hi] at hn; cases hn
                    | some i =>
                      rw [hi] at hn
                      simp only [Option.map_some, Option.some.injEq] at hn
                      obtain ⟨hx1, hx2⟩ := matchSs_append hx
                      obtain ⟨hy1, hy2⟩ := matchSs_append hy
                      rw [hsz] at hx1 hx2 hy1 hy2
                      rw [List.drop_drop] at hx2 hy2
                      obtain ⟨c1, c2, c3⟩ := run_eqS m d f.type s hs _ _ hx1 hy1
                      have l1 : ((xs.drop off).take n).length = n := by rw [← matchSs_len hx1]; exact hsz
                      have l2 : ((ys.drop off).take n).length = n := by rw [← matchSs_len hy1]; exact hsz
                      have p1 := run_part_wrap w (T := f.type) (xs := (xs.map valD).toArray) (off := off) (ys := ((xs.drop off).take n).map valD) hi c2 (by simp only [List.length_map]; omega) (fun hf => by
                        have := c1 hf; simp only [List.length_map]; omega) (by
                        simp only [List.length_map, l1]; rw [← List.map_drop, ← List.map_take])
                      have p2 := run_part_wrap w (T := f.type) (xs := (ys.map valD).toArray) (off := off) (ys := ((ys.drop off).take n).map valD) hi c2 (by simp only [List.length_map]; omega) (fun hf => by
                        have := c1 hf; simp only [List.length_map]; omega) (by
                        simp only [List.length_map, l2]; rw [← List.map_drop, ← List.map_take])
                      simp only [Op.eqFields, hf.1, ne_eq, not_false_eq_true, if_true, hf.2, Sem.run_bind, p1, p2, c3, Result.andThen_ok]
                      have hsp : eqDs (xs.drop off) (ys.drop off) = (eqDs ((xs.drop off).take n) ((ys.drop off).take n) && eqDs (xs.drop (off + n)) (ys.drop (off + n))) := by
                        have e1 := List.take_append_drop n (xs.drop off)
                        have e2 := List.take_append_drop n (ys.drop off)
                        rw [List.drop_drop] at e1 e2
                        rw [← eqDs_append (by rw [l1, l2]), e1, e2]
                      rw [hsp]
                      cases eqDs ((xs.drop off).take n) ((ys.drop off).take n) with
                      | false => simp
                      | true => simpa using ih (off + n) sh' hr xs ys hx2 hy2
                · cases hsh
              · cases hsh
            · cases hsh
        have := key fs.toList 0 sh h ds es (by simpa using h1) (by simpa using h2)
        simpa using this
    · cases h
theorem run_checkS (em : Bool) : ∀ (m d : Nat) (T : TypeId) (sh : List SK), shapeOf P m T = some sh → ∀ (ds : List D), matchSs sh ds = true → (Instr.checkKey em (d + m) T (wrapT P T (ds.map valD))).run P w = .ok () w
  | 0, _, _, _, h => by cases h
  | m + 1, d, T, sh, h => by
    intro ds h1
    have h0 := run_eqS w (m + 1) d T sh h ds ds h1 h1
    unfold shapeOf at h
    rw [show d + (m + 1) = (d + m) + 1 from rfl]
    have scal : ∀ k, matchSs [k] ds = true → ∃ a, ds = [a] ∧ matchS k a = true := by
      intro k h1
      cases ds with
      | nil => cases h1
      | cons a ds =>
        cases ds with
        | cons _ _ => simp [matchSs] at h1
        | nil => exact ⟨a, rfl, by simpa [matchSs] using h1⟩
    split at h
    · rename_i hu
      cases h
      obtain ⟨a, rfl, k1⟩ := scal _ h1
      have hag : aggT P T = false := by simp [aggT, hu]
      cases a <;> simp [matchS] at k1
      simp [wrapT, hag, valD, Instr.checkKey, run_underlying hu]
    · rename_i k hu
      cases h
      obtain ⟨a, rfl, k1⟩ := scal _ h1
      have hag : aggT P T = false := by simp [aggT, hu]
      cases a <;> simp [matchS] at k1
      simp [wrapT, hag, valD, Instr.checkKey, run_underlying hu]
    · rename_i hu
      cases h
      obtain ⟨a, rfl, k1⟩ := scal _ h1
      have hag : aggT P T = false := by simp [aggT, hu]
      cases a <;> simp [matchS] at k1
      simp [wrapT, hag, valD, Instr.checkKey, run_underlying hu]
    · rename_i n e hu
      have hag : aggT P T = true := by simp [aggT, hu]
      split at h
      · rename_i s i hs hi
        split at h
        · rename_i hsz
          cases h
          have hc : P.cellsOf e = i.size := by simp [Program.cellsOf, hi]
          simp only [wrapT, hag, if_true, Instr.checkKey, Sem.run_bind, run_underlying hu, Result.andThen_ok, run_sizeOf w hi, hc]
          simp only [Std.Legacy.Range.forIn_eq_forIn_range', Std.Legacy.Range.size, Nat.sub_zero, Nat.add_one_sub_one, Nat.div_one]
          have key : ∀ (n k : Nat) (xs : List D), matchSs ((List.replicate n s).flatten) (xs.drop (k * i.size)) = true →
              (forIn (List.range' k n) PUnit.unit fun j r => do
                let c ← sizeOf e
                let __do_lift ← part e (xs.map valD).toArray (j * c)
                let _ ← Instr.checkKey em (d + m) e __do_lift
                pure (ForInStep.yield PUnit.unit) : Sem PUnit).run P w = .ok PUnit.unit w := by
            intro n
            induction n with
            | zero => intro k xs _; simp
            | succ n ih =>
              intro k xs hx
              rw [List.replicate_succ, List.flatten_cons] at hx
              obtain ⟨hx1, hx2⟩ := matchSs_append hx
              rw [hsz.1] at hx1 hx2
              rw [List.drop_drop, show k * i.size + i.size = (k + 1) * i.size by rw [Nat.add_mul]; omega] at hx2
              obtain ⟨c1, c2, _⟩ := run_eqS w m d e s hs _ _ hx1 hx1
              have c3 := run_checkS em m d e s hs _ hx1
              have l1 : ((xs.drop (k * i.size)).take i.size).length = i.size := by rw [← matchSs_len hx1]; exact hsz.1
              have p1 := run_part_wrap w (T := e) (xs := (xs.map valD).toArray) (off := k * i.size) (ys := ((xs.drop (k * i.size)).take i.size).map valD) hi c2 (by simpa using l1) (fun hf => by
                have := c1 hf; simp only [List.length_map]; omega) (by
                simp only [List.length_map, l1]; rw [← List.map_drop, ← List.map_take])
              rw [List.range'_succ]
              simp only [List.forIn_cons, Sem.run_bind, run_sizeOf w hi, hc, p1, c3, Result.andThen_ok, Sem.run_pure]
              exact ih (k + 1) xs hx2
          have := key n 0 ds (by simpa using h1)
          simp at this ⊢
          rw [this]
          rfl
        · cases h
      · cases h
    · rename_i fs hu
      have hag : aggT P T = true := by simp [aggT, hu]
      split at h
      · cases h
      · rename_i hst
        simp only [wrapT, hag, if_true, Instr.checkKey, Sem.run_bind, run_underlying hu, Result.andThen_ok]
        rw [← Array.forIn_toList]
        have key : ∀ (fs : List Field) (off : Nat) (sh : List SK), shapeFs (shapeOf P m) (fun t => (P.info? t).map (·.size)) fs off = some sh → ∀ (xs : List D), matchSs sh (xs.drop off) = true →
            (forIn fs PUnit.unit fun f r => if f.name ≠ "_" then do
                let __do_lift ← part f.type (xs.map valD).toArray f.offset
                let _ ← Instr.checkKey em (d + m) f.type __do_lift
                pure (ForInStep.yield PUnit.unit)
              else do
                pure PUnit.unit
                pure (ForInStep.yield PUnit.unit) : Sem PUnit).run P w = .ok PUnit.unit w := by
          intro fs
          induction fs with
          | nil => intro off sh _ xs _; simp
          | cons f fs ih =>
            intro off sh hsh xs hx
            unfold shapeFs at hsh
            split at hsh
            · rename_i hf
              split at hsh
              · rename_i s n hs hn
                split at hsh
                · rename_i hsz
                  cases hr : shapeFs (shapeOf P m) (fun t => (P.info? t).map (·.size)) fs (off + n) with
                  | none => rw [hr] at hsh; cases hsh
                  | some sh' =>
                    rw [hr] at hsh
                    cases hsh
                    cases hi : P.info? f.type with
                    | none => rw [hi] at hn; cases hn
                    | some i =>
                      rw [hi] at hn
                      simp only [Option.map_some, Option.some.injEq] at hn
                      obtain ⟨hx1, hx2⟩ := matchSs_append hx
                      rw [hsz] at hx1 hx2
                      rw [List.drop_drop] at hx2
                      obtain ⟨c1, c2, _⟩ := run_eqS w m d f.type s hs _ _ hx1 hx1
                      have c3 := run_checkS em m d f.type s hs _ hx1
                      have l1 : ((xs.drop off).take n).length = n := by rw [← matchSs_len hx1]; exact hsz
                      have p1 := run_part_wrap w (T := f.type) (xs := (xs.map valD).toArray) (off := off) (ys := ((xs.drop off).take n).map valD) hi c2 (by simp only [List.length_map]; omega) (fun hf => by
                        have := c1 hf; simp only [List.length_map]; omega) (by
                        simp only [List.length_map, l1]; rw [← List.map_drop, ← List.map_take])
                      simp only [List.forIn_cons, hf.1, ne_eq, not_false_eq_true, if_true, hf.2, Sem.run_bind, p1, c3, Result.andThen_ok, Sem.run_pure]
                      exact ih (off + n) sh' hr xs hx2
                · cases hsh
              · cases hsh
            · cases hsh
        have := key fs.toList 0 sh h ds (by simpa using h1)
        simp at this ⊢
        rw [this]
        rfl
    · cases h
end
end Go.Proofs.Ytdnefcjbcieecaa
namespace Go.Proofs.Ytdnefcjbcieecaa
open Go
def constD : Value → D
  | .int k n => .int k n
  | .bool b => .bool b
  | .string s => .str s.data.toList
  | .slice none n c => if n = 0 ∧ c = 0 then .nils else .any
  | .nilFunc => .nilf
  | .pointer none => .nilp
  | .nilIface => .nili
  | _ => .any
def constV : Value → V
  | .agg cs => if cs.all (·.oneCell') then .agg (cs.toList.map fun c => .d (constD c)) else .any
  | .tuple vs => if vs.size = 0 then .tup [] else .any
  | v => .d (constD v)
theorem rep_nil (ro : Nat → Nat → Option Value) : RepD ro (.sl true 0 []) (.slice none 0 0) :=
  .sl true 0 0 [] none 0 0 (fun _ => undef) (Nat.le_refl _) (Nat.zero_le _) (fun _ => rfl) (.inl rfl) (fun k hk => by simp at hk) (fun k c hk => by simp at hk)
theorem constD_rep (ro : Nat → Nat → Option Value) (v : Value) (h1 : v.oneCell' = true) : RepD ro (constD v) v := by
  cases v with
  | int k n => exact .int _ _
  | bool b => exact .bool _
  | string s => exact .str _
  | slice a n c =>
    cases a with
    | none =>
      simp only [constD]
      split
      · rename_i h; obtain ⟨rfl, rfl⟩ := h; exact .nils
      · exact .any _ rfl
    | some a => exact .any _ rfl
  | pointer a =>
    cases a with
    | none => exact .nilp
    | some a => exact .any _ rfl
  | nilFunc => exact .nilf
  | nilIface => exact .nili
  | _ => exact .any _ h1
theorem constV_rep (M : Mem) (v : Value) : RepV M (constV v) v := by
  cases v with
  | agg cs =>
    obtain ⟨l⟩ := cs
    simp only [constV]
    split
    · rename_i hall
      have hall : ∀ u ∈ l, u.oneCell' = true := by simpa using hall
      refine .agg _ l (by simp) (fun k v c hv hc => ?_) hall
      simp only [List.getElem?_map, hc, Option.map_some, Option.some.injEq] at hv
      subst hv
      exact .d _ _ (constD_rep _ _ (hall _ (List.mem_of_getElem? hc)))
    · exact .any _
  | tuple vs =>
    simp only [constV]
    split
    · rename_i h
      obtain ⟨l⟩ := vs
      obtain rfl : l = [] := List.eq_nil_of_length_eq_zero (by simpa using h)
      exact .tup [] [] rfl (fun k v c hv => by simp at hv)
    · exact .any _
  | _ => exact .d _ _ (constD_rep _ _ rfl)
def cellsV : V → Option (List V)
  | .agg cs => some cs
  | .any => none
  | .tup _ => none
  | v => some [v]
theorem RepD.one {ro : Nat → Nat → Option Value} {x : D} {v : Value} (h : RepD ro x v) : v.oneCell' = true := by cases h <;> first | rfl | assumption
theorem cells_one {v : Value} (h : v.oneCell' = true) : v.cells = #[v] := by cases v <;> first | rfl | (simp [Value.oneCell'] at h)
theorem RepL.single {M : Mem} {x : V} {v : Value} (h : RepV M x v) : RepL M [x] [v] := by
  refine ⟨rfl, fun k a c ha hc => ?_⟩
  cases k with
  | zero => simp at ha hc; subst ha; subst hc; exact h
  | succ k => simp at ha
theorem RepV.oneOf {M : Mem} {x : V} {v : Value} (h : RepV M x v) (hx : cellsV x = some [x]) (hna : ∀ cs, x ≠ .agg cs) : v.oneCell' = true := by
  cases h with
  | d x v hd => exact hd.one
  | any v => cases hx
  | agg cs => exact absurd rfl (hna _)
  | tup => cases hx
  | _ => rfl
theorem cellsV_rep {M : Mem} {x : V} {v : Value} {cs : List V} (h : RepV M x v) (hc : cellsV x = some cs) : RepL M cs v.cells.toList ∧ ∀ u ∈ v.cells.toList, u.oneCell' = true := by
  have one : v.oneCell' = true → cs = [x] → RepL M cs v.cells.toList ∧ ∀ u ∈ v.cells.toList, u.oneCell' = true := by
    rintro h1 rfl
    rw [cells_one h1]
    exact ⟨RepL.single h, fun u hu => by simp at hu; subst hu; exact h1⟩
  cases x with
  | any => cases hc
  | tup vs => cases hc
  | agg vs =>
    cases hc
    cases h with | agg _ arr hl h h1 => exact ⟨⟨by simpa [Value.cells] using hl, by simpa [Value.cells] using h⟩, by simpa [Value.cells] using h1⟩
  | _ => exact one (h.oneOf rfl (fun _ e => by cases e)) (by cases hc; rfl)
def aggOf (P : Program) (T : TypeId) : Option (Option Nat) :=
  match P.info? T, P.underlying T with
  | some i, some (.struct _) => if i.size = 0 then none else some (some i.size)
  | some i, some (.array _ _) => if i.size = 0 then none else some (some i.size)
  | some i, some _ => if i.size = 1 then some none else none
  | _, _ => none
def zeroCells? (P : Program) (T : TypeId) : Option (List D) := ((P.info? T).bind (·.zero)).bind fun z => if z.cells.toList.all (·.oneCell') then some (z.cells.toList.map constD) else none
def placeOf (P : Program) (T : TypeId) : Option (Nat → Option (Nat × Nat)) :=
  match P.underlying T with
  | some (.struct fs) => (fs.toList.mapM fun f => (P.info? f.type).map fun i => (f.offset, i.size)).map fun pl i => pl[i]?
  | some (.array _ e) => (P.info? e).map fun ie i => some (i * ie.size, ie.size)
  | _ => none
def partsOf (pl : Nat → Option (Nat × Nat)) : List (Nat × Operand) → Option (List (Nat × Nat × Operand))
  | [] => some []
  | p :: ps => match pl p.1, partsOf pl ps with
    | some q, some r => some ((q.1, q.2, p.2) :: r)
    | _, _ => none
def listO : Option Operand → List Operand
  | none => []
  | some x => [x]
def appOf (P : Program) : List TypeId → List Operand → Option (Nat × Nat × Nat × Operand × Operand)
  | [t, t'], [x, y] => if t = t' then
      match P.underlying t with
      | some (.slice e) => (P.info? e).bind fun i => if 0 < i.size ∧ (i.zero.map fun z => z.cells.size) = some i.size then some (e, i.size, i.bytes, x, y) else none
      | _ => none
    else none
  | _, _ => none
def eqAOf (P : Program) (op : BinOp) (T : TypeId) (x y : Operand) : Option COp :=
  if P.eqGuardType P.depth T then none else match op, shapeOf P 8 T with
    | .eql, some sh => some (.eqA false sh x y)
    | .neq, some sh => some (.eqA true sh x y)
    | _, _ => none
def isNilC : Operand → Bool
  | .const (.slice none 0 0) => true
  | .const (.pointer none) => true
  | .const (.map none) => true
  | .const .nilFunc => true
  | _ => false
def nilOf (P : Program) (op : BinOp) (T : TypeId) (x y : Operand) : Option COp :=
  match P.underlying T, y with
  | some (.slice _), .const (.slice none 0 0) => match op with | .eql => some (.isNil 0 false x) | .neq => some (.isNil 0 true x) | _ => none
  | some (.pointer _), .const (.pointer none) => match op with | .eql => some (.isNil 1 false x) | .neq => some (.isNil 1 true x) | _ => none
  | some (.map _ _), .const (.map none) => match op with | .eql => some (.isNil 2 false x) | .neq => some (.isNil 2 true x) | _ => none
  | some (.func _ _ _), .const .nilFunc => match op with | .eql => some (.isNil 3 false x) | .neq => some (.isNil 3 true x) | _ => none
  | some .bool, y => match op with | .eql => some (.binB false x y) | .neq => some (.binB true x y) | _ => none
  | some .string, y => some (.binS op x y)
  | _, _ => none
def compOp (P : Program) (own : Bool) : Op → Option COp
  | .move x => some (.move x)
  | .assign x => some (.move x)
  | .pick c a b => some (.pick c a b)
  | .alloc T => (zeroCells? P T).map fun z => .alloc (z.map V.d)
  | .box _ x => some (.box own x)
  | .build T parts =>
    match placeOf P T, zeroCells? P T with
    | some pl, some z => (partsOf pl parts.toList).map (.build (z.map V.d))
    | _, _ => none
  | .buildSlice T len parts =>
    match P.underlying T with
    | some (.slice e) => (P.info? e).bind fun i => (zeroCells? P e).bind fun z =>
        if 0 < i.size ∧ z.length = i.size ∧ len * i.size ≤ 2 ^ 24 then some (.bslice own e i.size len ((List.range (len * i.size)).map fun j => z.getD (j % z.length) .any) (parts.toList.map fun p => (p.1 * i.size, p.2))) else none
    | _ => none
  | .load T x => (aggOf P T).map (.load · x)
  | .store T x v => (P.info? T).map fun i => .store i.size x v
  | .binOp op T x y _ => if aggT P T then eqAOf P op T x y else match nilOf P op T x y with
    | some c => some c
    | none => some (.bin op x y)
  | .makeMap _ none => some .mkmap
  | .lookup t x k ok =>
    match P.underlying t with
    | some (.map kt et) => (shapeOf P 8 kt).bind fun sh => ((P.info? et).bind (·.zero)).map fun z => .lookup (aggT P kt) sh (constV z) ok x k
    | _ => none
  | .mapUpdate t x k v =>
    match P.underlying t with
    | some (.map kt _) => (shapeOf P 8 kt).map fun sh => .mupd (aggT P kt) sh x k v
    | _ => none
  | .insert t x k v =>
    match P.underlying t with
    | some (.map kt _) => (shapeOf P 8 kt).map fun sh => .mupd (aggT P kt) sh x k v
    | _ => none
  | .makeSlice t l c =>
    match P.underlying t with
    | some (.slice e) => (P.info? e).bind fun i => (zeroCells? P e).bind fun z => if z.length = i.size ∧ 0 < i.size then some (.mkslice e i.size i.bytes z l c) else none
    | _ => none
  | .unOp op _ x => some (.un op x)
  | .convert S T x =>
    match P.underlying S, P.underlying T with
    | some (.int _), some (.int k) => some (.conv k x)
    | _, _ => none
  | .fieldAddr S x f =>
    match P.underlying S with
    | some (.struct fs) => (fs[f]?).bind fun fl => (P.info? fl.type).bind fun i => if i.size = 0 then none else some (.fieldAddr fl.offset x)
    | _ => none
  | .field S x f =>
    match P.underlying S with
    | some (.struct fs) => (fs[f]?).bind fun fl => (aggOf P fl.type).map (.field · fl.offset x)
    | _ => none
  | .indexAddr T x i =>
    match P.underlying T with
    | some (.slice e) => (P.info? e).bind fun inf => if inf.size = 0 then none else some (.indexS inf.size x i)
    | some (.array n e) => (P.info? e).bind fun inf => if inf.size = 0 then none else some (.indexA n inf.size x i)
    | _ => none
  | .extract x k => some (.extract x k)
  | .nilCheck x => some (.nilCheck x)
  | .makeFunc f first caps => some (.mkfn f first.toList caps.toList)
  | .slice T x lo hi mx =>
    match P.underlying T with
    | some (.slice e) => (P.info? e).bind fun inf => if inf.size = 0 then none else some (.sliceS inf.size x lo hi mx)
    | some (.array n e) => if mx.isSome then none else (P.info? e).bind fun inf => if inf.size = 0 ∨ 1048576 < n then none else some (.sliceA n inf.size x lo hi)
    | some (.pointer arr) => match P.underlying arr with
      | some (.array n e) => if mx.isSome then none else (P.info? e).bind fun inf => if inf.size = 0 ∨ 1048576 < n then none else some (.sliceA n inf.size x lo hi)
      | _ => none
    | _ => none
  | .panic x => some (.panic x)
  | .call c =>
    match c.callee with
    | .value _ => none
    | .builtin .len =>
      match (c.argTypes[0]?).bind P.underlying, c.args.toList with
      | some (.slice _), [x] => some (.len x)
      | some .string, [x] => some (.lenStr x)
      | some (.array n _), [_] => some (.lenArr n)
      | _, _ => none
    | .builtin .min => some (.min c.args.toList)
    | .builtin .max => some (.max c.args.toList)
    | .builtin .append => match appOf P c.argTypes.toList c.args.toList with
      | some (e, sz, bytes, x, y) => some (.append own e sz bytes x y)
      | none => none
    | _ => none
  | _ => none
end Go.Proofs.Ytdnefcjbcieecaa
namespace Go.Proofs.Ytdnefcjbcieecaa
open Go
def toDs : List V → Option (List D)
  | [] => some []
  | .d x :: xs => (toDs xs).map (x :: ·)
  | .fn f [] [] :: xs => (toDs xs).map (.fn f :: ·)
  | _ :: _ => none
def putAt {α : Type} (l : List α) (off : Nat) (xs : List α) : List α := l.take off ++ xs ++ l.drop (off + xs.length)
def arV (k : IntKind) (r : Int) (K : V → Prop) : Prop :=
  match k with
  | .i64 => (-9223372036854775808 ≤ r ∧ r ≤ 9223372036854775807) ∧ K (.d (.int .i64 r))
  | k => K (.d (.int k (k.wrap r)))
def bitsV (op : BinOp) (k : IntKind) (a b : Int) : Int :=
  let x := BitVec.ofInt k.bits a
  let y := BitVec.ofInt k.bits b
  k.wrap (match op with | .and => x &&& y | .or => x ||| y | .xor => x ^^^ y | _ => x &&& ~~~y).toNat
def onInts (x y : V) (f : IntKind → Int → IntKind → Int → Prop) : Prop :=
  match x, y with
  | .d (.int k a), .d (.int k' b) => f k a k' b
  | _, _ => False
def onBools (x : V) (f : Bool → Prop) : Prop :=
  match x with
  | .d (.bool b) => f b
  | _ => False
def onInt (x : V) (f : IntKind → Int → Prop) : Prop :=
  match x with
  | .d (.int k a) => f k a
  | _ => False
def onPtr (x : V) (f : Nat → Nat → Nat → Prop) (g : List D → Nat → Prop) : Prop :=
  match x with
  | .ptr id g off => f id g off
  | .rptr ds off => g ds off
  | _ => False
def onAgg (x : V) (f : List V → Prop) : Prop :=
  match x with
  | .agg cs => f cs
  | _ => False
def onTup (x : V) (f : List V → Prop) : Prop :=
  match x with
  | .tup cs => f cs
  | _ => False
def onStr (x : V) (f : List UInt8 → Prop) : Prop :=
  match x with
  | .d (.str l) => f l
  | _ => False
def onSl (x : V) (f : Bool → Nat → List D → Prop) (g : Nat → Nat → Nat → Prop) (z : Prop) : Prop :=
  match x with
  | .d (.sl e len cs) => f e len cs
  | .own id ge len => g id ge len
  | .d .nils => z
  | _ => False
def binI (op : BinOp) (K : V → Prop) (k : IntKind) (a : Int) (k' : IntKind) (b : Int) : Prop :=
    match op with
    | .add => k = k' ∧ arV k (a + b) K
    | .sub => k = k' ∧ arV k (a - b) K
    | .mul => k = k' ∧ arV k (a * b) K
    | .quo => k = k' ∧ b ≠ 0 ∧ arV k (a.tdiv b) K
    | .rem => k = k' ∧ b ≠ 0 ∧ K (.d (.int k (a.tmod b)))
    | .shl => 0 ≤ b ∧ arV k (a * 2 ^ (min b.toNat k.bits)) K
    | .shr => 0 ≤ b ∧ K (.d (.int k (a.fdiv (2 ^ (min b.toNat k.bits)))))
    | .and => k = k' ∧ K (.d (.int k (bitsV .and k a b)))
    | .or => k = k' ∧ K (.d (.int k (bitsV .or k a b)))
    | .xor => k = k' ∧ K (.d (.int k (bitsV .xor k a b)))
    | .andNot => k = k' ∧ K (.d (.int k (bitsV .andNot k a b)))
    | .eql => k = k' ∧ K (.d (.bool (a == b)))
    | .neq => k = k' ∧ K (.d (.bool (a != b)))
    | .lss => k = k' ∧ K (.d (.bool (decide (a < b))))
    | .leq => k = k' ∧ K (.d (.bool (decide (a ≤ b))))
    | .gtr => k = k' ∧ K (.d (.bool (decide (b < a))))
    | .geq => k = k' ∧ K (.d (.bool (decide (b ≤ a))))
def unV (op : UnOp) (x : V) (K : V → Prop) : Prop :=
  match op with
  | .not => onBools x fun b => K (.d (.bool (!b)))
  | .neg => onInt x fun k a => arV k (0 - a) K
  | _ => False
def natI (v : V) (K : Int → Prop) : Prop := onInt v fun _ i => K i
def Blk.gen : Blk → Nat
  | .row _ _ g _ => g
  | _ => 0
def Heap.cell (h : Heap) (id g off : Nat) : Option V :=
  match h[id]? with
  | some (some (.box cs)) => if g = 0 then cs[off]? else none
  | some (some (.row _ _ g' ds)) => if g = g' then (ds[off]?).map .d else none
  | _ => none
def Heap.cells (h : Heap) (id g off n : Nat) : Option (List V) :=
  match h[id]? with
  | some (some (.box cs)) => if g = 0 ∧ off + n ≤ cs.length then some ((cs.drop off).take n) else none
  | some (some (.row _ _ g' ds)) => if g = g' ∧ off + n ≤ ds.length then some (((ds.drop off).take n).map .d) else none
  | _ => none
def Heap.put (h : Heap) (id g off : Nat) (vs : List V) : Option Heap :=
  match h[id]? with
  | some (some (.box cs)) => if g = 0 ∧ off + vs.length ≤ cs.length then some (h.set id (some (.box (putAt cs off vs)))) else none
  | some (some (.row e sz g' ds)) => match toDs vs with
    | some xs => if g = g' ∧ off + vs.length ≤ ds.length then some (h.set id (some (.row e sz g' (putAt ds off xs)))) else none
    | none => none
  | _ => none
def elemAt (cs : List D) (sz i : Nat) : Option (List D) := if i * sz + sz ≤ cs.length then some ((cs.drop (i * sz)).take sz) else none
def minI (l : List Int) (K : Int → Prop) : Prop := match l with | [] => False | x :: xs => K (xs.foldl (fun a b => if b < a then b else a) x)
def maxI (l : List Int) (K : Int → Prop) : Prop := match l with | [] => False | x :: xs => K (xs.foldl (fun a b => if b > a then b else a) x)
def intsV : List V → Option (List Int)
  | [] => some []
  | .d (.int .i64 n) :: xs => (intsV xs).map (n :: ·)
  | _ => none
def partsV (ρ : Operand → V) : List (Nat × Nat × Operand) → Option (List (Nat × List V))
  | [] => some []
  | (off, sz, x) :: ps => match cellsV (ρ x) with
    | some cs => if cs.length = sz then (partsV ρ ps).map ((off, cs) :: ·) else none
    | none => none
def partsD (ρ : Operand → V) (sz : Nat) : List (Nat × Operand) → Option (List (Nat × List D))
  | [] => some []
  | (off, x) :: ps => match (cellsV (ρ x)).bind toDs with
    | some cs => if cs.length = sz then (partsD ρ sz ps).map ((off, cs) :: ·) else none
    | none => none
def fillL {α : Type} (l : List α) : List (Nat × List α) → List α
  | [] => l
  | (off, xs) :: ps => fillL (putAt l off xs) ps
def fitL {α : Type} (n : Nat) (ps : List (Nat × List α)) : Bool := ps.all fun p => p.1 + p.2.length ≤ n
def conts (h : Heap) : V → Option (Nat × List D)
  | .d (.sl _ m cs) => some (m, cs)
  | .d .nils => some (0, [])
  | .own id g m => match h[id]? with
    | some (some (.row _ _ g' ds)) => if g = g' then some (m, ds) else none
    | _ => none
  | _ => none
def optV {α : Type} (o : Option α) (K : α → Prop) : Prop := ∃ v, o = some v ∧ K v
def brV (v : V) (yes no : Prop) : Prop :=
  match v with
  | .d (.bool b) => (b = true → yes) ∧ (b = false → no)
  | _ => False
def appendV (own : Bool) (e sz bytes : Nat) (x : V) (h : Heap) (K : V → Heap → Prop) (q : Nat × List D) : Prop :=
  match own with
  | false => onSl x (fun ex n cs => (ex = true ∧ cs.length = n * sz ∧ n + q.1 ≤ 140737488355328 ∧ (n + q.1) * bytes ≤ 140737488355328) ∧ K (.d (.sl false (n + q.1) (cs ++ q.2))) h) (fun _ _ _ => False)
      ((q.1 ≤ 140737488355328 ∧ q.1 * bytes ≤ 140737488355328) ∧ K (.d (.sl false q.1 q.2)) h)
  | true => onSl x (fun ex n cs => if q.1 = 0 then K (.d (.sl ex n cs)) h else (ex = true ∧ cs.length = n * sz ∧ n + q.1 ≤ 140737488355328 ∧ (n + q.1) * bytes ≤ 140737488355328) ∧ K (.own h.length 0 (n + q.1)) (h ++ [some (.row e sz 0 (cs ++ q.2))])) (fun _ _ _ => False) ((q.1 ≤ 140737488355328 ∧ q.1 * bytes ≤ 140737488355328) ∧ K (.own h.length 0 q.1) (h ++ [some (.row e sz 0 q.2)]))
def sliceV (sz : Nat) (K : V → Prop) (len : Nat) (cs : List D) (hasHi : Bool) (l t : V) (mx : Option V) : Prop :=
  cs.length = len * sz ∧ natI l fun l => natI t fun t => match mx with
        | none => (0 ≤ l ∧ l ≤ t ∧ t ≤ len) ∧ K (.d (.sl false (t.toNat - l.toNat) ((cs.drop (l.toNat * sz)).take ((t.toNat - l.toNat) * sz))))
        | some m => natI m fun m => (0 ≤ l ∧ l ≤ t ∧ t = m ∧ m ≤ len ∧ hasHi = true) ∧ K (.d (.sl true (t.toNat - l.toNat) ((cs.drop (l.toNat * sz)).take ((t.toNat - l.toNat) * sz))))
def evEqA (neg : Bool) (sh : List SK) (x y : V) : Option V :=
  match x, y with
  | .agg cs, .agg cs' => match toDs cs, toDs cs' with
    | some ds, some es => if (matchSs sh ds && matchSs sh es) = true then some (.d (.bool (if neg then !(eqDs ds es) else eqDs ds es))) else none
    | _, _ => none
  | _, _ => none
def keyD (agg : Bool) (v : V) : Option (List D) :=
  match agg, v with
  | true, .agg cs => toDs cs
  | false, .d x => some [x]
  | _, _ => none
def findE (agg : Bool) (sh : List SK) (ds : List D) : List (V × V) → Nat → Option (Option Nat)
  | [], _ => some none
  | e :: es, i => match keyD agg e.1 with
    | some ds' => if matchSs sh ds' then if eqDs ds ds' then some (some i) else findE agg sh ds es (i + 1) else none
    | none => none
def okV (ok : Bool) (v : V) (b : Bool) : V := if ok then .tup [v, .d (.bool b)] else v
def evLk (agg : Bool) (sh : List SK) (zero : V) (ok : Bool) (x k : V) (h : Heap) : Option V :=
  match x with
  | .mp id => match h[id]?, keyD agg k with
    | some (some (.map es)), some ds => if matchSs sh ds then match findE agg sh ds es 0 with
        | some (some i) => (es[i]?).map fun e => okV ok e.2 true
        | some none => some (okV ok zero false)
        | none => none
      else none
    | _, _ => none
  | _ => none
def evUp (agg : Bool) (sh : List SK) (x k v : V) (h : Heap) : Option Heap :=
  match x with
  | .mp id => match h[id]?, keyD agg k with
    | some (some (.map es)), some ds => if matchSs sh ds then match findE agg sh ds es 0 with
        | some (some i) => some (h.set id (some (.map (es.set i (k, v)))))
        | some none => some (h.set id (some (.map (es ++ [(k, v)]))))
        | none => none
      else none
    | _, _ => none
  | _ => none
def evMk (e sz bytes : Nat) (zero : List D) (l c : V) (h : Heap) : Option (V × Heap) :=
  match l, c with
  | .d (.int _ l), .d (.int _ c) => if 0 ≤ l ∧ l ≤ c ∧ c ≤ 1048576 ∧ bytes * c.toNat ≤ 281474976710656 then
      some (.own h.length 0 l.toNat, h ++ [some (.row e sz 0 ((List.range (l.toNat * sz)).map fun k => zero.getD (k % sz) .any))]) else none
  | _, _ => none
def evSlA (len sz : Nat) (x l t : V) : Option V :=
  match x, l, t with
  | .rptr ds off, .d (.int _ l), .d (.int _ t) => if 0 ≤ l ∧ l ≤ t ∧ t ≤ len ∧ off + len * sz ≤ ds.length then
      some (.d (.sl false (t.toNat - l.toNat) ((ds.drop (off + l.toNat * sz)).take ((t.toNat - l.toNat) * sz)))) else none
  | _, _, _ => none
def ev0 (lim : Nat) (r l t : V) (mx : Option V) (hasHi : Bool) : Option V :=
  match l, t, mx with
  | .d (.int _ l), .d (.int _ t), some (.d (.int _ m)) => if 0 ≤ l ∧ l = t ∧ t = m ∧ m ≤ lim ∧ hasHi = true then some r else none
  | _, _, _ => none
def evNilS (x : V) (h : Heap) : Option Bool :=
  match x with
  | .d .nils => some true
  | .d (.sl _ _ cs) => if cs.isEmpty then none else some false
  | .own id g _ => match h[id]? with
    | some (some (.row _ _ g' ds)) => if g = g' ∧ ds.isEmpty = false then some false else none
    | _ => none
  | _ => none
def evNilP (x : V) : Option Bool :=
  match x with
  | .d .nilp => some true
  | .ptr _ _ _ => some false
  | .rptr _ _ => some false
  | _ => none
def evNilM (x : V) : Option Bool :=
  match x with
  | .mp _ => some false
  | _ => none
def evNilF (x : V) : Option Bool :=
  match x with
  | .d .nilf => some true
  | .d (.fn _) => some false
  | .fn _ _ _ => some false
  | _ => none
def evIsNil (k : Nat) (x : V) (h : Heap) : Option Bool :=
  match k with
  | 0 => evNilS x h
  | 1 => evNilP x
  | 2 => evNilM x
  | _ => evNilF x
def evBinB (neg : Bool) (x y : V) : Option V :=
  match x, y with
  | .d (.bool a), .d (.bool b) => some (.d (.bool (if neg then !(a == b) else a == b)))
  | _, _ => none
def evBinS (op : BinOp) (x y : V) : Option V :=
  match x, y with
  | .d (.str a), .d (.str b) => match op with
    | .eql => some (.d (.bool (a == b)))
    | .neq => some (.d (.bool !(a == b)))
    | .lss => some (.d (.bool (Op.bytesLess a b)))
    | .leq => some (.d (.bool (Op.bytesLess a b || a == b)))
    | .gtr => some (.d (.bool !(Op.bytesLess a b || a == b)))
    | .geq => some (.d (.bool !(Op.bytesLess a b)))
    | .add => if a.length + b.length ≤ 9223372036854775807 then some (.d (.str (a ++ b))) else none
    | _ => none
  | _, _ => none
def step (c : COp) (ρ : Operand → V) (h : Heap) (K : V → Heap → Prop) : Prop :=
  match c with
  | .move x => K (ρ x) h
  | .pick c a b => brV (ρ c) (K (ρ a) h) (K (ρ b) h)
  | .alloc z => K (.ptr h.length 0 0) (h ++ [some (.box z)])
  | .box true x => optV (cellsV (ρ x)) fun cs => K (.ptr h.length 0 0) (h ++ [some (.box cs)])
  | .box false x => match (cellsV (ρ x)).bind toDs with
    | some ds => K (.rptr ds 0) h
    | none => optV (cellsV (ρ x)) fun cs => K (.ptr h.length 0 0) (h ++ [some (.box cs)])
  | .build z ps => optV (partsV ρ ps) fun qs => fitL z.length qs = true ∧ K (.agg (fillL z qs)) h
  | .bslice true e sz len z ps => optV (partsD ρ sz ps) fun qs => fitL z.length qs = true ∧ K (.own h.length 0 len) (h ++ [some (.row e sz 0 (fillL z qs))])
  | .bslice false _ sz len z ps => optV (partsD ρ sz ps) fun qs => fitL z.length qs = true ∧ K (.d (.sl true len (fillL z qs))) h
  | .load none x => onPtr (ρ x) (fun id g off => optV (h.cell id g off) fun v => K v h) (fun ds off => optV ds[off]? fun v => K (.d v) h)
  | .load (some n) x => onPtr (ρ x) (fun id g off => optV (h.cells id g off n) fun vs => K (.agg vs) h) (fun ds off => off + n ≤ ds.length ∧ K (.agg (((ds.drop off).take n).map .d)) h)
  | .store n x v => onPtr (ρ x) (fun id g off => optV (cellsV (ρ v)) fun vs => vs.length = n ∧ optV (h.put id g off vs) fun h' => K .any h') (fun _ _ => False)
  | .bin op x y => onInts (ρ x) (ρ y) (binI op fun v => K v h)
  | .un op x => unV op (ρ x) fun v => K v h
  | .conv k x => onInt (ρ x) fun _ n => K (.d (.int k (k.wrap n))) h
  | .fieldAddr off x => onPtr (ρ x) (fun id g o => K (.ptr id g (o + off)) h) (fun ds o => K (.rptr ds (o + off)) h)
  | .field none off x => onAgg (ρ x) fun cs => optV cs[off]? fun v => K v h
  | .field (some n) off x => onAgg (ρ x) fun cs => off + n ≤ cs.length ∧ K (.agg ((cs.drop off).take n)) h
  | .indexS sz x i => natI (ρ i) fun i => onSl (ρ x) (fun _ len cs => (0 ≤ i ∧ i < len) ∧ optV (elemAt cs sz i.toNat) fun e => K (.rptr e 0) h)
      (fun id g len => (0 ≤ i ∧ i < len) ∧ (∃ vs, h.cells id g (i.toNat * sz) sz = some vs) ∧ K (.ptr id g (i.toNat * sz)) h) False
  | .indexA len sz x i => natI (ρ i) fun i => onPtr (ρ x) (fun id g o => (0 ≤ i ∧ i < len) ∧ K (.ptr id g (o + i.toNat * sz)) h) (fun ds o => (0 ≤ i ∧ i < len) ∧ K (.rptr ds (o + i.toNat * sz)) h)
  | .extract x k => onTup (ρ x) fun vs => optV vs[k]? fun v => K v h
  | .nilCheck x => onPtr (ρ x) (fun id g o => K (.ptr id g o) h) (fun ds o => K (.rptr ds o) h)
  | .mkfn f a c => K (.fn f (a.map ρ) (c.map ρ)) h
  | .len x => onSl (ρ x) (fun _ len _ => K (.d (.int .i64 len)) h) (fun _ _ len => K (.d (.int .i64 len)) h) (K (.d (.int .i64 0)) h)
  | .lenArr m => K (.d (.int .i64 m)) h
  | .lenStr x => onStr (ρ x) fun l => K (.d (.int .i64 l.length)) h
  | .append own e sz bytes x y => optV (conts h (ρ y)) fun q => q.2.length = q.1 * sz ∧ appendV own e sz bytes (ρ x) h K q
  | .min xs => optV (intsV (xs.map ρ)) fun l => minI l fun n => K (.d (.int .i64 n)) h
  | .max xs => optV (intsV (xs.map ρ)) fun l => maxI l fun n => K (.d (.int .i64 n)) h
  | .sliceS sz x lo hi mx => onSl (ρ x) (fun _ len cs => sliceV sz (fun v => K v h) len cs hi.isSome ((lo.map ρ).getD (.d (.int .i64 0))) ((hi.map ρ).getD (.d (.int .i64 len))) (mx.map ρ))
      (fun _ _ len => optV (ev0 len (.d (.sl true 0 [])) ((lo.map ρ).getD (.d (.int .i64 0))) ((hi.map ρ).getD (.d (.int .i64 0))) (mx.map ρ) hi.isSome) fun v => K v h)
      (optV (ev0 0 (.d .nils) ((lo.map ρ).getD (.d (.int .i64 0))) ((hi.map ρ).getD (.d (.int .i64 0))) (mx.map ρ) hi.isSome) fun v => K v h)
  | .isNil k neg x => optV (evIsNil k (ρ x) h) fun b => K (.d (.bool (if neg then !b else b))) h
  | .binB neg x y => optV (evBinB neg (ρ x) (ρ y)) fun v => K v h
  | .binS op x y => optV (evBinS op (ρ x) (ρ y)) fun v => K v h
  | .eqA neg sh x y => optV (evEqA neg sh (ρ x) (ρ y)) fun v => K v h
  | .mkmap => K (.mp h.length) (h ++ [some (.map [])])
  | .lookup agg sh z ok x k => optV (evLk agg sh z ok (ρ x) (ρ k) h) fun v => K v h
  | .mupd agg sh x k v => optV (evUp agg sh (ρ x) (ρ k) (ρ v) h) fun h' => K .any h'
  | .mkslice e sz b z l c => optV (evMk e sz b z (ρ l) (ρ c) h) fun q => K q.1 q.2
  | .sliceA len sz x lo hi => optV (evSlA len sz (ρ x) ((lo.map ρ).getD (.d (.int .i64 0))) ((hi.map ρ).getD (.d (.int .i64 len)))) fun v => K v h
  | _ => False
def Out (n : Nat) (M : Mem) (h : Heap) (w : World) (K : V → Heap → Prop) (r : Result Next) : Prop :=
  ∃ cv w' M' v h', (r = .ok (.value cv) w' ∨ (r = .ok .skip w' ∧ cv = undef)) ∧ Post n M h w M' h' w' ∧ (∀ x u, RepV M x u → RepV M' x u) ∧ RepV M' v cv ∧ K v h'
theorem Out.pure {n : Nat} {M : Mem} {h : Heap} {w : World} {K : V → Heap → Prop} {v : V} {cv : Value} (hs : Sim M h w) (hn : n ≤ h.length) (hv : RepV M v cv) (hk : K v h) {r : Result Next}
    (hr : r = .ok (.value cv) w) : Out n M h w K r :=
  ⟨cv, w, M, v, h, .inl hr, .refl hs hn, fun _ _ h => h, hv, hk⟩
section
variable {P : Program} {n : Nat} {o : Oper} {own : Bool} {ρV : Operand → V} {ρ : Operand → Value} {M : Mem} {h : Heap} {w : World} {K : V → Heap → Prop}
theorem RepV.dI {M : Mem} {x : D} {v : Value} (h : RepV M (.d x) v) : RepD M.ro x v := by cases h; assumption
theorem RepV.intI {M : Mem} {k : IntKind} {i : Int} {v : Value} (h : RepV M (.d (.int k i)) v) : v = .int k i := by cases h with | d _ _ h => cases h; rfl
theorem RepV.boolI {M : Mem} {b : Bool} {v : Value} (h : RepV M (.d (.bool b)) v) : v = .bool b := by cases h with | d _ _ h => cases h; rfl
theorem RepV.strI {M : Mem} {l : List UInt8} {v : Value} (h : RepV M (.d (.str l)) v) : v = .string ⟨l.toArray⟩ := by cases h with | d _ _ h => cases h; rfl
theorem RepV.ptrI {M : Mem} {id g off : Nat} {v : Value} (h : RepV M (.ptr id g off) v) : ∃ r b, M.mu id = some r ∧ g ≤ r.gen ∧ v = .pointer (some ⟨b, off, none⟩) ∧ (r.gen = g → r.blk = some b) := by
  cases h with | ptr _ _ _ r b h hg hv => exact ⟨r, b, h, hg, rfl, hv⟩
theorem RepV.aggI {M : Mem} {cs : List V} {v : Value} (h : RepV M (.agg cs) v) : ∃ arr : List Value, v = .agg arr.toArray ∧ RepL M cs arr := by
  cases h with | agg _ arr hl h => exact ⟨arr, rfl, hl, h⟩
theorem RepV.tupI {M : Mem} {cs : List V} {v : Value} (h : RepV M (.tup cs) v) : ∃ arr : List Value, v = .tuple arr.toArray ∧ RepL M cs arr := by
  cases h with | tup _ arr hl h => exact ⟨arr, rfl, hl, h⟩
theorem RepV.rptrI {M : Mem} {cs : List D} {off : Nat} {v : Value} (h : RepV M (.rptr cs off) v) : ∃ (b o : Nat) (vals : Nat → Value), v = .pointer (some ⟨b, o + off, none⟩) ∧
    (∀ k, k < cs.length → M.ro b (o + k) = some (vals k)) ∧ ∀ (k : Nat) c, cs[k]? = some c → RepD M.ro c (vals k) := by
  cases h with | rptr _ _ b o vals h1 h2 => exact ⟨b, o, vals, rfl, h1, h2⟩
theorem RepV.slI {M : Mem} {x : Bool} {len : Nat} {cs : List D} {v : Value} (h : RepV M (.d (.sl x len cs)) v) : ∃ (cap : Nat) (ao : Option Addr) (b off : Nat) (vals : Nat → Value), v = .slice ao len cap ∧ len ≤ cap ∧ cap ≤ maxLen ∧ (x = true → cap = len) ∧
    (cs = [] ∨ ao = some ⟨b, off, none⟩) ∧ (∀ k, k < cs.length → M.ro b (off + k) = some (vals k)) ∧ ∀ (k : Nat) c, cs[k]? = some c → RepD M.ro c (vals k) := by
  cases h with | d _ _ h => cases h with | sl _ _ cap _ ao b off vals h1 h2 h3 h4 h5 h6 => exact ⟨cap, ao, b, off, vals, rfl, h1, h2, h3, h4, h5, h6⟩
theorem RepV.ownI {M : Mem} {id g len : Nat} {v : Value} (h : RepV M (.own id g len) v) : ∃ r ao cap, M.mu id = some r ∧ g ≤ r.gen ∧ v = .slice ao len cap ∧ len ≤ cap ∧ cap ≤ maxLen ∧
    (r.gen = g → ao = r.blk.map (fun b => ⟨b, 0, none⟩) ∧ cap = r.cap) := by
  cases h with | own _ _ _ r ao cap h1 h2 h3 h4 h5 => exact ⟨r, ao, cap, h1, h2, rfl, h3, h4, h5⟩
theorem snd_move (x : Operand) (hop : o.op = .move x ∨ o.op = .assign x) (hx : RepV M (ρV x) (ρ x)) (hs : Sim M h w) (hn : n ≤ h.length) (hk : step (.move x) ρV h K) :
    Out n M h w K ((execOp ρ o).run P w) := by
  refine Out.pure hs hn hx hk ?_
  rcases hop with hop | hop <;> simp [execOp, hop]
theorem snd_pick (c a b : Operand) (hop : o.op = .pick c a b) (hc : RepV M (ρV c) (ρ c)) (ha : RepV M (ρV a) (ρ a)) (hb : RepV M (ρV b) (ρ b)) (hs : Sim M h w) (hn : n ≤ h.length)
    (hk : step (.pick c a b) ρV h K) : Out n M h w K ((execOp ρ o).run P w) := by
  simp only [step, brV] at hk
  split at hk
  · rename_i t e; rw [e] at hc
    cases t with
    | true => exact Out.pure hs hn ha (hk.1 rfl) (by simp [execOp, hop, hc.boolI, asBool])
    | false => exact Out.pure hs hn hb (hk.2 rfl) (by simp [execOp, hop, hc.boolI, asBool])
  · exact hk.elim
theorem Out.of_arV {k : IntKind} {r : Int} {res : Result Next} (hs : Sim M h w) (hn : n ≤ h.length) (hk : arV k r fun v => K v h)
    (hr : res = .ok (.value (.int k (k.wrap r))) w) : Out n M h w K res := by
  unfold arV at hk
  split at hk
  · obtain ⟨⟨h1, h2⟩, hk⟩ := hk
    have hw : IntKind.i64.wrap r = r := by
      unfold IntKind.wrap IntKind.signed IntKind.bits
      simp only
      split <;> rename_i hc <;> simp at hc <;> omega
    rw [hw] at hr
    exact Out.pure hs hn (.d _ _ (.int _ _)) hk hr
  · exact Out.pure hs hn (.d _ _ (.int _ _)) hk hr
theorem snd_bin (op : BinOp) (T T' : TypeId) (x y : Operand) (hop : o.op = .binOp op T x y T') (hx : RepV M (ρV x) (ρ x)) (hy : RepV M (ρV y) (ρ y)) (hs : Sim M h w) (hn : n ≤ h.length)
    (hk : step (.bin op x y) ρV h K) : Out n M h w K ((execOp ρ o).run P w) := by
  simp only [step, onInts, binI] at hk
  split at hk
  · rename_i k a k' b e1 e2
    rw [e1] at hx
    rw [e2] at hy
    have he : ∀ s : Sem Value, binOp op T (ρ x) (ρ y) = s → (execOp ρ o).run P w = (Functor.map (fun v => Next.value v) s).run P w := by
      intro s hs'
      simp only [execOp, hop, hx.intI, hy.intI] at hs' ⊢
      rw [← hs']
      cases op <;> simp [eqGuard]
    rw [hx.intI, hy.intI] at he
    have hd : ∀ z, (execOp ρ o).run P w = .ok (.value (.bool z)) w → K (.d (.bool z)) h → Out n M h w K ((execOp ρ o).run P w) :=
      fun z hz hkz => Out.pure hs hn (.d _ _ (.bool _)) hkz hz
    have hi : ∀ z, (execOp ρ o).run P w = .ok (.value (.int k z)) w → K (.d (.int k z)) h → Out n M h w K ((execOp ρ o).run P w) :=
      fun z hz hkz => Out.pure hs hn (.d _ _ (.int _ _)) hkz hz
    cases op
    case add => obtain ⟨rfl, hk⟩ := hk; exact Out.of_arV hs hn hk (by rw [he _ rfl]; simp [binOp, Op.intArith])
    case sub => obtain ⟨rfl, hk⟩ := hk; exact Out.of_arV hs hn hk (by rw [he _ rfl]; simp [binOp, Op.intArith])
    case mul => obtain ⟨rfl, hk⟩ := hk; exact Out.of_arV hs hn hk (by rw [he _ rfl]; simp [binOp, Op.intArith])
    case quo => obtain ⟨rfl, hb, hk⟩ := hk; exact Out.of_arV hs hn hk (by rw [he _ rfl]; simp [binOp, Op.intDiv, hb])
    case rem => obtain ⟨rfl, hb, hk⟩ := hk; exact hi _ (by rw [he _ rfl]; simp [binOp, Op.intDiv, hb]) hk
    case shl => obtain ⟨hb, hk⟩ := hk; exact Out.of_arV hs hn hk (by rw [he _ rfl]; simp [binOp, Op.shift, Int.not_lt.2 hb])
    case shr => obtain ⟨hb, hk⟩ := hk; exact hi _ (by rw [he _ rfl]; simp [binOp, Op.shift, Int.not_lt.2 hb]) hk
    case and => obtain ⟨rfl, hk⟩ := hk; exact hi _ (by rw [he _ rfl]; simp [binOp, Op.intBits, bitsV]) hk
    case or => obtain ⟨rfl, hk⟩ := hk; exact hi _ (by rw [he _ rfl]; simp [binOp, Op.intBits, bitsV]) hk
    case xor => obtain ⟨rfl, hk⟩ := hk; exact hi _ (by rw [he _ rfl]; simp [binOp, Op.intBits, bitsV]) hk
    case andNot => obtain ⟨rfl, hk⟩ := hk; exact hi _ (by rw [he _ rfl]; simp [binOp, Op.intBits, bitsV]) hk
    case eql => obtain ⟨rfl, hk⟩ := hk; exact hd _ (by rw [he _ rfl]; simp [binOp, Op.intCmp]) hk
    case neq => obtain ⟨rfl, hk⟩ := hk; exact hd _ (by rw [he _ rfl]; simp [binOp, Op.intCmp]) hk
    case lss => obtain ⟨rfl, hk⟩ := hk; exact hd _ (by rw [he _ rfl]; simp [binOp, Op.intCmp]) hk
    case leq => obtain ⟨rfl, hk⟩ := hk; exact hd _ (by rw [he _ rfl]; simp [binOp, Op.intCmp]) hk
    case gtr => obtain ⟨rfl, hk⟩ := hk; exact hd _ (by rw [he _ rfl]; simp [binOp, Op.intCmp]) hk
    case geq => obtain ⟨rfl, hk⟩ := hk; exact hd _ (by rw [he _ rfl]; simp [binOp, Op.intCmp]) hk
  · exact hk.elim
theorem snd_un (op : UnOp) (T : TypeId) (x : Operand) (hop : o.op = .unOp op T x) (hx : RepV M (ρV x) (ρ x)) (hs : Sim M h w) (hn : n ≤ h.length)
    (hk : step (.un op x) ρV h K) : Out n M h w K ((execOp ρ o).run P w) := by
  cases op with
  | not =>
    simp only [step, unV, onBools] at hk
    split at hk
    · rename_i e; rw [e] at hx
      exact Out.pure hs hn (.d _ _ (.bool _)) hk (by simp [execOp, hop, hx.boolI, Op.unary])
    · exact hk.elim
  | neg =>
    simp only [step, unV, onInt] at hk
    split at hk
    · rename_i e; rw [e] at hx
      exact Out.of_arV hs hn hk (by simp [execOp, hop, hx.intI, Op.unary, Op.intArith])
    · exact hk.elim
  | _ => exact hk.elim
theorem snd_conv (S T : TypeId) (k k0 : IntKind) (x : Operand) (hop : o.op = .convert S T x) (h1 : P.underlying S = some (.int k0)) (h2 : P.underlying T = some (.int k))
    (hx : RepV M (ρV x) (ρ x)) (hs : Sim M h w) (hn : n ≤ h.length)
    (hk : step (.conv k x) ρV h K) : Out n M h w K ((execOp ρ o).run P w) := by
  simp only [step, onInt] at hk
  split at hk
  · rename_i e; rw [e] at hx
    exact Out.pure hs hn (.d _ _ (.int _ _)) hk (by simp [execOp, hop, hx.intI, convert, run_underlying h1, run_underlying h2, Conv.intToInt])
  · exact hk.elim
end
end Go.Proofs.Ytdnefcjbcieecaa
namespace Go.Proofs.Ytdnefcjbcieecaa
open Go
def Mem.addRo (M : Mem) (b : Nat) (arr : Array Value) : Mem := { M with ro := fun b' o => if b' = b then arr[o]? else M.ro b' o }
theorem ro_lt {M : Mem} {h : Heap} {w : World} (hs : Sim M h w) {b o : Nat} {v : Value} (hv : M.ro b o = some v) : b < w.heap.size :=
  World.block_lt_of_cell? w ⟨b, o, none⟩ (hs.ro b o v hv).1
theorem addRo_ro {M : Mem} {h : Heap} {w : World} (hs : Sim M h w) (arr : Array Value) : ∀ b o v, M.ro b o = some v → (M.addRo w.heap.size arr).ro b o = some v := by
  intro b o v hv
  have := ro_lt hs hv
  simp [Mem.addRo, Nat.ne_of_lt this, hv]
theorem addRo_rep {M : Mem} {h : Heap} {w : World} (hs : Sim M h w) (arr : Array Value) {x : V} {u : Value} (hx : RepV M x u) : RepV (M.addRo w.heap.size arr) x u :=
  RepV.mono (M := M) (M' := M.addRo w.heap.size arr) (addRo_ro hs arr) (fun i r h => ⟨r, h, Nat.le_refl _, fun _ => rfl⟩) hx
theorem new_ro {n : Nat} {M : Mem} {h : Heap} {w w' : World} {arr : Array Value} {e : TypeId} {fz : Nat × Nat} (hs : Sim M h w) (hn : n ≤ h.length) (hw : w'.heap = w.heap.push (.cells arr e fz))
    (h1 : w'.os = w.os) (h2 : w'.tape = w.tape) (h3 : w'.output = w.output) : Post n M h w (M.addRo w.heap.size arr) h w' := by
  have hold : ∀ k, k < w.heap.size → w'.heap[k]? = w.heap[k]? := fun k hk => by rw [hw, Array.getElem?_push]; simp [Nat.ne_of_lt hk]
  refine ⟨addRo_ro hs arr, ⟨⟨fun _ h => h, fun _ _ h => h, fun b o v hb h => by simp only [Mem.addRo, Nat.ne_of_lt hb, if_false] at h; exact .inl h⟩, rfl⟩, fun i r h => ⟨r, h, Nat.le_refl _, fun _ => rfl⟩, hn, ⟨?_, ?_, ?_, ?_, ?_⟩, h1, h2, h3, by rw [hw]; simp, fun k hk _ => hold k hk, fun _ _ hl => hl⟩
  · intro i blk hi
    obtain ⟨r, hr, hat⟩ := hs.blks i blk hi
    exact ⟨r, hr, BlkAt.of_same rfl (M := M) (w := w) (addRo_ro hs arr) (fun _ _ hx => addRo_rep hs arr hx) (fun k hk => hold k (hs.live_lt ⟨i, blk, r, hi, hr, hk⟩)) hat⟩
  · exact hs.inj
  · intro b o v hv
    by_cases hb : b = w.heap.size
    · subst hb
      simp only [Mem.addRo, if_true] at hv
      refine ⟨by simp [World.cell?, hw, hv], fun hl => ?_⟩
      exact absurd (hs.live_lt hl) (Nat.lt_irrefl _)
    · simp only [Mem.addRo, hb, if_false] at hv
      obtain ⟨hc, hnl⟩ := hs.ro b o v hv
      exact ⟨by rw [World.cell?_of_block (w := w) (hold b (ro_lt hs hv))]; exact hc, hnl⟩
  · exact hs.dom
  · intro b hb
    obtain ⟨hc, hnl⟩ := hs.df b hb
    exact ⟨by rw [hold b (Array.getElem?_eq_some_iff.1 hc).1]; exact hc, hnl⟩
def Blk.vs : Blk → Option (List V)
  | .box cs => some cs
  | .row _ _ _ ds => some (ds.map .d)
  | .obj _ => none
  | .map _ => none
  | .loop _ => none
theorem BlkAt.genEq {M : Mem} {w : World} {r : Ref} {blk : Blk} (hat : BlkAt M w r blk) : r.gen = blk.gen := by
  cases blk with
  | box l => exact hat.1
  | row e sz g ds => exact hat.1
  | obj p => exact hat.1
  | map es => exact hat.1
  | loop L => exact hat.1
theorem BlkAt.cells {M : Mem} {w : World} {r : Ref} {blk : Blk} {cs : List V} (hat : BlkAt M w r blk) (hv : blk.vs = some cs) (hne : cs ≠ []) :
    ∃ b arr T, r.blk = some b ∧ w.heap[b]? = some (.cells arr T (0, 0)) ∧ cs.length ≤ arr.size ∧ ∀ (k : Nat) v, cs[k]? = some v → ∃ u, arr[k]? = some u ∧ RepV M v u ∧ u.oneCell' = true := by
  cases blk with
  | box l =>
    cases hv
    obtain ⟨_, b, arr, T, h1, h2, h3, h4⟩ := hat
    refine ⟨b, arr, T, h1, h2, by rw [h3.1]; simp, fun k v hk => ?_⟩
    have hlt : k < cs.length := (List.getElem?_eq_some_iff.1 hk).1
    have hlt' : k < arr.size := by have := h3.1; simp at this; omega
    refine ⟨arr[k], by simp [hlt'], h3.2 k v _ hk (by simp [hlt']), h4 _ (by simp)⟩
  | row e sz g ds =>
    cases hv
    rcases hat.2 with ⟨rfl, _⟩ | ⟨b, arr, h1, h2, h3, h4, h5, h6⟩
    · simp at hne
    · refine ⟨b, arr, e, h1, h2, by simpa using h5, fun k v hk => ?_⟩
      rw [List.getElem?_map] at hk
      cases hd : ds[k]? with
      | none => rw [hd] at hk; cases hk
      | some x =>
        rw [hd] at hk; cases hk
        have hlt : k < ds.length := (List.getElem?_eq_some_iff.1 hd).1
        have hlt' : k < arr.size := by omega
        have := h6.2 k x arr[k] hd (by rw [List.getElem?_take]; simp [hlt, hlt'])
        exact ⟨arr[k], by simp [hlt'], .d _ _ this, this.one⟩
  | obj p => cases hv
  | map es => cases hv
  | loop L => cases hv
theorem Heap.cell_vs {h : Heap} {id g off : Nat} {v : V} (hc : h.cell id g off = some v) : ∃ blk cs, h[id]? = some (some blk) ∧ blk.vs = some cs ∧ cs[off]? = some v ∧ blk.gen = g := by
  unfold Heap.cell at hc
  split at hc
  · rename_i cs e
    split at hc
    · rename_i hg; exact ⟨_, cs, e, rfl, hc, hg.symm⟩
    · cases hc
  · rename_i g' ds e
    split at hc
    · rename_i hg; exact ⟨_, _, e, rfl, by rw [List.getElem?_map]; exact hc, hg.symm⟩
    · cases hc
  · cases hc
theorem cell_of_ptr {M : Mem} {h : Heap} {w : World} {id g off : Nat} {v : V} {cv : Value} (hs : Sim M h w) (hp : RepV M (.ptr id g off) cv) (hc : h.cell id g off = some v) :
    ∃ b u, cv = .pointer (some ⟨b, off, none⟩) ∧ w.cell? ⟨b, off, none⟩ = some u ∧ RepV M v u ∧ u.oneCell' = true := by
  obtain ⟨blk, cs, hi, hv, hk, hg⟩ := Heap.cell_vs hc
  obtain ⟨r, hr, hat⟩ := hs.blks id blk hi
  obtain ⟨r', b, hr', _, rfl, hpp⟩ := hp.ptrI
  rw [hr] at hr'; cases hr'
  have hb := hpp (by rw [hat.genEq, hg])
  obtain ⟨b', arr, T, e1, e2, e3, e4⟩ := hat.cells hv (by rintro rfl; simp at hk)
  rw [hb] at e1; cases e1
  obtain ⟨u, hu, hrep, h1⟩ := e4 off v hk
  exact ⟨b, u, rfl, by simp [World.cell?, e2, hu], hrep, h1⟩
theorem cells_of_ptr {M : Mem} {h : Heap} {w : World} {id g off n : Nat} {vs : List V} {cv : Value} (hs : Sim M h w) (hp : RepV M (.ptr id g off) cv) (hc : h.cells id g off n = some vs) (hn0 : n ≠ 0) :
    ∃ b, ∃ us : List Value, cv = .pointer (some ⟨b, off, none⟩) ∧ us.length = n ∧ (∀ (k : Nat) u, us[k]? = some u → w.cell? ⟨b, off + k, none⟩ = some u) ∧ RepL M vs us ∧ ∀ u ∈ us, u.oneCell' = true := by
  obtain ⟨blk, cs, hi, hv, hle, rfl, hg⟩ : ∃ blk cs, h[id]? = some (some blk) ∧ blk.vs = some cs ∧ off + n ≤ cs.length ∧ vs = (cs.drop off).take n ∧ blk.gen = g := by
    unfold Heap.cells at hc
    split at hc
    · rename_i cs e; split at hc
      · rename_i hle; cases hc; exact ⟨_, cs, e, rfl, hle.2, rfl, hle.1.symm⟩
      · cases hc
    · rename_i g' ds e; split at hc
      · rename_i hle; cases hc; exact ⟨_, _, e, rfl, by simpa using hle.2, by simp [List.map_drop, List.map_take], hle.1.symm⟩
      · cases hc
    · cases hc
  obtain ⟨r, hr, hat⟩ := hs.blks id blk hi
  obtain ⟨r', b, hr', _, rfl, hpp⟩ := hp.ptrI
  rw [hr] at hr'; cases hr'
  have hb := hpp (by rw [hat.genEq, hg])
  obtain ⟨b', arr, T, e1, e2, e3, e4⟩ := hat.cells hv (by rintro rfl; simp at hle; omega)
  rw [hb] at e1; cases e1
  have hget : ∀ k, k < n → ∃ u, arr[off + k]? = some u ∧ w.cell? ⟨b, off + k, none⟩ = some u ∧ (∀ v, cs[off + k]? = some v → RepV M v u) ∧ u.oneCell' = true := by
    intro k hk
    have hlt : off + k < cs.length := by omega
    obtain ⟨u, hu, hrep, h1⟩ := e4 (off + k) cs[off + k] (by simp [hlt])
    exact ⟨u, hu, by simp [World.cell?, e2, hu], fun v hv => by simp [hlt] at hv; subst hv; exact hrep, h1⟩
  refine ⟨b, (arr.toList.drop off).take n, rfl, by simp; omega, fun k u hk => ?_, ⟨by simp; omega, fun k v c hv hc => ?_⟩, fun u hu => ?_⟩
  · rw [List.getElem?_take] at hk
    split at hk
    · rename_i hkn
      obtain ⟨u', h1, h2, _⟩ := hget k hkn
      rw [List.getElem?_drop] at hk
      simp [h1] at hk; subst hk; exact h2
    · cases hk
  · rw [List.getElem?_take] at hv hc
    split at hv
    · rename_i hkn
      simp only [hkn, if_true, List.getElem?_drop] at hv hc
      obtain ⟨u', h1, _, h3, _⟩ := hget k hkn
      simp [h1] at hc; subst hc
      exact h3 v hv
    · cases hv
  · obtain ⟨k, hk⟩ := List.getElem?_of_mem hu
    rw [List.getElem?_take] at hk
    split at hk
    · rename_i hkn
      obtain ⟨u', h1, _, _, h4⟩ := hget k hkn
      rw [List.getElem?_drop] at hk
      simp [h1] at hk; subst hk; exact h4
    · cases hk
section
variable {P : Program} {n : Nat} {o : Oper} {own : Bool} {ρV : Operand → V} {ρ : Operand → Value} {M : Mem} {h : Heap} {w : World} {K : V → Heap → Prop}
theorem aggOf_ne {T : TypeId} : aggOf P T ≠ some (some 0) := by
  unfold aggOf
  intro h
  split at h <;> (try split at h) <;> simp_all
theorem aggOf_none {T : TypeId} (ha : aggOf P T = some none) : ∃ i, P.info? T = some i ∧ i.size = 1 ∧ (isAgg T).run P w = .ok false w := by
  unfold aggOf at ha
  split at ha <;> simp at ha
  rename_i i d h1 h2 hi hu
  refine ⟨i, hi, ha, ?_⟩
  simp only [isAgg, Sem.run_bind, run_underlying hu, Result.andThen_ok]
  cases d <;> first | rfl | exact absurd rfl (h1 _) | exact absurd rfl (h2 _ _)
theorem aggOf_some {T : TypeId} {m : Nat} (ha : aggOf P T = some (some m)) : ∃ i, P.info? T = some i ∧ i.size = m ∧ (isAgg T).run P w = .ok true w := by
  unfold aggOf at ha
  split at ha <;> simp at ha
  · rename_i i fs hi hu
    exact ⟨i, hi, ha.2, by simp [isAgg, run_underlying hu]⟩
  · rename_i i k e hi hu
    exact ⟨i, hi, ha.2, by simp [isAgg, run_underlying hu]⟩
def Out0 (M : Mem) (h : Heap) (w : World) (K : V → Heap → Prop) (r : Result Next) : Prop := ∃ cv v, r = .ok (.value cv) w ∧ RepV M v cv ∧ K v h
theorem Out0.pure {v : V} {cv : Value} (hv : RepV M v cv) (hk : K v h) {r : Result Next} (hr : r = .ok (.value cv) w) : Out0 M h w K r := ⟨cv, v, hr, hv, hk⟩
theorem load0 (T : TypeId) (x : Operand) (g : Option Nat) (hop : o.op = .load T x) (ha : aggOf P T = some g) (hx : RepV M (ρV x) (ρ x)) (hs : Sim M h w)
    (hk : step (.load g x) ρV h K) : Out0 M h w K ((execOp ρ o).run P w) := by
  cases g with
  | none =>
    obtain ⟨i, hi, h1, hag⟩ := aggOf_none (w := w) ha
    have hrun : ∀ (a : Addr) u, ρ x = .pointer (some a) → w.cell? a = some u → (execOp ρ o).run P w = .ok (.value u) w := by
      intro a u hp hc
      simp [execOp, hop, Instr.loadAt, Instr.sureAddr, hp, loadVar, hag, run_load, hc]
    simp only [step, onPtr] at hk
    split at hk
    · rename_i id g off e
      rw [e] at hx
      obtain ⟨v, hc, hk⟩ := hk
      obtain ⟨b, u, hp, hu, hrep, _⟩ := cell_of_ptr hs hx hc
      exact Out0.pure hrep hk (hrun _ u hp hu)
    · rename_i ds off e
      rw [e] at hx
      obtain ⟨b, o', vals, hp, hro, hrep⟩ := hx.rptrI
      obtain ⟨v, hc, hk⟩ := hk
      have hlt : off < ds.length := (List.getElem?_eq_some_iff.1 hc).1
      exact Out0.pure (.d _ _ (hrep off v hc)) hk (hrun _ _ hp (hs.ro _ _ _ (hro off hlt)).1)
    · exact hk.elim
  | some m =>
    have hm0 : m ≠ 0 := fun e => aggOf_ne (by rw [e] at ha; exact ha)
    obtain ⟨i, hi, h1, hag⟩ := aggOf_some (w := w) ha
    have hrun : ∀ (b p : Nat) (us : List Value), ρ x = .pointer (some ⟨b, p, none⟩) → us.length = m → (∀ (k : Nat) u, us[k]? = some u → w.cell? ⟨b, p + k, none⟩ = some u) →
        (execOp ρ o).run P w = .ok (.value (.agg us.toArray)) w := by
      intro b p us hp hl hc
      have := run_loadCells_list (P := P) w ⟨b, p, none⟩ us (fun j v hj => by rw [Addr.add_lit]; exact hc j v hj)
      rw [hl] at this
      simp [execOp, hop, Instr.loadAt, Instr.sureAddr, hp, loadVar, hag, sizeOf, typeInfo, hi, h1, this]
    simp only [step, onPtr] at hk
    split at hk
    · rename_i id g off e
      rw [e] at hx
      obtain ⟨vs, hc, hk⟩ := hk
      obtain ⟨b, us, hp, hl, hu, hrep, h1'⟩ := cells_of_ptr hs hx hc hm0
      exact Out0.pure (.agg _ us hrep.1 hrep.2 h1') hk (hrun _ _ us hp hl hu)
    · rename_i ds off e
      rw [e] at hx
      obtain ⟨b, o', vals, hp, hro, hrep⟩ := hx.rptrI
      obtain ⟨hle, hk⟩ := hk
      refine Out0.pure (.agg _ ((List.range m).map fun k => vals (off + k)) (by simp; omega) (fun k v c hv hc => ?_) (fun u hu => ?_)) hk (hrun _ _ _ hp (by simp) (fun k u hku => ?_))
      · rw [List.getElem?_map] at hv hc
        cases hd : ((ds.drop off).take m)[k]? with
        | none => rw [hd] at hv; cases hv
        | some y =>
          rw [hd] at hv; cases hv
          rw [List.getElem?_take] at hd
          split at hd
          · rename_i hkm
            rw [List.getElem?_drop] at hd
            simp [hkm] at hc; subst hc
            exact .d _ _ (hrep _ _ hd)
          · cases hd
      · simp at hu
        obtain ⟨k, hkm, rfl⟩ := hu
        exact (hrep (off + k) ds[off + k] (by simp)).one
      · rw [List.getElem?_map] at hku
        have hkm : k < m := by
          rcases Nat.lt_or_ge k m with h | h
          · exact h
          · simp [List.getElem?_eq_none (l := List.range m) (by simpa using h)] at hku
        simp [hkm] at hku
        subst hku
        rw [Nat.add_assoc]
        exact (hs.ro _ _ _ (hro (off + k) (by omega))).1
    · exact hk.elim
theorem snd_load (T : TypeId) (x : Operand) (g : Option Nat) (hop : o.op = .load T x) (ha : aggOf P T = some g) (hx : RepV M (ρV x) (ρ x)) (hs : Sim M h w) (hn : n ≤ h.length)
    (hk : step (.load g x) ρV h K) : Out n M h w K ((execOp ρ o).run P w) := by
  obtain ⟨cv, v, hr, hv, hK⟩ := load0 T x g hop ha hx hs hk
  exact Out.pure hs hn hv hK hr
end
end Go.Proofs.Ytdnefcjbcieecaa
namespace Go.Proofs.Ytdnefcjbcieecaa
open Go
theorem Sim.mu_len {M : Mem} {h : Heap} {w : World} (hs : Sim M h w) : M.mu h.length = none := hs.dom _ (Nat.le_refl _)
theorem alloc_box {n : Nat} {M : Mem} {h : Heap} {w : World} {arr : Array Value} {e : TypeId} {cs : List V} (hs : Sim M h w) (hn : n ≤ h.length)
    (hr : RepL M cs arr.toList) (h1 : ∀ u ∈ arr.toList, u.oneCell' = true) :
    Post n M h w (M.setMu h.length ⟨some w.heap.size, 0, 0⟩) (h ++ [some (.box cs)]) (w.alloc (.cells arr e)) ∧
      (∀ x u, RepV M x u → RepV (M.setMu h.length ⟨some w.heap.size, 0, 0⟩) x u) := by
  refine ⟨new_block (blk := .box cs) (o := .cells arr e) hs (by simp; omega) hs.mu_len (by simp) (fun j x hj hx => ?_) (by simp) rfl rfl rfl rfl ?_, fun x u hx => hx.setMu (fun r0 h => by rw [hs.mu_len] at h; cases h)⟩
  · rcases Nat.lt_or_ge j h.length with hl | hl
    · rwa [List.getElem?_append_left hl] at hx
    · rw [List.getElem?_append_right hl] at hx
      have : j - h.length ≠ 0 := by omega
      cases hd : j - h.length with
      | zero => omega
      | succ m => rw [hd] at hx; simp at hx
  · exact ⟨rfl, w.heap.size, arr, e, rfl, heap_alloc_new w _, ⟨hr.1, fun k v c hv hc => (hr.2 k v c hv hc).setMu (fun r0 h => by rw [hs.mu_len] at h; cases h)⟩, h1⟩
theorem toDs_rep {M : Mem} : ∀ {vs : List V} {us : List Value} {ds : List D}, RepL M vs us → toDs vs = some ds → RepDs M ds us
  | [], us, ds, h, hd => by cases hd; exact ⟨h.1, fun k x c hx => by simp at hx⟩
  | x :: vs, us, ds, h, hd => by
    cases us with
    | nil => exact absurd h.1 (by simp)
    | cons u us =>
      have h0 : RepV M x u := h.2 0 x u rfl rfl
      have ht : RepL M vs us := ⟨by have := h.1; simpa using this, fun k v c hv hc => h.2 (k + 1) v c (by simpa using hv) (by simpa using hc)⟩
      have fin : ∀ y ys, RepD M.ro y u → toDs vs = some ys → ds = y :: ys → RepDs M ds (u :: us) := by
        rintro y ys hy hys rfl
        have := toDs_rep ht hys
        refine ⟨by simp [this.1], fun k a c ha hc => ?_⟩
        cases k with
        | zero => simp at ha hc; subst ha; subst hc; exact hy
        | succ k => exact this.2 k a c (by simpa using ha) (by simpa using hc)
      unfold toDs at hd
      split at hd
      · rename_i e; cases e
      · rename_i y ys e
        cases e
        cases hys : toDs vs with
        | none => rw [hys] at hd; cases hd
        | some zs => rw [hys] at hd; cases hd; exact fin _ _ h0.dI hys rfl
      · rename_i f ys e
        cases e
        cases hys : toDs vs with
        | none => rw [hys] at hd; cases hd
        | some zs =>
          rw [hys] at hd; cases hd
          refine fin _ _ ?_ hys rfl
          cases h0 with
          | fn _ _ _ a1 a2 e1 e2 =>
            obtain rfl : a1 = [] := List.eq_nil_of_length_eq_zero e1.symm
            obtain rfl : a2 = [] := List.eq_nil_of_length_eq_zero e2.symm
            exact .fn f
      · cases hd
section
variable {P : Program} {n : Nat} {o : Oper} {own : Bool} {ρV : Operand → V} {ρ : Operand → Value} {M : Mem} {h : Heap} {w : World} {K : V → Heap → Prop}
theorem zeroCells_spec {T : TypeId} {z : List D} (hz : zeroCells? P T = some z) : ∃ i v, P.info? T = some i ∧ i.zero = some v ∧ (zeroValue T).run P w = .ok v w ∧ RepDs M z v.cells.toList ∧
    ∀ u ∈ v.cells.toList, u.oneCell' = true := by
  unfold zeroCells? at hz
  cases hi : P.info? T with
  | none => rw [hi] at hz; cases hz
  | some i =>
    rw [hi] at hz
    simp only [Option.bind_some] at hz
    cases hv : i.zero with
    | none => rw [hv] at hz; cases hz
    | some v =>
      rw [hv] at hz
      simp only [Option.bind_some] at hz
      split at hz
      · rename_i hall
        cases hz
        have hall : ∀ u ∈ v.cells.toList, u.oneCell' = true := fun u hu => List.all_eq_true.1 hall u hu
        refine ⟨i, v, rfl, hv, by simp [zeroValue, typeInfo, hi, hv], ⟨by simp, fun k x c hx hc => ?_⟩, hall⟩
        rw [List.getElem?_map, hc] at hx
        cases hx
        exact constD_rep _ _ (hall _ (List.mem_of_getElem? hc))
      · cases hz
theorem RepDs.toL {ds : List D} {us : List Value} (h : RepDs M ds us) : RepL M (ds.map .d) us :=
  ⟨by simpa using h.1, fun k v c hv hc => by
    rw [List.getElem?_map] at hv
    cases hd : ds[k]? with
    | none => rw [hd] at hv; cases hv
    | some y => rw [hd] at hv; cases hv; exact .d _ _ (h.2 k y c hd hc)⟩
theorem snd_alloc (T : TypeId) (z : List D) (hop : o.op = .alloc T) (hz : zeroCells? P T = some z) (hs : Sim M h w) (hn : n ≤ h.length)
    (hk : step (.alloc (z.map .d)) ρV h K) : Out n M h w K ((execOp ρ o).run P w) := by
  obtain ⟨i, v, hi, hv, hr, hrep, h1⟩ := zeroCells_spec (M := M) (w := w) hz
  obtain ⟨hp, henv⟩ := alloc_box (n := n) (arr := v.cells) (e := T) (cs := z.map .d) hs hn hrep.toL h1
  refine ⟨.pointer (some ⟨w.heap.size, 0, none⟩), _, _, _, _, .inl ?_, hp, henv, ?_, hk⟩
  · simp [execOp, hop, Instr.alloc, hr, newVar, newRow]
  · exact .ptr _ _ _ _ _ (Mem.setMu_same _ _ _) (Nat.le_refl _) (fun _ => rfl)
theorem snd_box (T : TypeId) (x : Operand) (own : Bool) (hop : o.op = .box T x) (hx : RepV M (ρV x) (ρ x)) (hs : Sim M h w) (hn : n ≤ h.length)
    (hk : step (.box own x) ρV h K) : Out n M h w K ((execOp ρ o).run P w) := by
  have hrun : (execOp ρ o).run P w = .ok (.value (.pointer (some ⟨w.heap.size, 0, none⟩))) (w.alloc (.cells (ρ x).cells T)) := by
    simp [execOp, hop, Instr.box, newVar, newRow]
  cases own with
  | true =>
    obtain ⟨cs, hc, hk⟩ := hk
    obtain ⟨hrep, h1⟩ := cellsV_rep hx hc
    obtain ⟨hp, henv⟩ := alloc_box (n := n) (e := T) hs hn hrep h1
    exact ⟨.pointer (some ⟨w.heap.size, 0, none⟩), _, _, _, _, .inl hrun, hp, henv, .ptr _ _ _ _ _ (Mem.setMu_same _ _ _) (Nat.le_refl _) (fun _ => rfl), hk⟩
  | false =>
    simp only [step] at hk
    split at hk
    case h_2 =>
      obtain ⟨cs, hc, hk⟩ := hk
      obtain ⟨hrep, h1⟩ := cellsV_rep hx hc
      obtain ⟨hp, henv⟩ := alloc_box (n := n) (e := T) hs hn hrep h1
      exact ⟨.pointer (some ⟨w.heap.size, 0, none⟩), _, _, _, _, .inl hrun, hp, henv, .ptr _ _ _ _ _ (Mem.setMu_same _ _ _) (Nat.le_refl _) (fun _ => rfl), hk⟩
    rename_i ds hc
    cases hcs : cellsV (ρV x) with
    | none => rw [hcs] at hc; cases hc
    | some cs =>
      rw [hcs] at hc
      obtain ⟨hrep, h1⟩ := cellsV_rep hx hcs
      have hd := toDs_rep hrep hc
      refine ⟨.pointer (some ⟨w.heap.size, 0, none⟩), _, _, _, _, .inl hrun, new_ro (e := T) (fz := (0, 0)) (arr := (ρ x).cells) hs hn rfl rfl rfl rfl, fun y u hy => addRo_rep hs _ hy, ?_, hk⟩
      have hget : ∀ k, k < ds.length → k < (ρ x).cells.size := fun k hk => by have := hd.1; simp at this; omega
      have := RepV.rptr (M := M.addRo w.heap.size (ρ x).cells) ds 0 w.heap.size 0 (fun k => (ρ x).cells[k]?.getD undef)
        (fun k hk => by simp [Mem.addRo, hget k hk])
        (fun k c hc => by
          have hlt : k < ds.length := (List.getElem?_eq_some_iff.1 hc).1
          have := hd.2 k c ((ρ x).cells[k]'(hget k hlt)) hc (by simp [hget k hlt])
          simp only [Array.getElem?_eq_getElem (hget k hlt), Option.getD_some]
          exact this.mono (addRo_ro hs _))
      simpa using this
theorem snd_fieldAddr (S : TypeId) (x : Operand) (f : Nat) (fs : Array Field) (fl : Field) (i : TypeInfo) (hop : o.op = .fieldAddr S x f) (h1 : P.underlying S = some (.struct fs)) (h2 : fs[f]? = some fl)
    (h3 : P.info? fl.type = some i) (h4 : i.size ≠ 0) (hx : RepV M (ρV x) (ρ x)) (hs : Sim M h w) (hn : n ≤ h.length)
    (hk : step (.fieldAddr fl.offset x) ρV h K) : Out n M h w K ((execOp ρ o).run P w) := by
  have hrun : ∀ b p, ρ x = .pointer (some ⟨b, p, none⟩) → (execOp ρ o).run P w = .ok (.value (.pointer (some ⟨b, p + fl.offset, none⟩))) w := by
    intro b p hp
    simp [execOp, hop, Instr.fieldAt, run_underlying h1, h2, Instr.sureAddr, hp, fieldPlace, sizeOf, typeInfo, h3, h4, Addr.add_lit]
  simp only [step, onPtr, onAgg, onTup, onStr, onSl] at hk
  split at hk
  · rename_i id g off e
    rw [e] at hx
    obtain ⟨r, b, hm, hg, hp, hv⟩ := hx.ptrI
    exact Out.pure hs hn (.ptr _ _ _ _ _ hm hg hv) hk (hrun _ _ hp)
  · rename_i ds off e
    rw [e] at hx
    obtain ⟨b, o', vals, hp, hro, hrep⟩ := hx.rptrI
    exact Out.pure hs hn (.rptr ds _ b o' vals hro hrep) hk (by rw [hrun _ _ hp, Nat.add_assoc])
  · exact hk.elim
theorem snd_field (S : TypeId) (x : Operand) (f : Nat) (fs : Array Field) (fl : Field) (g : Option Nat) (hop : o.op = .field S x f) (h1 : P.underlying S = some (.struct fs)) (h2 : fs[f]? = some fl)
    (ha : aggOf P fl.type = some g) (hx : RepV M (ρV x) (ρ x)) (hs : Sim M h w) (hn : n ≤ h.length)
    (hk : step (.field g fl.offset x) ρV h K) : Out n M h w K ((execOp ρ o).run P w) := by
  have hagg : ∀ cs, ρV x = .agg cs → ∃ arr : List Value, ρ x = .agg arr.toArray ∧ RepL M cs arr ∧ ∀ u ∈ arr, u.oneCell' = true := by
    intro cs e
    rw [e] at hx
    generalize ρ x = r at hx
    cases hx with | agg _ arr hl hh h1 => exact ⟨arr, rfl, ⟨hl, hh⟩, h1⟩
  cases g with
  | none =>
    obtain ⟨i, hi, hsz, hag⟩ := aggOf_none (w := w) ha
    simp only [step, onPtr, onAgg, onTup, onStr, onSl] at hk
    split at hk
    · rename_i cs e
      obtain ⟨arr, hp, hrep, hone⟩ := hagg cs e
      obtain ⟨v, hv, hk⟩ := hk
      have hlt : fl.offset < arr.length := by have := (List.getElem?_eq_some_iff.1 hv).1; have := hrep.1; omega
      refine Out.pure (cv := arr[fl.offset]) hs hn (hrep.2 _ _ _ hv (by simp [hlt])) hk ?_
      simp [execOp, hop, Instr.field, run_underlying h1, h2, hp, asAgg, part, hag, hlt]
    · exact hk.elim
  | some m =>
    obtain ⟨i, hi, hsz, hag⟩ := aggOf_some (w := w) ha
    simp only [step, onPtr, onAgg, onTup, onStr, onSl] at hk
    split at hk
    · rename_i cs e
      obtain ⟨arr, hp, hrep, hone⟩ := hagg cs e
      obtain ⟨hle, hk⟩ := hk
      refine Out.pure (cv := .agg ((arr.drop fl.offset).take m).toArray) hs hn (.agg _ _ (by have := hrep.1; simp; omega) (fun k v c hv hc => ?_) (fun u hu => hone u (List.mem_of_mem_drop (List.mem_of_mem_take hu)))) hk ?_
      · rw [List.getElem?_take] at hv hc
        split at hv
        · rename_i hkm
          simp only [hkm, if_true, List.getElem?_drop] at hv hc
          exact hrep.2 _ _ _ hv hc
        · cases hv
      · simp only [execOp, hop, Instr.field, part, Sem.run_bind, run_underlying h1, Result.andThen_ok, h2, hp, asAgg, Sem.run_pure, hag, if_true, sizeOf, typeInfo, run_program, hi, hsz]
        simp [List.extract_eq_take_drop]
    · exact hk.elim
theorem snd_extract (x : Operand) (k : Nat) (hop : o.op = .extract x k) (hx : RepV M (ρV x) (ρ x)) (hs : Sim M h w) (hn : n ≤ h.length)
    (hk : step (.extract x k) ρV h K) : Out n M h w K ((execOp ρ o).run P w) := by
  simp only [step, onPtr, onAgg, onTup, onStr, onSl] at hk
  split at hk
  · rename_i vs e
    rw [e] at hx
    obtain ⟨arr, hp, hrep⟩ := hx.tupI
    obtain ⟨v, hv, hk⟩ := hk
    have hlt : k < arr.length := by have := (List.getElem?_eq_some_iff.1 hv).1; have := hrep.1; omega
    refine Out.pure (cv := arr[k]) hs hn (hrep.2 _ _ _ hv (by simp [hlt])) hk ?_
    simp [execOp, hop, Instr.extract, hp, hlt]
  · exact hk.elim
theorem snd_nilCheck (x : Operand) (hop : o.op = .nilCheck x) (hx : RepV M (ρV x) (ρ x)) (hs : Sim M h w) (hn : n ≤ h.length)
    (hk : step (.nilCheck x) ρV h K) : Out n M h w K ((execOp ρ o).run P w) := by
  simp only [step, onPtr, onAgg, onTup, onStr, onSl] at hk
  split at hk
  · rename_i id g off e
    rw [e] at hx
    obtain ⟨r, b, hm, hg, hp, hv⟩ := hx.ptrI
    exact Out.pure hs hn hx hk (by simp [execOp, hop, hp])
  · rename_i ds off e
    rw [e] at hx
    obtain ⟨b, o', vals, hp, hro, hrep⟩ := hx.rptrI
    exact Out.pure hs hn hx hk (by simp [execOp, hop, hp])
  · exact hk.elim
theorem snd_mkfn (f : Fn) (a c : Array Operand) (hop : o.op = .makeFunc f a c) (ha : ∀ x ∈ a, RepV M (ρV x) (ρ x)) (hc : ∀ x ∈ c, RepV M (ρV x) (ρ x)) (hs : Sim M h w) (hn : n ≤ h.length)
    (hk : step (.mkfn f a.toList c.toList) ρV h K) : Out n M h w K ((execOp ρ o).run P w) := by
  refine Out.pure (cv := .func f (a.toList.map ρ).toArray (c.toList.map ρ).toArray) hs hn (.fn f _ _ _ _ (by simp) (by simp) (fun k v u hv hu => ?_) (fun k v u hv hu => ?_)) hk ?_
  · rw [List.getElem?_map] at hv hu
    cases hx : a.toList[k]? with
    | none => rw [hx] at hv; cases hv
    | some x => rw [hx] at hv hu; cases hv; cases hu; exact ha x (by have := List.mem_of_getElem? hx; simpa using this)
  · rw [List.getElem?_map] at hv hu
    cases hx : c.toList[k]? with
    | none => rw [hx] at hv; cases hv
    | some x => rw [hx] at hv hu; cases hv; cases hu; exact hc x (by have := List.mem_of_getElem? hx; simpa using this)
  · obtain ⟨a⟩ := a; obtain ⟨c⟩ := c
    simp [execOp, hop, Instr.makeFunc]
end
end Go.Proofs.Ytdnefcjbcieecaa
namespace Go.Proofs.Ytdnefcjbcieecaa
open Go
theorem putAt_len {α : Type} (l : List α) (off : Nat) (xs : List α) (h : off + xs.length ≤ l.length) : (putAt l off xs).length = l.length := by
  simp [putAt]; omega
theorem putAt_get {α : Type} (l : List α) (off : Nat) (xs : List α) (h : off + xs.length ≤ l.length) (k : Nat) :
    (putAt l off xs)[k]? = if k < off then l[k]? else if k < off + xs.length then xs[k - off]? else l[k]? := by
  unfold putAt
  have ht : (l.take off).length = off := by simp; omega
  by_cases h1 : k < off
  · rw [List.getElem?_append_left (by simp; omega), List.getElem?_append_left (by omega), List.getElem?_take]; simp [h1]
  · by_cases h2 : k < off + xs.length
    · rw [List.getElem?_append_left (by simp; omega), List.getElem?_append_right (by omega), ht]; simp [h1, h2]
    · rw [List.getElem?_append_right (by simp; omega), List.getElem?_drop]
      simp only [h1, h2, if_false, List.length_append, ht]
      congr 1; omega
theorem putAt_rel {α β : Type} {R : α → β → Prop} {l : List α} {l' : List β} {xs : List α} {xs' : List β} {off : Nat} (hl : l.length = l'.length) (hx : xs.length = xs'.length)
    (h : off + xs.length ≤ l.length) (h1 : ∀ (k : Nat) a b, l[k]? = some a → l'[k]? = some b → R a b) (h2 : ∀ (k : Nat) a b, xs[k]? = some a → xs'[k]? = some b → R a b) :
    ∀ (k : Nat) a b, (putAt l off xs)[k]? = some a → (putAt l' off xs')[k]? = some b → R a b := by
  intro k a b ha hb
  rw [putAt_get _ _ _ h] at ha
  rw [putAt_get _ _ _ (by omega)] at hb
  rw [← hx] at hb
  split at ha
  · rename_i h0; simp only [h0, if_true] at hb; exact h1 k a b ha hb
  · rename_i h0; simp only [h0, if_false] at hb
    split at ha
    · rename_i h3; simp only [h3, if_true] at hb; exact h2 _ a b ha hb
    · rename_i h3; simp only [h3, if_false] at hb; exact h1 k a b ha hb
theorem RepL.putAt {M : Mem} {vs xs : List V} {us ys : List Value} {off : Nat} (h : RepL M vs us) (hx : RepL M xs ys) (hf : off + xs.length ≤ vs.length) : RepL M (putAt vs off xs) (putAt us off ys) :=
  ⟨by rw [putAt_len _ _ _ hf, putAt_len _ _ _ (by have := h.1; have := hx.1; omega)]; exact h.1, putAt_rel h.1 hx.1 hf h.2 hx.2⟩
theorem RepDs.putAt {M : Mem} {vs xs : List D} {us ys : List Value} {off : Nat} (h : RepDs M vs us) (hx : RepDs M xs ys) (hf : off + xs.length ≤ vs.length) : RepDs M (putAt vs off xs) (putAt us off ys) :=
  ⟨by rw [putAt_len _ _ _ hf, putAt_len _ _ _ (by have := h.1; have := hx.1; omega)]; exact h.1, putAt_rel h.1 hx.1 hf h.2 hx.2⟩
theorem putAt_mem {α : Type} {l xs : List α} {off : Nat} {u : α} (hu : u ∈ putAt l off xs) : u ∈ l ∨ u ∈ xs := by
  simp only [Go.Proofs.Ytdnefcjbcieecaa.putAt, List.mem_append] at hu
  rcases hu with (hu | hu) | hu
  · exact .inl (List.mem_of_mem_take hu)
  · exact .inr hu
  · exact .inl (List.mem_of_mem_drop hu)
theorem fold_set {α : Type} (off : Nat) : ∀ (l : List α) (i : Nat) (cs : Array α), off + i + l.length ≤ cs.size →
    ((l.zipIdx i).foldl (fun cs (c : α × Nat) => cs.setIfInBounds (off + c.2) c.1) cs).toList = putAt cs.toList (off + i) l
  | [], i, cs, _ => by simp [putAt]
  | x :: l, i, cs, h => by
    simp only [List.zipIdx_cons, List.foldl_cons]
    rw [fold_set off l (i + 1) _ (by simp at h ⊢; omega)]
    simp at h
    apply List.ext_getElem?
    intro k
    rw [putAt_get _ _ _ (by simp; omega), putAt_get _ _ _ (by simp; omega)]
    simp only [Array.toList_setIfInBounds, List.length_cons, List.getElem?_set]
    by_cases h1 : k < off + i
    · have : ¬ off + i = k := by omega
      simp [h1, this]; omega
    · by_cases h2 : k = off + i
      · subst h2; simp; omega
      · have e1 : ¬ k < off + (i + 1) := by omega
        have e2 : ¬ off + i = k := by omega
        have e3 : k - (off + i) = (k - (off + (i + 1))) + 1 := by omega
        simp only [h1, e1, e2, if_false]
        rw [e3, List.getElem?_cons_succ]
        have e4 : (k < off + (i + 1) + l.length) = (k < off + i + (l.length + 1)) := by simp; omega
        simp only [e4]
theorem fold_setA {α : Type} (off : Nat) (v : Array α) (cs : Array α) (h : off + v.size ≤ cs.size) :
    v.zipIdx.foldl (fun cs (c : α × Nat) => cs.setIfInBounds (off + c.2) c.1) cs = (putAt cs.toList off v.toList).toArray := by
  rw [← Array.foldl_toList, Array.toList_zipIdx]
  apply Array.ext'
  have := fold_set off v.toList 0 cs (by simpa using h)
  simpa using this
theorem fill_spec (place : Nat → Option (Nat × Nat)) (ρ : Operand → Value) : ∀ (ps : List (Nat × Operand)) (qs : List (Nat × List Value)) (cells : Array Value),
    (∀ (k : Nat) p, ps[k]? = some p → ∃ q, qs[k]? = some q ∧ place p.1 = some (q.1, q.2.length) ∧ (ρ p.2).cells.toList = q.2) → ps.length = qs.length →
    (∀ q ∈ qs, q.1 + q.2.length ≤ cells.size) →
    Instr.fill place cells (ps.map fun p => (p.1, ρ p.2)) = some (fillL cells.toList qs).toArray
  | [], qs, cells, _, hl, _ => by
    obtain rfl : qs = [] := List.eq_nil_of_length_eq_zero hl.symm
    simp [Instr.fill, fillL]
  | p :: ps, [], cells, h, hl, hf => by simp at hl
  | p :: ps, q :: qs, cells, h, hl, hf => by
    obtain ⟨q', e1, e2, e3⟩ := h 0 p rfl
    simp at e1; subst e1
    have hsz : (ρ p.2).cells.size = q.2.length := by rw [← e3]; simp
    have hq := hf q (by simp)
    have hfs := fold_setA q.1 (ρ p.2).cells cells (by omega)
    have ih := fill_spec place ρ ps qs (putAt cells.toList q.1 (ρ p.2).cells.toList).toArray
      (fun k p' hk => by obtain ⟨q', a, b⟩ := h (k + 1) p' (by simpa using hk); exact ⟨q', by simpa using a, b⟩) (by simpa using hl) (fun q' hq' => by
        have h5 := hf q' (List.mem_cons_of_mem _ hq')
        simp only [List.size_toArray]
        rw [putAt_len _ _ _ (by simp; omega)]
        simpa using h5)
    simp only [List.map_cons, Instr.fill, e2]
    rw [if_neg (by simp; omega), hfs, ih, e3]
    simp [fillL]
theorem fillL_rel {α β : Type} {R : α → β → Prop} : ∀ {ps : List (Nat × List α)} {qs : List (Nat × List β)} {l : List α} {l' : List β}, l.length = l'.length →
    (∀ (k : Nat) a b, l[k]? = some a → l'[k]? = some b → R a b) → ps.length = qs.length →
    (∀ (k : Nat) p q, ps[k]? = some p → qs[k]? = some q → p.1 = q.1 ∧ p.2.length = q.2.length ∧ p.1 + p.2.length ≤ l.length ∧ ∀ (j : Nat) a b, p.2[j]? = some a → q.2[j]? = some b → R a b) →
    (fillL l ps).length = (fillL l' qs).length ∧ ∀ (k : Nat) a b, (fillL l ps)[k]? = some a → (fillL l' qs)[k]? = some b → R a b
  | [], [], l, l', hl, h, _, _ => ⟨hl, h⟩
  | [], q :: qs, l, l', _, _, hl, _ => by simp at hl
  | p :: ps, [], l, l', _, _, hl, _ => by simp at hl
  | (off, xs) :: ps, (off', ys) :: qs, l, l', hl, h, hq, hp => by
    obtain ⟨e1, e2, e3, e4⟩ := hp 0 _ _ rfl rfl
    simp only at e1 e2 e3 e4
    subst e1
    have hlp := putAt_len l off xs e3
    simp only [fillL]
    refine fillL_rel (by rw [hlp, putAt_len _ _ _ (by omega)]; exact hl) (putAt_rel hl e2 e3 h e4) (by simpa using hq) (fun k p q h1 h2 => ?_)
    rw [hlp]
    exact hp (k + 1) p q (by simpa using h1) (by simpa using h2)
theorem fillL_mem {α : Type} : ∀ {qs : List (Nat × List α)} {l : List α} {u : α}, u ∈ fillL l qs → u ∈ l ∨ ∃ q ∈ qs, u ∈ q.2
  | [], l, u, h => .inl h
  | (off, xs) :: qs, l, u, h => by
    rcases fillL_mem (qs := qs) h with h | ⟨q, hq, hu⟩
    · rcases putAt_mem h with h | h
      · exact .inl h
      · exact .inr ⟨_, List.mem_cons_self, h⟩
    · exact .inr ⟨q, List.mem_cons_of_mem _ hq, hu⟩
section
variable {P : Program} {n : Nat} {o : Oper} {ρV : Operand → V} {ρ : Operand → Value} {M : Mem} {h : Heap} {w : World} {K : V → Heap → Prop}
theorem partsV_spec (hρ : ∀ x, RepV M (ρV x) (ρ x)) : ∀ (ps : List (Nat × Nat × Operand)) (qs : List (Nat × List V)), partsV ρV ps = some qs →
    ps.length = qs.length ∧ ∀ (k : Nat) p, ps[k]? = some p → ∃ cs, qs[k]? = some (p.1, cs) ∧ cs.length = p.2.1 ∧ RepL M cs (ρ p.2.2).cells.toList ∧ ∀ u ∈ (ρ p.2.2).cells.toList, u.oneCell' = true
  | [], qs, h => by cases h; exact ⟨rfl, fun k p hk => by simp at hk⟩
  | (off, sz, x) :: ps, qs, h => by
    unfold partsV at h
    split at h
    · rename_i cs hcs
      split at h
      · rename_i hsz
        cases hps : partsV ρV ps with
        | none => rw [hps] at h; cases h
        | some rs =>
          rw [hps] at h; cases h
          obtain ⟨e1, e2⟩ := partsV_spec hρ ps rs hps
          refine ⟨by simp [e1], fun k p hk => ?_⟩
          cases k with
          | zero => simp at hk; subst hk; exact ⟨cs, rfl, hsz, cellsV_rep (hρ x) hcs⟩
          | succ k => exact e2 k p (by simpa using hk)
      · cases h
    · cases h
theorem built_of (T : TypeId) (pl : Nat → Option (Nat × Nat)) (i : TypeInfo) (z : Value) (vals : List (Nat × Value)) (h1 : placeOf P T = some pl) (h2 : P.info? T = some i) (h3 : i.zero = some z) :
    P.built T vals = Instr.fill pl z.cells vals := by
  unfold placeOf at h1
  split at h1
  · rename_i fs hu
    cases hp : fs.toList.mapM (fun f => (P.info? f.type).map fun i => (f.offset, i.size)) with
    | none => rw [hp] at h1; cases h1
    | some places =>
      rw [hp] at h1
      cases h1
      simp [Program.built, h2, hu, h3, hp]
  · rename_i k e hu
    cases hi : P.info? e with
    | none => rw [hi] at h1; cases h1
    | some ie => rw [hi] at h1; cases h1; simp [Program.built, h2, hu, h3, hi]
  · cases h1
theorem partsOf_spec {pl : Nat → Option (Nat × Nat)} : ∀ {l : List (Nat × Operand)} {ps : List (Nat × Nat × Operand)}, partsOf pl l = some ps →
    l.length = ps.length ∧ ∀ (k : Nat) p, l[k]? = some p → ∃ q, pl p.1 = some q ∧ ps[k]? = some (q.1, q.2, p.2)
  | [], ps, h => by cases h; exact ⟨rfl, fun k p hk => by simp at hk⟩
  | p :: l, ps, h => by
    unfold partsOf at h
    split at h
    · rename_i q r hq hr
      cases h
      obtain ⟨e1, e2⟩ := partsOf_spec hr
      refine ⟨by simp [e1], fun k p' hk => ?_⟩
      cases k with
      | zero => simp at hk; subst hk; exact ⟨q, hq, rfl⟩
      | succ k => obtain ⟨q', a, b⟩ := e2 k p' (by simpa using hk); exact ⟨q', a, by simpa using b⟩
    · cases h
theorem fitL_spec {α : Type} {m : Nat} {qs : List (Nat × List α)} (h : fitL m qs = true) {k : Nat} {q : Nat × List α} (hk : qs[k]? = some q) : q.1 + q.2.length ≤ m := by
  have := List.all_eq_true.1 h q (List.mem_of_getElem? hk)
  simpa using this
theorem snd_build (T : TypeId) (parts : Array (Nat × Operand)) (pl : Nat → Option (Nat × Nat)) (z : List D) (ps : List (Nat × Nat × Operand)) (hop : o.op = .build T parts) (h1 : placeOf P T = some pl) (h2 : zeroCells? P T = some z)
    (h3 : partsOf pl parts.toList = some ps)
    (hρ : ∀ x, RepV M (ρV x) (ρ x)) (hs : Sim M h w) (hn : n ≤ h.length) (hk : step (.build (z.map V.d) ps) ρV h K) : Out n M h w K ((execOp ρ o).run P w) := by
  obtain ⟨i, v, hi, hv, hzr, hzrep, hz1⟩ := zeroCells_spec (M := M) (w := w) h2
  obtain ⟨qs, hq, hf, hk⟩ := hk
  obtain ⟨e1, e2⟩ := partsOf_spec h3
  obtain ⟨e3, e4⟩ := partsV_spec hρ ps qs hq
  have hzl : (z.map V.d).length = v.cells.size := by have := hzrep.1; simpa using this
  let us : List (Nat × List Value) := ps.map fun p => (p.1, (ρ p.2.2).cells.toList)
  have hfill := fill_spec pl ρ parts.toList us v.cells (fun k p hkp => by
      obtain ⟨q, hq1, hq2⟩ := e2 k p hkp
      obtain ⟨cs, hc1, hc2, hc3, _⟩ := e4 k _ hq2
      refine ⟨(q.1, (ρ p.2).cells.toList), by simp [us, hq2], ?_, rfl⟩
      have : cs.length = (ρ p.2).cells.toList.length := hc3.1
      simp only at hc2
      rw [hq1, ← this, hc2]) (by simp [us, e1]) (fun q hqm => by
      obtain ⟨k, hkq⟩ := List.getElem?_of_mem hqm
      simp only [us, List.getElem?_map] at hkq
      cases hp : ps[k]? with
      | none => rw [hp] at hkq; cases hkq
      | some p =>
        rw [hp] at hkq; cases hkq
        obtain ⟨cs, hc1, hc2, hc3, _⟩ := e4 k p hp
        have h9 := fitL_spec hf hc1
        have : cs.length = (ρ p.2.2).cells.toList.length := hc3.1
        simp only at h9 ⊢
        omega)
  have hrel := fillL_rel (R := RepV M) (ps := qs) (qs := us) (l := z.map V.d) (l' := v.cells.toList) (by simpa using hzl) hzrep.toL.2 (by simp [us, e3]) (fun k p q h5 h6 => by
      simp only [us, List.getElem?_map] at h6
      cases hp : ps[k]? with
      | none => rw [hp] at h6; cases h6
      | some p' =>
        rw [hp] at h6; cases h6
        obtain ⟨cs, hc1, hc2, hc3, _⟩ := e4 k p' hp
        rw [h5] at hc1; cases hc1
        exact ⟨rfl, hc3.1, fitL_spec hf h5, hc3.2⟩)
  refine Out.pure (cv := .agg (fillL v.cells.toList us).toArray) hs hn (.agg _ _ hrel.1 hrel.2 (fun u hu => ?_)) hk ?_
  · rcases fillL_mem hu with hu | ⟨q, hqm, hu⟩
    · exact hz1 u hu
    · obtain ⟨k, hkq⟩ := List.getElem?_of_mem hqm
      simp only [us, List.getElem?_map] at hkq
      cases hp : ps[k]? with
      | none => rw [hp] at hkq; cases hkq
      | some p => rw [hp] at hkq; cases hkq; obtain ⟨cs, _, _, _, h9⟩ := e4 k p hp; exact h9 u hu
  · have hb := run_build (P := P) w T (parts.map fun (i, x) => (i, ρ x)) (fillL v.cells.toList us).toArray (by
      rw [built_of T pl i v _ h1 hi hv]
      simpa using hfill)
    simp [execOp, hop, hb]
theorem partsD_spec (hρ : ∀ x, RepV M (ρV x) (ρ x)) (sz : Nat) : ∀ (ps : List (Nat × Operand)) (qs : List (Nat × List D)), partsD ρV sz ps = some qs →
    ps.length = qs.length ∧ ∀ (k : Nat) p, ps[k]? = some p → ∃ cs, qs[k]? = some (p.1, cs) ∧ cs.length = sz ∧ RepDs M cs (ρ p.2).cells.toList ∧ ∀ u ∈ (ρ p.2).cells.toList, u.oneCell' = true
  | [], qs, h => by cases h; exact ⟨rfl, fun k p hk => by simp at hk⟩
  | (off, x) :: ps, qs, h => by
    unfold partsD at h
    split at h
    · rename_i cs hcs
      split at h
      · rename_i hsz
        cases hps : partsD ρV sz ps with
        | none => rw [hps] at h; cases h
        | some rs =>
          rw [hps] at h; cases h
          obtain ⟨e1, e2⟩ := partsD_spec hρ sz ps rs hps
          refine ⟨by simp [e1], fun k p hk => ?_⟩
          cases k with
          | zero =>
            simp at hk; subst hk
            cases hcv : cellsV (ρV x) with
            | none => rw [hcv] at hcs; cases hcs
            | some vs =>
              rw [hcv] at hcs
              obtain ⟨h5, h6⟩ := cellsV_rep (hρ x) hcv
              exact ⟨cs, rfl, hsz, toDs_rep h5 hcs, h6⟩
          | succ k => exact e2 k p (by simpa using hk)
      · cases h
    · cases h
theorem alloc_row {arr : Array Value} {e sz cap : Nat} {ds : List D} (hs : Sim M h w) (hn : n ≤ h.length)
    (hr : RepDs M ds (arr.toList.take ds.length)) (hl : ds.length ≤ arr.size) (hc : arr.size = cap * sz) (hm : cap ≤ maxLen) :
    Post n M h w (M.setMu h.length ⟨some w.heap.size, cap, 0⟩) (h ++ [some (.row e sz 0 ds)]) (w.alloc (.cells arr e)) ∧
      (∀ x u, RepV M x u → RepV (M.setMu h.length ⟨some w.heap.size, cap, 0⟩) x u) := by
  refine ⟨new_block (blk := .row e sz 0 ds) (o := .cells arr e) hs (by simp; omega) hs.mu_len (by simp) (fun j x hj hx => ?_) (by simp) rfl rfl rfl rfl ?_, fun x u hx => hx.setMu (fun r0 h => by rw [hs.mu_len] at h; cases h)⟩
  · rcases Nat.lt_or_ge j h.length with hl | hl
    · rwa [List.getElem?_append_left hl] at hx
    · rw [List.getElem?_append_right hl] at hx
      cases hd : j - h.length with
      | zero => omega
      | succ m => rw [hd] at hx; simp at hx
  · exact ⟨rfl, .inr ⟨w.heap.size, arr, rfl, heap_alloc_new w _, hc, hm, hl, hr⟩⟩
theorem snd_bslice (T e : TypeId) (len : Nat) (parts : Array (Nat × Operand)) (own : Bool) (i : TypeInfo) (z : List D) (hop : o.op = .buildSlice T len parts) (h1 : P.underlying T = some (.slice e)) (h2 : P.info? e = some i)
    (h3 : zeroCells? P e = some z) (h4 : 0 < i.size) (h5 : z.length = i.size) (h6 : len * i.size ≤ 2 ^ 24)
    (hρ : ∀ x, RepV M (ρV x) (ρ x)) (hs : Sim M h w) (hn : n ≤ h.length)
    (hk : step (.bslice own e i.size len ((List.range (len * i.size)).map fun j => z.getD (j % z.length) .any) (parts.toList.map fun p => (p.1 * i.size, p.2))) ρV h K) : Out n M h w K ((execOp ρ o).run P w) := by
  obtain ⟨i', v, hi, hv, hzr, hzrep, hz1⟩ := zeroCells_spec (M := M) (w := w) h3
  rw [h2] at hi; cases hi
  have hvs : v.cells.size = i.size := by have := hzrep.1; simp at this; omega
  obtain ⟨qs, hq, hf, hk⟩ : ∃ qs, partsD ρV i.size (parts.toList.map fun p => (p.1 * i.size, p.2)) = some qs ∧ fitL ((List.range (len * i.size)).map fun j => z.getD (j % z.length) .any).length qs = true ∧
      (if own then K (.own h.length 0 len) (h ++ [some (.row e i.size 0 (fillL ((List.range (len * i.size)).map fun j => z.getD (j % z.length) .any) qs))])
        else K (.d (.sl true len (fillL ((List.range (len * i.size)).map fun j => z.getD (j % z.length) .any) qs))) h) := by
    cases own <;> exact hk
  obtain ⟨e3, e4⟩ := partsD_spec hρ i.size _ qs hq
  let base : Array Value := (Array.range (len * i.size)).map (v.cells[· % v.cells.size]!)
  have hbase : RepDs M ((List.range (len * i.size)).map fun j => z.getD (j % z.length) .any) base.toList := by
    refine ⟨by simp [base], fun k x c hx hc => ?_⟩
    simp only [base, Array.toList_map, Array.toList_range, List.getElem?_map] at hx hc
    by_cases hkl : k < len * i.size
    · simp only [List.getElem?_range hkl, Option.map_some, Option.some.injEq] at hx hc
      subst hx; subst hc
      have hm : k % i.size < i.size := Nat.mod_lt _ h4
      rw [h5, hvs]
      have := hzrep.2 (k % i.size) (z[k % i.size]'(by omega)) (v.cells[k % i.size]'(by omega)) (by simp) (by simp [hvs, hm])
      rw [getElem!_pos v.cells (k % i.size) (by omega)]
      simpa [List.getD, h5, hm] using this
    · rw [List.getElem?_eq_none (by simpa using hkl)] at hx; cases hx
  have hbone : ∀ u ∈ base.toList, u.oneCell' = true := by
    intro u hu
    simp only [base, Array.toList_map, Array.toList_range, List.mem_map, List.mem_range] at hu
    obtain ⟨k, hkl, rfl⟩ := hu
    have hm : k % i.size < i.size := Nat.mod_lt _ h4
    rw [hvs, getElem!_pos v.cells (k % i.size) (by omega)]
    exact hz1 _ (by simp)
  let us : List (Nat × List Value) := parts.toList.map fun p => (p.1 * i.size, (ρ p.2).cells.toList)
  have hlb : base.size = len * i.size := by simp [base]
  have hcs : ∀ (k : Nat) p, parts.toList[k]? = some p → ∃ cs, qs[k]? = some (p.1 * i.size, cs) ∧ cs.length = i.size ∧ RepDs M cs (ρ p.2).cells.toList ∧ ∀ u ∈ (ρ p.2).cells.toList, u.oneCell' = true :=
    fun k p hp => e4 k (p.1 * i.size, p.2) (by simp [hp])
  have hfill := fill_spec (fun j => some (j * i.size, i.size)) ρ parts.toList us base (fun k p hkp => by
      obtain ⟨cs, hc1, hc2, hc3, _⟩ := hcs k p hkp
      refine ⟨(p.1 * i.size, (ρ p.2).cells.toList), by simp only [us, List.getElem?_map, hkp, Option.map_some], ?_, rfl⟩
      have : cs.length = (ρ p.2).cells.toList.length := hc3.1
      rw [← this, hc2]) (by simp [us]) (fun q hqm => by
      obtain ⟨k, hkq⟩ := List.getElem?_of_mem hqm
      simp only [us, List.getElem?_map] at hkq
      cases hp : parts.toList[k]? with
      | none => rw [hp] at hkq; cases hkq
      | some p =>
        rw [hp] at hkq; cases hkq
        obtain ⟨cs, hc1, hc2, hc3, _⟩ := hcs k p hp
        have h9 := fitL_spec hf hc1
        have : cs.length = (ρ p.2).cells.toList.length := hc3.1
        simp only [List.length_map, List.length_range] at h9 ⊢
        omega)
  have hrel := fillL_rel (R := RepD M.ro) (ps := qs) (qs := us) (l := (List.range (len * i.size)).map fun j => z.getD (j % z.length) .any) (l' := base.toList) hbase.1 hbase.2 (by rw [← e3]; simp [us]) (fun k p q h7 h8 => by
      simp only [us, List.getElem?_map] at h8
      cases hp : parts.toList[k]? with
      | none => rw [hp] at h8; cases h8
      | some p' =>
        rw [hp] at h8; cases h8
        obtain ⟨cs, hc1, hc2, hc3, _⟩ := hcs k p' hp
        rw [h7] at hc1; cases hc1
        exact ⟨rfl, hc3.1, fitL_spec hf h7, hc3.2⟩)
  have hlen : (fillL base.toList us).length = len * i.size := by
    have : ∀ (qs : List (Nat × List Value)) (l : List Value), (∀ q ∈ qs, q.1 + q.2.length ≤ l.length) → (fillL l qs).length = l.length := by
      intro qs
      induction qs with
      | nil => intro l _; rfl
      | cons q qs ih =>
        intro l hq
        have h0 := hq q (by simp)
        simp only [fillL]
        rw [ih _ (fun q' hq' => by rw [putAt_len _ _ _ h0]; exact hq q' (List.mem_cons_of_mem _ hq')), putAt_len _ _ _ h0]
    rw [this us base.toList (fun q hqm => by
      obtain ⟨k, hkq⟩ := List.getElem?_of_mem hqm
      simp only [us, List.getElem?_map] at hkq
      cases hp : parts.toList[k]? with
      | none => rw [hp] at hkq; cases hkq
      | some p =>
        rw [hp] at hkq; cases hkq
        obtain ⟨cs, hc1, hc2, hc3, _⟩ := hcs k p hp
        have h9 := fitL_spec hf hc1
        have : cs.length = (ρ p.2).cells.toList.length := hc3.1
        simp only [List.length_map, List.length_range, Array.length_toList, hlb] at h9 this ⊢
        omega)]
    simpa using hlb
  have hrun : (execOp ρ o).run P w = .ok (.value (.slice (some ⟨w.heap.size, 0, none⟩) len len)) (w.alloc (.cells (fillL base.toList us).toArray e)) := by
    by_cases h0 : len * i.size = 0
    · have hb0 : base = #[] := Array.eq_empty_of_size_eq_zero (by omega)
      rw [hb0] at hfill
      have hf2 : Instr.fill (fun j => some (j * i.size, i.size)) #[] (parts.map fun (i, x) => (i, ρ x)).toList = some (fillL base.toList us).toArray := by
        rw [hb0]; simpa using hfill
      have hf3 : Instr.fill (fun j => some (j * i.size, i.size)) #[] (parts.toList.map fun (i, x) => (i, ρ x)) = some (fillL base.toList us).toArray := by simpa using hf2
      have hr0 : (Array.map (fun _ => (default : Value)) (Array.range 0)) = #[] := Array.eq_empty_of_size_eq_zero (by simp)
      simp [execOp, hop, Instr.buildSlice, run_underlying h1, sizeOf, typeInfo, h2, h0, hr0, hf3, newRow]
    · have hf2 : Instr.fill (fun j => some (j * i.size, i.size)) base (parts.map fun (i, x) => (i, ρ x)).toList = some (fillL base.toList us).toArray := by simpa using hfill
      have := run_buildSlice (P := P) w T e len (parts.map fun (i, x) => (i, ρ x)) (fillL base.toList us).toArray i v h1 h2 hv (by omega) h0 hf2
      simp [execOp, hop, this]
  have hlm : len ≤ maxLen := by
    have : len ≤ len * i.size := Nat.le_mul_of_pos_right _ h4
    simp only [maxLen]; omega
  cases own with
  | true =>
    obtain ⟨hp, henv⟩ := alloc_row (n := n) (h := h) (w := w) (e := e) (sz := i.size) (cap := len) (arr := (fillL base.toList us).toArray) (ds := fillL ((List.range (len * i.size)).map fun j => z.getD (j % z.length) .any) qs) hs hn (by
      refine ⟨by simp only [List.length_take, hrel.1, Nat.min_self], fun k x c hx hc => ?_⟩
      rw [List.getElem?_take] at hc
      split at hc
      · exact hrel.2 k x c hx (by simpa using hc)
      · cases hc) (by rw [hrel.1]; simp) (by simpa using hlen) hlm
    exact ⟨_, _, _, _, _, .inl hrun, hp, henv, .own _ _ _ _ _ _ (Mem.setMu_same _ _ _) (Nat.le_refl _) (Nat.le_refl _) hlm (fun _ => ⟨rfl, rfl⟩), hk⟩
  | false =>
    refine ⟨.slice (some ⟨w.heap.size, 0, none⟩) len len, _, _, _, _, .inl hrun, new_ro (e := e) (fz := (0, 0)) (arr := (fillL base.toList us).toArray) hs hn rfl rfl rfl rfl, fun y u hy => addRo_rep hs _ hy, ?_, hk⟩
    have hget : ∀ k, k < (fillL ((List.range (len * i.size)).map fun j => z.getD (j % z.length) .any) qs).length → k < (fillL base.toList us).length := fun k hk => by rw [← hrel.1]; exact hk
    refine .d _ _ (.sl true len len _ _ w.heap.size 0 (fun k => (fillL base.toList us)[k]?.getD undef) (Nat.le_refl _) hlm (fun _ => rfl) (.inr rfl) (fun k hkl => ?_) (fun k c hc => ?_))
    · simp [Mem.addRo, hget k hkl]
    · have hlt := (List.getElem?_eq_some_iff.1 hc).1
      have h9 := hrel.2 k c _ hc (List.getElem?_eq_getElem (hget k hlt))
      simp only [List.getElem?_eq_getElem (hget k hlt), Option.getD_some]
      exact h9.mono (addRo_ro hs _)
end
end Go.Proofs.Ytdnefcjbcieecaa
namespace Go.Proofs.Ytdnefcjbcieecaa
open Go
theorem ghost_row {n : Nat} {M : Mem} {h : Heap} {w : World} (e sz : Nat) (hs : Sim M h w) (hn : n ≤ h.length) :
    Post n M h w (M.setMu h.length ⟨none, 0, 0⟩) (h ++ [some (.row e sz 0 [])]) w ∧ (∀ x u, RepV M x u → RepV (M.setMu h.length ⟨none, 0, 0⟩) x u) := by
  have hml : ∀ r0, M.mu h.length = some r0 → r0.gen < (⟨none, 0, 0⟩ : Ref).gen := fun r0 h => by rw [hs.mu_len] at h; cases h
  have hpre : ∀ (j : Nat) x, j ≠ h.length → (h ++ [some (.row e sz 0 [])])[j]? = some (some x) → h[j]? = some (some x) := by
    intro j x hj hx
    rcases Nat.lt_or_ge j h.length with hl | hl
    · rwa [List.getElem?_append_left hl] at hx
    · rw [List.getElem?_append_right hl] at hx
      cases hd : j - h.length with
      | zero => omega
      | succ m => rw [hd] at hx; simp at hx
  have hlive : ∀ k, liveBlk (M.setMu h.length ⟨none, 0, 0⟩) (h ++ [some (.row e sz 0 [])]) k → liveBlk M h k := by
    rintro k ⟨i, blk2, r2, hi2, hr2, hb2⟩
    by_cases hii : i = h.length
    · subst hii; rw [Mem.setMu_same] at hr2; cases hr2; cases hb2
    · rw [Mem.setMu_other _ _ hii] at hr2
      exact ⟨i, blk2, r2, hpre i _ hii hi2, hr2, hb2⟩
  refine ⟨⟨fun _ _ _ h => h, ⟨⟨fun _ h => h, fun _ _ h => h, fun _ _ _ _ h => .inl h⟩, rfl⟩, MuLe.setMu hml, by simp; omega, ⟨?_, ?_, ?_, ?_, ?_⟩, rfl, rfl, rfl, Nat.le_refl _, fun _ _ _ => rfl, fun k _ hl => hlive k hl⟩, fun x u hx => hx.setMu hml⟩
  · intro i blk2 hi2
    by_cases hii : i = h.length
    · subst hii
      simp at hi2; subst hi2
      exact ⟨_, Mem.setMu_same _ _ _, rfl, .inl ⟨rfl, rfl, rfl⟩⟩
    · obtain ⟨r2, hr2, hat2⟩ := hs.blks i blk2 (hpre i _ hii hi2)
      exact ⟨r2, by rw [Mem.setMu_other _ _ hii]; exact hr2, BlkAt.of_same rfl (M := M) (w := w) (fun _ _ _ h => h) (fun _ _ h => h.setMu hml) (fun k hk => rfl) hat2⟩
  · intro i j bi bj ri rj k hi2 hj2 hri hrj hbi hbj
    by_cases hii : i = h.length
    · subst hii; rw [Mem.setMu_same] at hri; cases hri; cases hbi
    · rw [Mem.setMu_other _ _ hii] at hri
      by_cases hjj : j = h.length
      · subst hjj; rw [Mem.setMu_same] at hrj; cases hrj; cases hbj
      · rw [Mem.setMu_other _ _ hjj] at hrj
        exact hs.inj i j bi bj ri rj k (hpre i _ hii hi2) (hpre j _ hjj hj2) hri hrj hbi hbj
  · intro k p v hv
    exact ⟨(hs.ro k p v hv).1, fun hl => (hs.ro k p v hv).2 (hlive k hl)⟩
  · intro i hi
    have : h.length < i := by simp at hi; omega
    rw [Mem.setMu_other _ _ (by omega)]
    exact hs.dom i (by omega)
  · intro k hk
    exact ⟨(hs.df k hk).1, fun hl => (hs.df k hk).2 (hlive k hl)⟩
section
variable {P : Program} {n : Nat} {o : Oper} {ρV : Operand → V} {ρ : Operand → Value} {M : Mem} {h : Heap} {w : World} {K : V → Heap → Prop}
theorem snd_store (T : TypeId) (x v : Operand) (i : TypeInfo) (hop : o.op = .store T x v) (hi : P.info? T = some i) (hx : RepV M (ρV x) (ρ x)) (hv : RepV M (ρV v) (ρ v)) (hs : Sim M h w) (hn : n ≤ h.length)
    (hk : step (.store i.size x v) ρV h K) : Out n M h w K ((execOp ρ o).run P w) := by
  simp only [step, onPtr] at hk
  split at hk
  · rename_i id g off e
    rw [e] at hx
    obtain ⟨r, b, hm, hg, hp, hpb⟩ := hx.ptrI
    obtain ⟨vs, hc, hl, h', hput, hk⟩ := hk
    obtain ⟨hrep, h1⟩ := cellsV_rep hv hc
    have hsz : (ρ v).cells.size = i.size := by have := hrep.1; simp at this; omega
    have fin : ∀ blk blk' (arr : Array Value) (T' : TypeId) (hat' : ∀ w', w'.heap[b]? = some (.cells (putAt arr.toList off (ρ v).cells.toList).toArray T' (0, 0)) → BlkAt M w' r blk'),
        h[id]? = some (some blk) → r.blk = some b → w.heap[b]? = some (.cells arr T' (0, 0)) → off + vs.length ≤ arr.size → h' = h.set id (some blk') → Out n M h w K ((execOp ρ o).run P w) := by
      intro blk blk' arr T' hat' hid hrb hb hle he
      subst he
      have hlen : (ρ v).cells.toList.length = vs.length := hrep.1.symm
      have hst := run_storeCells_at (P := P) b off T' (ρ v).cells.toList 0 arr w hb (by omega) h1
      have hputeq : (arr.toList.take (off + 0) ++ (ρ v).cells.toList ++ arr.toList.drop (off + 0 + (ρ v).cells.toList.length)).toArray = (putAt arr.toList off (ρ v).cells.toList).toArray := by
        simp [putAt]
      rw [hputeq] at hst
      have hrun : (execOp ρ o).run P w = .ok .skip (w.setRow b (putAt arr.toList off (ρ v).cells.toList).toArray) := by
        simp [execOp, hop, Instr.storeAt, Instr.sureAddr, hp, storeVar, sizeOf, typeInfo, hi, hsz, hst]
      refine ⟨undef, _, M, .any, _, .inr ⟨hrun, rfl⟩, upd_block hs hn hid hm hrb (by simp [World.setRow]) (fun k hk => setRow_other _ _ _ _ hk) rfl rfl rfl (hat' _ (setRow_heap _ _ _ _ _ _ hb)), fun _ _ h => h, .any _, hk⟩
    unfold Heap.put at hput
    split at hput
    · rename_i cs hid
      split at hput
      · rename_i hle
        cases hput
        obtain ⟨r', hr', hat⟩ := hs.blks id _ hid
        rw [hm] at hr'; cases hr'
        obtain ⟨hg0, b', arr, T', e1, e2, e3, e4⟩ := hat
        have hrb := hpb (by rw [hg0, hle.1])
        rw [hrb] at e1; cases e1
        refine fin _ (.box (putAt cs off vs)) arr T' (fun w' hw' => ⟨hg0, b, _, T', hrb, hw', ?_, fun u hu => ?_⟩) hid hrb e2 (by have := e3.1; have := hle.2; simp at *; omega) rfl
        · simpa using RepL.putAt e3 hrep hle.2
        · rcases putAt_mem (by simpa using hu) with hu | hu
          · exact e4 u hu
          · exact h1 u hu
      · cases hput
    · rename_i e' sz g' ds hid
      split at hput
      · rename_i xs hxs
        split at hput
        · rename_i hle
          cases hput
          obtain ⟨r', hr', hat⟩ := hs.blks id _ hid
          rw [hm] at hr'; cases hr'
          have hrb := hpb (by rw [hat.1, hle.1])
          rcases hat.2 with ⟨_, h0, _⟩ | ⟨b', arr, e1, e2, e3, e4, e5, e6⟩
          · rw [hrb] at h0; cases h0
          rw [hrb] at e1; cases e1
          have hxr := toDs_rep hrep hxs
          have hxl : xs.length = vs.length := by rw [hxr.1, ← hrep.1]
          have hlen : (ρ v).cells.toList.length = vs.length := hrep.1.symm
          have hle2 := hle.2
          have hpl : (putAt arr.toList off (ρ v).cells.toList).length = arr.size := by rw [putAt_len _ _ _ (by simp only [Array.length_toList]; omega)]; simp
          refine fin _ (.row e' sz g' (putAt ds off xs)) arr e' (fun w' hw' => ⟨hat.1, .inr ⟨b, _, hrb, hw', by simp only [List.size_toArray, hpl]; exact e3, e4, by rw [putAt_len _ _ _ (by omega)]; simp only [List.size_toArray, hpl]; exact e5, ?_⟩⟩) hid hrb e2 (by omega) rfl
          have hdl : (putAt ds off xs).length = ds.length := putAt_len _ _ _ (by omega)
          have h7 : (putAt arr.toList off (ρ v).cells.toList).take ds.length = putAt (arr.toList.take ds.length) off (ρ v).cells.toList := by
            apply List.ext_getElem?
            intro k
            rw [List.getElem?_take, putAt_get _ _ _ (by simp; omega), putAt_get _ _ _ (by simp; omega), List.getElem?_take]
            split <;> split <;> (try split) <;> first | rfl | omega
          rw [hdl]
          simp only [List.toList_toArray, h7]
          exact RepDs.putAt e6 hxr (by omega)
        · cases hput
      · cases hput
    · cases hput
  · exact hk.elim
  · exact hk.elim
theorem natI_spec {v : V} {u : Value} {K : Int → Prop} (h : natI v K) (hv : RepV M v u) : ∃ k i, u = .int k i ∧ K i := by
  unfold natI onInt at h
  split at h
  · exact ⟨_, _, hv.intI, h⟩
  · exact h.elim
theorem elemAt_some {cs e : List D} {sz i : Nat} (h : elemAt cs sz i = some e) : i * sz + sz ≤ cs.length ∧ e.length = sz ∧ ∀ (k : Nat) c, e[k]? = some c → k < sz ∧ cs[i * sz + k]? = some c := by
  unfold elemAt at h
  split at h
  · rename_i hle
    cases h
    refine ⟨hle, by simp; omega, fun k c hc => ?_⟩
    rw [List.getElem?_take] at hc
    split at hc
    · rename_i hk; rw [List.getElem?_drop] at hc; exact ⟨hk, hc⟩
    · cases hc
  · cases h
theorem snd_indexS (T e : TypeId) (x i : Operand) (inf : TypeInfo) (hop : o.op = .indexAddr T x i) (h1 : P.underlying T = some (.slice e)) (h2 : P.info? e = some inf) (h0 : inf.size ≠ 0)
    (hx : RepV M (ρV x) (ρ x)) (hi : RepV M (ρV i) (ρ i)) (hs : Sim M h w) (hn : n ≤ h.length)
    (hk : step (.indexS inf.size x i) ρV h K) : Out n M h w K ((execOp ρ o).run P w) := by
  simp only [step, onPtr, onAgg, onTup, onStr, onSl] at hk
  obtain ⟨k, j, hj, hk⟩ := natI_spec hk hi
  have hrun : ∀ (a : Addr) (len cap : Nat), ρ x = .slice (some a) len cap → 0 ≤ j ∧ j < len → (execOp ρ o).run P w = .ok (.value (.pointer (some (a.add (j.toNat * inf.size))))) w := by
    intro a len cap hp hb
    simp [execOp, hop, Instr.indexAt, hj, asIntOf, run_underlying h1, hp, hb, sizeOf, typeInfo, h2]
  split at hk
  · rename_i xx len cs e'
    rw [e'] at hx
    obtain ⟨cap, ao, b, off, vals, hp, _, _, _, hao, hro, hrep⟩ := hx.slI
    obtain ⟨hb, el, hel, hk⟩ := hk
    obtain ⟨e1, e2, e3⟩ := elemAt_some hel
    rcases hao with rfl | hao
    · simp at e1; omega
    · refine Out.pure hs hn (.rptr el 0 b (off + j.toNat * inf.size) (fun k => vals (j.toNat * inf.size + k)) (fun k hkl => ?_) (fun k c hc => hrep _ _ (e3 k c hc).2)) hk ?_
      · rw [Nat.add_assoc]; exact hro _ (by omega)
      · rw [hrun _ _ _ (by rw [hp, hao]) hb, Addr.add_lit]; rfl
  · rename_i id g len e'
    rw [e'] at hx
    obtain ⟨r, ao, cap, hr, hg, hp, hl, hm, hv⟩ := hx.ownI
    obtain ⟨hb, ⟨vs, hvs⟩, hk⟩ := hk
    obtain ⟨blk, cs, hid, hcs, hne, hgg⟩ : ∃ blk cs, h[id]? = some (some blk) ∧ blk.vs = some cs ∧ cs ≠ [] ∧ blk.gen = g := by
      unfold Heap.cells at hvs
      split at hvs
      · rename_i cs e
        split at hvs
        · rename_i hc; refine ⟨_, cs, e, rfl, ?_, hc.1.symm⟩; rintro rfl; have := hc.2; simp at this; omega
        · cases hvs
      · rename_i g' ds e
        split at hvs
        · rename_i hc; refine ⟨_, _, e, rfl, ?_, hc.1.symm⟩; intro h0; simp at h0; subst h0; have := hc.2; simp at this; omega
        · cases hvs
      · cases hvs
    obtain ⟨r', hr', hat⟩ := hs.blks id blk hid
    rw [hr] at hr'; cases hr'
    obtain ⟨b, arr, T', e1, e2, e3, e4⟩ := hat.cells hcs hne
    obtain ⟨hao, hcap⟩ := hv (by rw [hat.genEq, hgg])
    refine Out.pure hs hn (.ptr id g (j.toNat * inf.size) r b hr hg (fun _ => e1)) hk ?_
    rw [hrun ⟨b, 0, none⟩ len cap (by rw [hp, hao, e1]; rfl) hb, Addr.add_lit, Nat.zero_add]
  · exact hk.elim
  · exact hk.elim
theorem snd_indexA (T e : TypeId) (m : Nat) (x i : Operand) (inf : TypeInfo) (hop : o.op = .indexAddr T x i) (h1 : P.underlying T = some (.array m e)) (h2 : P.info? e = some inf)
    (hx : RepV M (ρV x) (ρ x)) (hi : RepV M (ρV i) (ρ i)) (hs : Sim M h w) (hn : n ≤ h.length)
    (hk : step (.indexA m inf.size x i) ρV h K) : Out n M h w K ((execOp ρ o).run P w) := by
  simp only [step, onPtr, onAgg, onTup, onStr, onSl] at hk
  obtain ⟨k, j, hj, hk⟩ := natI_spec hk hi
  have hrun : ∀ (a : Addr), ρ x = .pointer (some a) → 0 ≤ j ∧ j < m → (execOp ρ o).run P w = .ok (.value (.pointer (some (a.add (j.toNat * inf.size))))) w := by
    intro a hp hb
    simp [execOp, hop, Instr.indexAt, Instr.sureAddr, hj, asIntOf, run_underlying h1, hp, hb, sizeOf, typeInfo, h2]
  split at hk
  · rename_i id g off e'
    rw [e'] at hx
    obtain ⟨r, b, hm, hg, hp, hpb⟩ := hx.ptrI
    obtain ⟨hb, hk⟩ := hk
    exact Out.pure hs hn (.ptr id g _ r b hm hg hpb) hk (by rw [hrun _ hp hb, Addr.add_lit])
  · rename_i ds off e'
    rw [e'] at hx
    obtain ⟨b, o', vals, hp, hro, hrep⟩ := hx.rptrI
    obtain ⟨hb, hk⟩ := hk
    exact Out.pure hs hn (.rptr ds _ b o' vals hro hrep) hk (by rw [hrun _ hp hb, Addr.add_lit, Nat.add_assoc])
  · exact hk.elim
theorem snd_len (T e : TypeId) (x : Operand) (ts : Array TypeId) (hop : o.op = .call { callee := .builtin .len, args := #[x], argTypes := ts }) (ht : ts[0]? = some T)
    (h1 : P.underlying T = some (.slice e)) (hx : RepV M (ρV x) (ρ x)) (hs : Sim M h w) (hn : n ≤ h.length)
    (hk : step (.len x) ρV h K) : Out n M h w K ((execOp ρ o).run P w) := by
  have hsl : ∀ ao len cap, ρ x = .slice ao len cap → (execOp ρ o).run P w = .ok (.value (.int .i64 len)) w := by
    rintro ao len cap hp
    simp [execOp, hop, resolve, invoke, builtin, Builtin.len_, ht, run_underlying h1, hp, goInt]
  simp only [step, onPtr, onAgg, onTup, onStr, onSl] at hk
  split at hk
  · rename_i xx len cs e'
    rw [e'] at hx
    obtain ⟨cap, ao, b, off, vals, hp, _⟩ := hx.slI
    exact Out.pure hs hn (.d _ _ (.int _ _)) hk (hsl _ _ _ hp)
  · rename_i id g len e'
    rw [e'] at hx
    obtain ⟨r, ao, cap, hr, hg, hp, _⟩ := hx.ownI
    exact Out.pure hs hn (.d _ _ (.int _ _)) hk (hsl _ _ _ hp)
  · rename_i e'
    rw [e'] at hx
    have hp : ρ x = .slice none 0 0 := by generalize ρ x = u at hx; cases hx with | d _ _ h => cases h; rfl
    exact Out.pure hs hn (.d _ _ (.int _ _)) hk (hsl _ _ _ hp)
  · exact hk.elim
theorem snd_lenStr (T : TypeId) (x : Operand) (ts : Array TypeId) (hop : o.op = .call { callee := .builtin .len, args := #[x], argTypes := ts }) (ht : ts[0]? = some T)
    (h1 : P.underlying T = some .string) (hx : RepV M (ρV x) (ρ x)) (hs : Sim M h w) (hn : n ≤ h.length)
    (hk : step (.lenStr x) ρV h K) : Out n M h w K ((execOp ρ o).run P w) := by
  simp only [step, onPtr, onAgg, onTup, onStr, onSl] at hk
  split at hk
  · rename_i l e'
    rw [e'] at hx
    have hsz : (⟨l.toArray⟩ : ByteArray).size = l.length := by simp [ByteArray.size]
    have hst : ∀ s, ρ x = .string s → (execOp ρ o).run P w = .ok (.value (.int .i64 s.size)) w := by
      intro s hp
      simp [execOp, hop, resolve, invoke, builtin, Builtin.len_, ht, run_underlying h1, hp, goInt]
    exact Out.pure hs hn (.d _ _ (.int _ _)) hk (by rw [hst _ hx.strI, hsz])
  · exact hk.elim
theorem snd_lenArr (T e : TypeId) (m : Nat) (x : Operand) (ts : Array TypeId) (hop : o.op = .call { callee := .builtin .len, args := #[x], argTypes := ts }) (ht : ts[0]? = some T)
    (h1 : P.underlying T = some (.array m e)) (hs : Sim M h w) (hn : n ≤ h.length)
    (hk : K (.d (.int .i64 m)) h) : Out n M h w K ((execOp ρ o).run P w) := by
  refine Out.pure hs hn (.d _ _ (.int _ _)) hk ?_
  simp [execOp, hop, resolve, invoke, builtin, Builtin.len_, ht, run_underlying h1, goInt]
theorem intsV_rep : ∀ {xs : List Operand} {l : List Int}, (∀ x, RepV M (ρV x) (ρ x)) → intsV (xs.map ρV) = some l → xs.map ρ = l.map (Value.int .i64)
  | [], l, _, h => by cases h; rfl
  | x :: xs, l, hρ, h => by
    simp only [List.map_cons] at h
    unfold intsV at h
    split at h
    · rename_i e; cases e
    · rename_i m ys e
      simp only [List.cons.injEq] at e
      cases hy : intsV (xs.map ρV) with
      | none => rw [e.2] at hy; rw [hy] at h; cases h
      | some r =>
        have h9 := intsV_rep hρ hy
        rw [e.2] at hy; rw [hy] at h; cases h
        have := hρ x
        rw [e.1] at this
        simp [this.intI, h9]
    · cases h
theorem min_fold (w : World) : ∀ (xs : List Int) (x : Int), ((xs.map (Value.int .i64)).foldlM Builtin.min2 (Value.int .i64 x)).run P w = .ok (.int .i64 (xs.foldl (fun a b => if b < a then b else a) x)) w
  | [], x => rfl
  | y :: xs, x => by
    simp only [List.map_cons, List.foldlM_cons, Sem.run_bind, Builtin.min2, Sem.run_pure, Result.andThen_ok, List.foldl_cons]
    exact min_fold w xs _
theorem max_fold (w : World) : ∀ (xs : List Int) (x : Int), ((xs.map (Value.int .i64)).foldlM Builtin.max2 (Value.int .i64 x)).run P w = .ok (.int .i64 (xs.foldl (fun a b => if b > a then b else a) x)) w
  | [], x => rfl
  | y :: xs, x => by
    simp only [List.map_cons, List.foldlM_cons, Sem.run_bind, Builtin.max2, Sem.run_pure, Result.andThen_ok, List.foldl_cons]
    exact max_fold w xs _
theorem snd_min (xs : Array Operand) (ts : Array TypeId) (hop : o.op = .call { callee := .builtin .min, args := xs, argTypes := ts }) (hρ : ∀ x, RepV M (ρV x) (ρ x)) (hs : Sim M h w) (hn : n ≤ h.length)
    (hk : step (.min xs.toList) ρV h K) : Out n M h w K ((execOp ρ o).run P w) := by
  obtain ⟨l, hl, hk⟩ := hk
  have := intsV_rep hρ hl
  unfold minI at hk
  split at hk
  · exact hk.elim
  · rename_i x ys
    refine Out.pure hs hn (.d _ _ (.int _ _)) hk ?_
    have hm := min_fold (P := P) w ys x
    simp [execOp, hop, resolve, invoke, builtin, Builtin.min_, this, hm]
theorem snd_max (xs : Array Operand) (ts : Array TypeId) (hop : o.op = .call { callee := .builtin .max, args := xs, argTypes := ts }) (hρ : ∀ x, RepV M (ρV x) (ρ x)) (hs : Sim M h w) (hn : n ≤ h.length)
    (hk : step (.max xs.toList) ρV h K) : Out n M h w K ((execOp ρ o).run P w) := by
  obtain ⟨l, hl, hk⟩ := hk
  have := intsV_rep hρ hl
  unfold maxI at hk
  split at hk
  · exact hk.elim
  · rename_i x ys
    refine Out.pure hs hn (.d _ _ (.int _ _)) hk ?_
    have hm := max_fold (P := P) w ys x
    simp [execOp, hop, resolve, invoke, builtin, Builtin.max_, this, hm]
theorem conts_rep {yv : V} {cv : Value} {m sz : Nat} {xs : List D} (hs : Sim M h w) (hy : RepV M yv cv) (hc : conts h yv = some (m, xs)) (hl : xs.length = m * sz) :
    ∃ xo c, ∃ news : List Value, cv = .slice xo m c ∧ RepDs M xs news ∧ (∀ w' : World, w'.heap = w.heap → (Builtin.firstCells sz m cv).run P w' = .ok news.toArray w') ∧ ∀ u ∈ news, u.oneCell' = true := by
  have one : ∀ {ds : List D} {us : List Value}, RepDs M ds us → ∀ u ∈ us, u.oneCell' = true := by
    intro ds us hr u hu
    obtain ⟨k, hk⟩ := List.getElem?_of_mem hu
    have hlt := (List.getElem?_eq_some_iff.1 hk).1
    exact (hr.2 k (ds[k]'(by rw [hr.1]; exact hlt)) u (by simp) hk).one
  unfold conts at hc
  split at hc
  · rename_i xx m' cs
    cases hc
    obtain ⟨cap, ao, b, off, vals, rfl, _, _, _, hao, hro, hrep⟩ := hy.slI
    have hr : RepDs M xs ((List.range xs.length).map vals) := ⟨by simp, fun k x c hx hcc => by
      have hlt := (List.getElem?_eq_some_iff.1 hx).1
      simp [hlt] at hcc; subst hcc; exact hrep k x hx⟩
    refine ⟨ao, cap, _, rfl, hr, fun w' hw' => ?_, one hr⟩
    rcases hao with rfl | rfl
    · have hm0 : m * sz = 0 := by simpa using hl.symm
      cases ao with
      | none => simp [Builtin.firstCells]
      | some a => simp [Builtin.firstCells, loadCells, hm0, loadCellsFrom]
    · exact run_firstCells_some (P := P) w' sz m _ m cap _ (by simp [hl]) (fun j v hj => by
        rw [List.getElem?_map] at hj
        rcases Nat.lt_or_ge j xs.length with hlt | hge
        · simp [hlt] at hj; subst hj
          rw [Addr.add_lit]
          have := (hs.ro _ _ _ (hro j hlt)).1
          simpa [World.cell?, hw'] using this
        · simp [List.getElem?_eq_none (l := List.range xs.length) (by simpa using hge)] at hj)
  · cases hc
    obtain rfl : cv = .slice none 0 0 := by cases hy with | d _ _ h => cases h; rfl
    exact ⟨none, 0, [], rfl, ⟨rfl, fun k x c hx => by simp at hx⟩, fun w' _ => by simp [Builtin.firstCells], fun u hu => by simp at hu⟩
  · rename_i id g m'
    split at hc
    · rename_i e' sz' g' ds hid
      split at hc
      · rename_i hgg
        cases hc
        obtain ⟨r, ao, cap, hr, hg, rfl, hl', hm', hv⟩ := hy.ownI
        obtain ⟨r', hr', hat⟩ := hs.blks id _ hid
        rw [hr] at hr'; cases hr'
        obtain ⟨hao, hcap⟩ := hv (by rw [hat.1, hgg])
        rcases hat.2 with ⟨rfl, h0, h00⟩ | ⟨b, arr, e1, e2, e3, e4, e5, e6⟩
        · rw [h0] at hao
          subst hao
          exact ⟨none, cap, [], rfl, ⟨rfl, fun k x c hx => by simp at hx⟩, fun w' _ => by simp [Builtin.firstCells], fun u hu => by simp at hu⟩
        · rw [e1] at hao
          have hao : ao = some ⟨b, 0, none⟩ := hao
          subst hao
          refine ⟨some ⟨b, 0, none⟩, cap, _, rfl, e6, fun w' hw' => ?_, one e6⟩
          exact run_firstCells_some (P := P) w' sz m ⟨b, 0, none⟩ m cap _ (by simp; omega) (fun j v hj => by
            rw [Addr.add_lit, Nat.zero_add]
            rw [List.getElem?_take] at hj
            split at hj
            · simp [World.cell?, hw', e2]; simpa using hj
            · cases hj)
      · cases hc
    · cases hc
  · cases hc
theorem run_append_re (t ty e : TypeId) (i : TypeInfo) (z : Value) (ht : P.underlying t = some (.slice e)) (hi : P.info? e = some i) (hz : i.zero = some z)
    {so xo : Option Addr} {sLen sCap m c : Nat} {olds news : List Value}
    (hfo : (Builtin.firstCells i.size sLen (.slice so sLen sCap)).run P w.drew = .ok olds.toArray w.drew) (hfn : (Builtin.firstCells i.size m (.slice xo m c)).run P w.drew = .ok news.toArray w.drew)
    (hg : sCap < sLen + m) (h63 : sLen + m ≤ 140737488355328) (hb : (sLen + m) * i.bytes ≤ 140737488355328) :
    (Builtin.append_ #[t, t] ty #[.slice so sLen sCap, .slice xo m c]).run P w =
      .ok (.slice (some ⟨w.heap.size, 0, none⟩) (sLen + m) (grownCap w (sLen + m) sCap e))
        (w.drew.alloc (.cells (olds.toArray ++ news.toArray ++ Builtin.zeroCells z.cells (grownCap w (sLen + m) sCap e - (sLen + m))) e)) := by
  have hn : ¬ (sLen + m ≤ sCap) := by omega
  have h63' : ¬ (9223372036854775807 < ((sLen : Int) + (m : Int))) := by omega
  have h48 := growslice_fits (need := sLen + m) (old := sCap) (bytes := i.bytes) (by omega) hb
  have h48' : ¬ (281474976710656 < Builtin.nextslicecap (sLen + m) sCap * i.bytes) := by omega
  simp [Builtin.append_, run_underlying ht, sizeOf, typeInfo, zeroValue, hi, hz, Builtin.lenOf, hn, h63', h48', Question.forced, hfo, hfn, newRow, grownCap]
  simp only [← List.append_toArray, Array.append_assoc]
end
end Go.Proofs.Ytdnefcjbcieecaa
namespace Go.Proofs.Ytdnefcjbcieecaa
open Go
section
variable {P : Program} {n : Nat} {o : Oper} {ρV : Operand → V} {ρ : Operand → Value} {M : Mem} {h : Heap} {w : World} {K : V → Heap → Prop}
theorem size_grown (z : Array Value) (sz a b c : Nat) (olds news : List Value) (h1 : olds.length = a * sz) (h2 : news.length = b * sz) (h3 : z.size = sz) (h4 : a + b ≤ c) :
    (olds.toArray ++ news.toArray ++ Builtin.zeroCells z (c - (a + b))).size = c * sz := by
  simp only [Array.size_append, List.size_toArray, size_zeroCells, h1, h2, h3, ← Nat.add_mul]
  congr 1; omega
theorem RepDs.append {a b : List D} {x y : List Value} (h1 : RepDs M a x) (h2 : RepDs M b y) : RepDs M (a ++ b) (x ++ y) := by
  refine ⟨by simp [h1.1, h2.1], fun k u c hu hc => ?_⟩
  rcases Nat.lt_or_ge k a.length with hl | hl
  · rw [List.getElem?_append_left hl] at hu
    rw [List.getElem?_append_left (by rw [← h1.1]; exact hl)] at hc
    exact h1.2 k u c hu hc
  · rw [List.getElem?_append_right hl] at hu
    rw [List.getElem?_append_right (by rw [← h1.1]; exact hl), ← h1.1] at hc
    exact h2.2 _ u c hu hc
theorem run_append_zero (t ty e : TypeId) (i : TypeInfo) (ht : P.underlying t = some (.slice e)) (hi : P.info? e = some i) {so xo : Option Addr} {sLen sCap c : Nat} (hle : sLen ≤ sCap)
    (hfn : (Builtin.firstCells i.size 0 (.slice xo 0 c)).run P w = .ok #[] w) :
    (Builtin.append_ #[t, t] ty #[.slice so sLen sCap, .slice xo 0 c]).run P w = .ok (.slice so sLen sCap) w := by
  cases so <;> simp [Builtin.append_, run_underlying ht, sizeOf, typeInfo, hi, Builtin.lenOf, hle, hfn, storeCells]
theorem exec_append (t : TypeId) (x y : Operand) (hop : o.op = .call { callee := .builtin .append, args := #[x, y], argTypes := #[t, t] }) {r : Value} {w' : World}
    (hr : (Builtin.append_ #[t, t] o.type #[ρ x, ρ y]).run P w = .ok r w') : (execOp ρ o).run P w = .ok (.value r) w' := by
  simp [execOp, hop, resolve, invoke, builtin, hr]
theorem take_grown (olds news : List Value) (z : Array Value) : (olds.toArray ++ news.toArray ++ z).toList.take (olds ++ news).length = olds ++ news := by
  simp only [Array.toList_append]
  rw [List.take_append_of_le_length (by simp)]
  simp [← List.length_append]
theorem append_new_ro (t e : TypeId) (i : TypeInfo) (z : Value) (x y : Operand) (hop : o.op = .call { callee := .builtin .append, args := #[x, y], argTypes := #[t, t] })
    (h1 : P.underlying t = some (.slice e)) (h2 : P.info? e = some i) (h3 : i.zero = some z) (h4 : z.cells.size = i.size)
    {so xo : Option Addr} {sLen m c : Nat} {olds news : List Value} {cs xs : List D} (hx : ρ x = .slice so sLen sLen) (hy : ρ y = .slice xo m c)
    (ho : RepDs M cs olds) (hcl : cs.length = sLen * i.size) (hnw : RepDs M xs news) (hxl : xs.length = m * i.size)
    (hfo : ∀ w' : World, w'.heap = w.heap → (Builtin.firstCells i.size sLen (.slice so sLen sLen)).run P w' = .ok olds.toArray w')
    (hfn : ∀ w' : World, w'.heap = w.heap → (Builtin.firstCells i.size m (.slice xo m c)).run P w' = .ok news.toArray w')
    (hself : ∀ cv, cv = .slice so sLen sLen → RepV M (.d (.sl false sLen cs)) cv)
    (hb1 : sLen + m ≤ 140737488355328) (hb2 : (sLen + m) * i.bytes ≤ 140737488355328)
    (hs : Sim M h w) (hn : n ≤ h.length) (hk : K (.d (.sl false (sLen + m) (cs ++ xs))) h) : Out n M h w K ((execOp ρ o).run P w) := by
  by_cases hm : m = 0
  · subst hm
    obtain rfl : xs = [] := List.eq_nil_of_length_eq_zero (by simpa using hxl)
    obtain rfl : news = [] := List.eq_nil_of_length_eq_zero (by rw [← hnw.1]; rfl)
    have := run_append_zero (P := P) (w := w) t o.type e i h1 h2 (so := so) (xo := xo) (c := c) (Nat.le_refl sLen) (hfn w rfl)
    rw [← hx, ← hy] at this
    refine Out.pure hs hn (hself _ hx) (by simpa using hk) (exec_append t x y hop this)
  · have hr := run_append_re (P := P) (w := w) t o.type e i z h1 h2 h3 (so := so) (xo := xo) (sLen := sLen) (sCap := sLen) (m := m) (c := c) (hfo w.drew rfl) (hfn w.drew rfl) (by omega) hb1 hb2
    rw [← hx, ← hy] at hr
    have hmax : sLen + m ≤ maxLen := by simp only [maxLen]; omega
    have hge := grownCap_ge w (sLen + m) sLen e
    have hcm := grownCap_le_maxLen w (sLen + m) sLen e hmax
    have hall := ho.append hnw
    have htk := take_grown olds news (Builtin.zeroCells z.cells (grownCap w (sLen + m) sLen e - (sLen + m)))
    generalize hA : (olds.toArray ++ news.toArray ++ Builtin.zeroCells z.cells (grownCap w (sLen + m) sLen e - (sLen + m))) = A at hr htk
    refine ⟨_, _, _, _, _, .inl (exec_append t x y hop hr), new_ro (e := e) (fz := (0, 0)) (arr := A) hs hn rfl rfl rfl rfl, fun y u hy => addRo_rep hs _ hy, ?_, hk⟩
    have hget : ∀ (k : Nat) u, (olds ++ news)[k]? = some u → A[k]? = some u := by
      intro k u hu
      have hlt := (List.getElem?_eq_some_iff.1 hu).1
      rw [← htk, List.getElem?_take] at hu
      simp only [hlt, if_true] at hu
      simpa using hu
    refine .d _ _ (.sl false _ _ _ _ w.heap.size 0 (fun k => A[k]?.getD undef) hge hcm (fun h => by cases h) (.inr rfl) (fun k hkl => ?_) (fun k c hc => ?_))
    · have hlt : k < (olds ++ news).length := by rw [← hall.1]; exact hkl
      have := hget k _ (List.getElem?_eq_getElem hlt)
      simp [Mem.addRo, this]
    · have hlt : k < (olds ++ news).length := by rw [← hall.1]; exact (List.getElem?_eq_some_iff.1 hc).1
      have h9 := hget k _ (List.getElem?_eq_getElem hlt)
      simp only [h9, Option.getD_some]
      exact (hall.2 k c _ hc (List.getElem?_eq_getElem hlt)).mono (addRo_ro hs _)
theorem snd_append_ro (t e : TypeId) (i : TypeInfo) (x y : Operand) (hop : o.op = .call { callee := .builtin .append, args := #[x, y], argTypes := #[t, t] })
    (h1 : P.underlying t = some (.slice e)) (h2 : P.info? e = some i) (h3 : (i.zero.map fun z => z.cells.size) = some i.size) (h4 : 0 < i.size)
    (hx : RepV M (ρV x) (ρ x)) (hy : RepV M (ρV y) (ρ y)) (hs : Sim M h w) (hn : n ≤ h.length)
    (hk : step (.append false e i.size i.bytes x y) ρV h K) : Out n M h w K ((execOp ρ o).run P w) := by
  cases hz : i.zero with
  | none => rw [hz] at h3; cases h3
  | some z =>
    rw [hz] at h3
    have h3 : z.cells.size = i.size := by simpa using h3
    obtain ⟨⟨m, xs⟩, hc, hxl, hk⟩ := hk
    simp only [appendV, onSl] at hxl hk
    obtain ⟨xo, c, news, hpy, hnr, hfn, hn1⟩ := conts_rep (P := P) (sz := i.size) hs hy hc hxl
    rw [hpy] at hfn
    split at hk
    · rename_i ex sLen cs e'
      obtain ⟨⟨hex', hcl, hb1, hb2⟩, hk⟩ := hk
      subst hex'
      have hx0 := hx
      rw [e'] at hx
      obtain ⟨so, cap, olds, hpx, hor, hfo, ho1⟩ := conts_rep (P := P) (sz := i.size) hs hx (by rfl : conts h (.d (.sl true sLen cs)) = some (sLen, cs)) hcl
      obtain ⟨cap', ao, b, off, vals, hp2, hle, hmx, hex, hao, hro, hrep⟩ := hx.slI
      rw [hp2] at hpx; cases hpx
      obtain rfl : cap = sLen := hex rfl
      rw [hp2] at hfo
      refine append_new_ro t e i z x y hop h1 h2 hz h3 hp2 hpy hor hcl hnr hxl hfo hfn (fun cv hcv => ?_) hb1 hb2 hs hn hk
      subst hcv
      exact .d _ _ (.sl false _ _ cs _ b off vals (Nat.le_refl _) hmx (fun h => by cases h) hao hro hrep)
    · exact hk.elim
    · rename_i e'
      obtain ⟨⟨hb1, hb2⟩, hk⟩ := hk
      rw [e'] at hx
      have hp : ρ x = .slice none 0 0 := by generalize ρ x = u at hx; cases hx with | d _ _ h => cases h; rfl
      refine append_new_ro (olds := []) (cs := []) t e i z x y hop h1 h2 hz h3 hp hpy ⟨rfl, fun k u c hu => by simp at hu⟩ (by simp) hnr hxl (fun w' _ => by simp [Builtin.firstCells]) hfn (fun cv hcv => ?_) (by omega) (by simpa using hb2) hs hn (by simpa using hk)
      subst hcv
      exact .d _ _ (.sl false 0 0 [] none 0 0 (fun _ => undef) (Nat.le_refl _) (Nat.zero_le _) (fun h => by cases h) (.inl rfl) (fun k hk => by simp at hk) (fun k c hk => by simp at hk))
    · exact hk.elim
theorem snd_append_nil (t e : TypeId) (i : TypeInfo) (x y : Operand) (hop : o.op = .call { callee := .builtin .append, args := #[x, y], argTypes := #[t, t] })
    (h1 : P.underlying t = some (.slice e)) (h2 : P.info? e = some i) (h3 : (i.zero.map fun z => z.cells.size) = some i.size) (h4 : 0 < i.size)
    (hx : RepV M (ρV x) (ρ x)) (hy : RepV M (ρV y) (ρ y)) (hs : Sim M h w) (hn : n ≤ h.length)
    (hk : step (.append true e i.size i.bytes x y) ρV h K) : Out n M h w K ((execOp ρ o).run P w) := by
  cases hz : i.zero with
  | none => rw [hz] at h3; cases h3
  | some z =>
    rw [hz] at h3
    have h3 : z.cells.size = i.size := by simpa using h3
    obtain ⟨⟨m, xs⟩, hc, hxl, hk⟩ := hk
    simp only [appendV, onSl] at hxl hk
    obtain ⟨xo, c, news, hpy, hnr, hfn, hn1⟩ := conts_rep (P := P) (sz := i.size) hs hy hc hxl
    rw [hpy] at hfn
    split at hk
    · rename_i ex n0 cs e'
      by_cases hm : m = 0
      · rw [if_pos hm] at hk
        subst hm
        rw [e'] at hx
        obtain ⟨cap, ao, b, off, vals, hp, hle, hmx, hex, hao, hro, hrep⟩ := hx.slI
        obtain rfl : xs = [] := List.eq_nil_of_length_eq_zero (by simpa using hxl)
        obtain rfl : news = [] := List.eq_nil_of_length_eq_zero (by rw [← hnr.1]; rfl)
        have := run_append_zero (P := P) (w := w) t o.type e i h1 h2 (so := ao) (xo := xo) (sLen := n0) (sCap := cap) (c := c) hle (hfn w rfl)
        rw [← hp, ← hpy] at this
        exact ⟨_, _, _, _, _, .inl (exec_append t x y hop this), .refl hs hn, fun _ _ h => h, hx, hk⟩
      · rw [if_neg hm] at hk
        obtain ⟨⟨rfl, hcl, hb1, hb2⟩, hk⟩ := hk
        rw [e'] at hx
        obtain ⟨so, cap, olds, hpx, hor, hfo, ho1⟩ := conts_rep (P := P) (sz := i.size) hs hx (by rfl : conts h (.d (.sl true n0 cs)) = some (n0, cs)) hcl
        obtain ⟨cap', ao, b, off, vals, hp, hle, hmx, hex, hao, hro, hrep⟩ := hx.slI
        rw [hp] at hpx; cases hpx
        obtain rfl : cap = n0 := hex rfl
        rw [hp] at hfo
        have hr := run_append_re (P := P) (w := w) t o.type e i z h1 h2 hz (so := _) (xo := xo) (sLen := cap) (sCap := cap) (m := m) (c := c) (hfo w.drew rfl) (hfn w.drew rfl) (by omega) (by omega) hb2
        rw [← hp, ← hpy] at hr
        have hmax : cap + m ≤ maxLen := by simp only [maxLen]; omega
        have hge := grownCap_ge w (cap + m) cap e
        have hcm := grownCap_le_maxLen w (cap + m) cap e hmax
        have htk := take_grown olds news (Builtin.zeroCells z.cells (grownCap w (cap + m) cap e - (cap + m)))
        have hsz := size_grown z.cells i.size cap m (grownCap w (cap + m) cap e) olds news (by rw [← hor.1]; exact hcl) (by rw [← hnr.1]; exact hxl) h3 hge
        generalize hA : (olds.toArray ++ news.toArray ++ Builtin.zeroCells z.cells (grownCap w (cap + m) cap e - (cap + m))) = A at hr htk hsz
        have hs' : Sim M h w.drew := hs.of_heap rfl
        obtain ⟨hpost, henv⟩ := alloc_row (n := n) (e := e) (arr := A) (cap := grownCap w (cap + m) cap e) (ds := cs ++ xs) (sz := i.size) hs' hn (by
          have hl : (cs ++ xs).length = (olds ++ news : List Value).length := by simp [hnr.1, hor.1]
          rw [hl, htk]; exact RepDs.append hor hnr) (by
          have := congrArg List.length htk
          have h9 := hnr.1
          have h10 := hor.1
          simp at this ⊢; omega) hsz hcm
        refine ⟨_, _, _, _, _, .inl (exec_append t x y hop hr), (Post.of_heap (w' := w.drew) hs hn rfl rfl rfl rfl).trans hpost, henv, ?_, hk⟩
        exact RepV.own (M := M.setMu h.length ⟨some w.heap.size, grownCap w (cap + m) cap e, 0⟩) h.length 0 (cap + m) _ _ _ (Mem.setMu_same _ _ _) (Nat.le_refl _) hge hcm (fun _ => ⟨rfl, rfl⟩)
    · exact hk.elim
    · rename_i e'
      obtain ⟨⟨hb1, hb2⟩, hk⟩ := hk
      rw [e'] at hx
      have hp : ρ x = .slice none 0 0 := by generalize ρ x = u at hx; cases hx with | d _ _ h => cases h; rfl
      by_cases hm : m = 0
      · subst hm
        obtain rfl : xs = [] := List.eq_nil_of_length_eq_zero (by simpa using hxl)
        obtain rfl : news = [] := List.eq_nil_of_length_eq_zero (by rw [← hnr.1]; rfl)
        have := run_append_zero (P := P) (w := w) t o.type e i h1 h2 (so := none) (xo := xo) (sLen := 0) (sCap := 0) (c := c) (Nat.le_refl _) (hfn w rfl)
        rw [← hp, ← hpy] at this
        obtain ⟨hpost, henv⟩ := ghost_row (n := n) e i.size hs hn
        refine ⟨_, _, _, _, _, .inl (exec_append t x y hop this), hpost, henv, ?_, hk⟩
        rw [hp]
        exact .own _ _ _ ⟨none, 0, 0⟩ _ _ (Mem.setMu_same _ _ _) (Nat.le_refl _) (Nat.le_refl _) (Nat.zero_le _) (fun _ => ⟨rfl, rfl⟩)
      · have hr := run_append_re (P := P) (w := w) t o.type e i z h1 h2 hz (so := none) (xo := xo) (sLen := 0) (sCap := 0) (m := m) (c := c) (olds := []) (by simp [Builtin.firstCells]) (hfn w.drew rfl) (by omega) (by omega) (by simpa using hb2)
        rw [← hp, ← hpy] at hr
        have hmax : 0 + m ≤ maxLen := by simp only [maxLen]; omega
        have hge := grownCap_ge w (0 + m) 0 e
        have hcm := grownCap_le_maxLen w (0 + m) 0 e hmax
        have htk := take_grown [] news (Builtin.zeroCells z.cells (grownCap w (0 + m) 0 e - (0 + m)))
        have hsz := size_grown z.cells i.size 0 m (grownCap w (0 + m) 0 e) [] news (by simp) (by rw [← hnr.1]; exact hxl) h3 hge
        generalize hA : (([] : List Value).toArray ++ news.toArray ++ Builtin.zeroCells z.cells (grownCap w (0 + m) 0 e - (0 + m))) = A at hr htk hsz
        have hs' : Sim M h w.drew := hs.of_heap rfl
        obtain ⟨hpost, henv⟩ := alloc_row (n := n) (e := e) (arr := A) (cap := grownCap w (0 + m) 0 e) (ds := xs) (sz := i.size) hs' hn (by
          have hl : xs.length = ([] ++ news : List Value).length := by simp [hnr.1]
          rw [hl, htk]; simpa using hnr) (by
          have := congrArg List.length htk
          have h9 := hnr.1
          simp at this ⊢; omega) hsz hcm
        refine ⟨_, _, _, _, _, .inl (exec_append t x y hop hr), (Post.of_heap (w' := w.drew) hs hn rfl rfl rfl rfl).trans hpost, henv, ?_, hk⟩
        have := RepV.own (M := M.setMu h.length ⟨some w.heap.size, grownCap w (0 + m) 0 e, 0⟩) h.length 0 (0 + m) _ _ _ (Mem.setMu_same _ _ _) (Nat.le_refl _) hge hcm (fun _ => ⟨rfl, rfl⟩)
        simpa using this
    · exact hk.elim
theorem run_append_in (t ty e : TypeId) (i : TypeInfo) (ht : P.underlying t = some (.slice e)) (hi : P.info? e = some i) {g sLen sCap m c : Nat} {cur : Array Value} {xo : Option Addr} {news : List Value}
    (hg : w.heap[g]? = some (.cells cur e (0, 0))) (hfn : (Builtin.firstCells i.size m (.slice xo m c)).run P w = .ok news.toArray w) (h1 : ∀ u ∈ news, u.oneCell' = true)
    (hroom : sLen + m ≤ sCap) (hfit : sLen * i.size + news.length ≤ cur.size) :
    (Builtin.append_ #[t, t] ty #[.slice (some ⟨g, 0, none⟩) sLen sCap, .slice xo m c]).run P w =
      .ok (.slice (some ⟨g, 0, none⟩) (sLen + m) sCap) (w.setRow g (putAt cur.toList (sLen * i.size) news).toArray) := by
  have hst := run_storeCells_at (P := P) g (sLen * i.size) e news 0 cur w hg (by simpa using hfit) h1
  simp only [Nat.add_zero] at hst
  simp [Builtin.append_, run_underlying ht, sizeOf, typeInfo, hi, Builtin.lenOf, hroom, hfn, Addr.add_lit, hst, putAt]
theorem snd_append_own (t e : TypeId) (i : TypeInfo) (x y : Operand) (hop : o.op = .call { callee := .builtin .append, args := #[x, y], argTypes := #[t, t] })
    (h1 : P.underlying t = some (.slice e)) (h2 : P.info? e = some i) (h3 : (i.zero.map fun z => z.cells.size) = some i.size) (h4 : 0 < i.size)
    (hx : RepV M (ρV x) (ρ x)) (hy : RepV M (ρV y) (ρ y)) (hs : Sim M h w) (hn : n ≤ h.length)
    {id g len m : Nat} {ds xs : List D} (hxv : ρV x = .own id g len) (hid : h[id]? = some (some (.row e i.size g ds))) (hdl : ds.length = len * i.size)
    (hc : conts h (ρV y) = some (m, xs)) (hxl : xs.length = m * i.size) (hb1 : len + m ≤ 140737488355328) (hb2 : (len + m) * i.bytes ≤ 140737488355328)
    (hk : K (.own id (g + 1) (len + m)) (h.set id (some (.row e i.size (g + 1) (ds ++ xs))))) : Out n M h w K ((execOp ρ o).run P w) := by
  cases hz : i.zero with
  | none => rw [hz] at h3; cases h3
  | some z =>
    rw [hz] at h3
    have h3 : z.cells.size = i.size := by simpa using h3
    obtain ⟨xo, c, news, hpy, hnr, hfn, hn1⟩ := conts_rep (P := P) (sz := i.size) hs hy hc hxl
    rw [hpy] at hfn
    rw [hxv] at hx
    obtain ⟨so, cap, olds, hpx, hor, hfo, ho1⟩ := conts_rep (P := P) (sz := i.size) hs hx (by simp [conts, hid] : conts h (.own id g len) = some (len, ds)) hdl
    rw [hpx] at hfo
    obtain ⟨r, ao', cap', hr, hgr, hp2, hle, hmx, hv⟩ := hx.ownI
    rw [hpx] at hp2
    simp only [Value.slice.injEq] at hp2
    obtain ⟨rfl, _, rfl⟩ := hp2
    obtain ⟨r', hr', hat⟩ := hs.blks id _ hid
    rw [hr] at hr'; cases hr'
    have hgen : r.gen = g := hat.1
    obtain ⟨hso, hcap⟩ := hv hgen
    have hmax : len + m ≤ maxLen := by simp only [maxLen]; omega
    have hrep : ∀ {M'}, MuLe M M' → M'.ro = M.ro → ∀ x u, RepV M x u → RepV M' x u := fun hle he x u hx => hx.mono (fun _ _ _ h => by rw [he]; exact h) hle
    have hbump : ∀ r' : Ref, r.gen < r'.gen → MuLe M (M.setMu id r') := fun r' hlt => MuLe.setMu (fun r0 h => by rw [hr] at h; cases h; exact hlt)
    by_cases hroom : len + m ≤ cap
    · by_cases hnil : r.blk = none
      · -- a nil row, and nothing new
        have hcz : r.cap = 0 := by
          rcases hat.2 with ⟨_, _, h0⟩ | ⟨b, _, e1, _⟩
          · exact h0
          · rw [hnil] at e1; cases e1
        have hm0 : m = 0 := by omega
        have hl0 : len = 0 := by omega
        subst hm0 hl0
        obtain rfl : xs = [] := List.eq_nil_of_length_eq_zero (by simpa using hxl)
        obtain rfl : ds = [] := List.eq_nil_of_length_eq_zero (by simpa using hdl)
        obtain rfl : news = [] := List.eq_nil_of_length_eq_zero (by rw [← hnr.1]; rfl)
        have hrun := run_append_zero (P := P) (w := w) t o.type e i h1 h2 (so := so) (xo := xo) (sLen := 0) (sCap := cap) (c := c) (by omega) (hfn w rfl)
        rw [← hpx, ← hpy] at hrun
        refine ⟨_, w, M.setMu id ⟨none, 0, g + 1⟩, _, _, .inl (exec_append t x y hop hrun), bump_block (r' := ⟨none, 0, g + 1⟩) (blk := .row e i.size (g + 1) []) hs hn hid hr (by show r.gen < g + 1; omega) (fun b h => by cases h) (Nat.le_refl _) (fun _ _ _ => rfl) rfl rfl rfl ⟨rfl, .inl ⟨rfl, rfl, rfl⟩⟩,
          hrep (hbump _ (by show r.gen < g + 1; omega)) rfl, ?_, by simpa using hk⟩
        rw [hpx]
        exact .own _ _ _ ⟨none, 0, g + 1⟩ _ _ (Mem.setMu_same _ _ _) (Nat.le_refl _) hroom hmx (fun _ => ⟨by rw [hso, hnil], by rw [hcap, hcz]⟩)
      · -- within the capacity
        rcases hat.2 with ⟨_, h0, _⟩ | ⟨b, arr, e1, e2, e3, e4, e5, e6⟩
        · exact absurd h0 hnil
        rw [e1] at hso
        have hso' : so = some ⟨b, 0, none⟩ := hso
        subst hso'
        have hfit : len * i.size + news.length ≤ arr.size := by
          rw [← hnr.1, hxl, e3, ← hcap, ← Nat.add_mul]
          exact Nat.mul_le_mul_right _ hroom
        have hrun := run_append_in (P := P) (w := w) t o.type e i h1 h2 (sLen := len) (sCap := cap) e2 (hfn w rfl) hn1 hroom hfit
        rw [← hpx, ← hpy] at hrun
        have hpl : (putAt arr.toList (len * i.size) news).length = arr.size := by rw [putAt_len _ _ _ (by simpa using hfit)]; simp
        have htk : (putAt arr.toList (len * i.size) news).take (ds ++ xs).length = arr.toList.take ds.length ++ news := by
          have hnl := hnr.1
          apply List.ext_getElem?
          intro k
          rw [List.getElem?_take, putAt_get _ _ _ (by simpa using hfit), ← hdl]
          by_cases hk1 : k < ds.length
          · rw [List.getElem?_append_left (by simp; omega), List.getElem?_take]
            simp only [hk1, if_true, List.length_append]
            rw [if_pos (by omega)]
          · rw [List.getElem?_append_right (by simp; omega)]
            have h8 : (arr.toList.take ds.length).length = ds.length := by simp; omega
            rw [h8]
            by_cases hk2 : k < (ds ++ xs).length
            · simp only [hk2, if_true, hk1, if_false]
              rw [if_pos (by simp at hk2; omega)]
            · simp only [hk2, if_false]
              rw [List.getElem?_eq_none (by simp at hk2; omega)]
        refine ⟨_, _, M.setMu id ⟨some b, cap, g + 1⟩, _, _, .inl (exec_append t x y hop hrun),
          bump_block (r' := ⟨some b, cap, g + 1⟩) (blk := .row e i.size (g + 1) (ds ++ xs)) hs hn hid hr (by show r.gen < g + 1; omega) (fun b' h => by cases h; exact .inl e1) (by simp [World.setRow]) (fun k _ hk => setRow_other _ _ _ _ (fun h => hk (by rw [e1, h]))) rfl rfl rfl
            ⟨rfl, .inr ⟨b, _, rfl, setRow_heap _ _ _ _ _ _ e2, by simp only [List.size_toArray, hpl]; rw [e3, hcap], by simp only; rw [hcap]; exact e4, by simp only [List.size_toArray, hpl, List.length_append, hdl, hnr.1]; exact hfit, by
              simp only [List.toList_toArray]
              rw [htk]
              exact e6.append hnr⟩⟩,
          hrep (hbump _ (by show r.gen < g + 1; omega)) rfl, ?_, hk⟩
        exact .own _ _ _ ⟨some b, cap, g + 1⟩ _ _ (Mem.setMu_same _ _ _) (Nat.le_refl _) hroom hmx (fun _ => ⟨rfl, rfl⟩)
    · -- a new array
      have hrun := run_append_re (P := P) (w := w) t o.type e i z h1 h2 hz (so := so) (xo := xo) (sLen := len) (sCap := cap) (m := m) (c := c) (hfo w.drew rfl) (hfn w.drew rfl) (by omega) hb1 hb2
      rw [← hpx, ← hpy] at hrun
      have hge := grownCap_ge w (len + m) cap e
      have hcm := grownCap_le_maxLen w (len + m) cap e hmax
      have htk := take_grown olds news (Builtin.zeroCells z.cells (grownCap w (len + m) cap e - (len + m)))
      have hsz := size_grown z.cells i.size len m (grownCap w (len + m) cap e) olds news (by rw [← hor.1]; exact hdl) (by rw [← hnr.1]; exact hxl) h3 hge
      have hall := hor.append hnr
      generalize hA : (olds.toArray ++ news.toArray ++ Builtin.zeroCells z.cells (grownCap w (len + m) cap e - (len + m))) = A at hrun htk hsz
      have hs' : Sim M h w.drew := hs.of_heap rfl
      refine ⟨_, _, M.setMu id ⟨some w.heap.size, grownCap w (len + m) cap e, g + 1⟩, _, _, .inl (exec_append t x y hop hrun),
        (Post.of_heap (w' := w.drew) hs hn rfl rfl rfl rfl).trans (bump_block (r' := ⟨some w.heap.size, grownCap w (len + m) cap e, g + 1⟩) (blk := .row e i.size (g + 1) (ds ++ xs)) hs' hn hid hr (by show r.gen < g + 1; omega)
          (fun b' h => by cases h; exact .inr (Nat.le_refl _)) (by simp) (fun k hk _ => heap_alloc_old w.drew _ hk) rfl rfl rfl
          ⟨rfl, .inr ⟨w.heap.size, A, rfl, heap_alloc_new w.drew _, hsz, hcm, ?_, ?_⟩⟩),
        hrep (hbump _ (by show r.gen < g + 1; omega)) rfl, .own _ _ _ _ _ _ (Mem.setMu_same _ _ _) (Nat.le_refl _) hge hcm (fun _ => ⟨rfl, rfl⟩), hk⟩
      · have h8 := congrArg List.length htk
        have h9 := hall.1
        simp only [List.length_take, Array.length_toList] at h8
        omega
      · rw [hall.1, htk]; exact hall
end
end Go.Proofs.Ytdnefcjbcieecaa
namespace Go.Proofs.Ytdnefcjbcieecaa
open Go
theorem map_some2 {α β : Type} {x : Option α} {f : α → β} {b : β} (h : x.map f = some b) : ∃ a, x = some a ∧ f a = b := by
  cases x with
  | none => cases h
  | some a => exact ⟨a, rfl, by simpa using h⟩
theorem matchS_val {ro : Nat → Nat → Option Value} {s : SK} {x : D} {u : Value} (hm : matchS s x = true) (h : RepD ro x u) : u = valD x := by
  cases h <;> first | rfl | (cases s <;> simp [matchS] at hm)
theorem matchSs_vals {M : Mem} : ∀ {sh : List SK} {ds : List D} {us : List Value}, matchSs sh ds = true → RepDs M ds us → us = ds.map valD
  | [], [], us, _, h => by
    have := h.1
    exact List.eq_nil_of_length_eq_zero (by simpa using this.symm)
  | s :: sh, d :: ds, us, hm, h => by
    simp only [matchSs, Bool.and_eq_true] at hm
    cases us with
    | nil => have := h.1; simp at this
    | cons u us =>
      have h1 := matchS_val hm.1 (h.2 0 d u rfl rfl)
      have h2 := matchSs_vals (us := us) hm.2 ⟨by simpa using h.1, fun k x c hx hc => h.2 (k + 1) x c (by simpa using hx) (by simpa using hc)⟩
      rw [h1, h2]; rfl
  | [], _ :: _, _, hm, _ => by cases hm
  | _ :: _, [], _, hm, _ => by cases hm
section
variable {P : Program} {n : Nat} {o : Oper} {ρV : Operand → V} {ρ : Operand → Value} {M : Mem} {h : Heap} {w : World} {K : V → Heap → Prop}
theorem keyD_val {T : TypeId} {sh : List SK} {v : V} {u : Value} {ds : List D} (hk : keyD (aggT P T) v = some ds) (hm : matchSs sh ds = true) (h : RepV M v u) : u = wrapT P T (ds.map valD) := by
  unfold keyD at hk
  split at hk
  · rename_i cs ha
    obtain ⟨arr, rfl, hr⟩ := h.aggI
    have hrep := toDs_rep hr hk
    simp only [wrapT, ha, if_true]
    rw [matchSs_vals hm hrep]
  · rename_i x ha
    cases hk
    have hr := h.dI
    cases sh with
    | nil => cases hm
    | cons s sh =>
      simp only [matchSs, Bool.and_eq_true] at hm
      simp [wrapT, ha, matchS_val hm.1 hr]
  · cases hk
theorem run_equalS {T : TypeId} {sh : List SK} (hs : shapeOf P 8 T = some sh) {ds es : List D} (h1 : matchSs sh ds = true) (h2 : matchSs sh es = true) :
    (Op.equalIn 10000 T (wrapT P T (ds.map valD)) (wrapT P T (es.map valD))).run P w = .ok (eqDs ds es) w :=
  (run_eqS w 8 9992 T sh hs ds es h1 h2).2.2
theorem snd_eqA (op : BinOp) (T T' : TypeId) (x y : Operand) (c : COp) (hop : o.op = .binOp op T x y T') (ha : aggT P T = true) (hc : eqAOf P op T x y = some c) (hx : RepV M (ρV x) (ρ x)) (hy : RepV M (ρV y) (ρ y)) (hs : Sim M h w) (hn : n ≤ h.length)
    (hk : step c ρV h K) : Out n M h w K ((execOp ρ o).run P w) := by
  unfold eqAOf at hc
  split at hc
  · cases hc
  · rename_i hg
    have hg : P.eqGuardType P.depth T = false := by simpa using hg
    have key : ∀ (neg : Bool) (sh : List SK), shapeOf P 8 T = some sh → step (.eqA neg sh x y) ρV h K →
        ∃ xs ys : Array Value, ∃ r : Bool, ρ x = .agg xs ∧ ρ y = .agg ys ∧ (Op.equalIn 10000 T (.agg xs) (.agg ys)).run P w = .ok r w ∧ K (.d (.bool (if neg then !r else r))) h := by
      intro neg sh hsh hk
      obtain ⟨v, hv, hK⟩ := hk
      unfold evEqA at hv
      split at hv
      · rename_i cs cs' e1 e2
        split at hv
        · rename_i ds es hd1 hd2
          split at hv
          · rename_i hm
            simp only [Bool.and_eq_true] at hm
            cases hv
            rw [e1] at hx
            rw [e2] at hy
            obtain ⟨a1, hp1, hr1⟩ := hx.aggI
            obtain ⟨a2, hp2, hr2⟩ := hy.aggI
            have h1 := matchSs_vals hm.1 (toDs_rep hr1 hd1)
            have h2 := matchSs_vals hm.2 (toDs_rep hr2 hd2)
            have := run_equalS (w := w) hsh hm.1 hm.2
            simp only [wrapT, ha, if_true, ← h1, ← h2] at this
            exact ⟨_, _, _, hp1, hp2, this, hK⟩
          · cases hv
        · cases hv
      · cases hv
    split at hc
    · rename_i sh hsh
      cases hc
      obtain ⟨xs, ys, r, h1, h2, h3, h4⟩ := key false sh hsh hk
      refine Out.pure hs hn (.d _ _ (.bool r)) h4 ?_
      simp only [execOp, hop, h1, h2]
      simp [run_eqGuard_agg w _ T x y xs ys hg, run_eql_struct, h3]
    · rename_i sh hsh
      cases hc
      obtain ⟨xs, ys, r, h1, h2, h3, h4⟩ := key true sh hsh hk
      refine Out.pure hs hn (.d _ _ (.bool (!r))) h4 ?_
      simp only [execOp, hop, h1, h2]
      simp [run_eqGuard_agg w _ T x y xs ys hg, run_neq_struct, h3]
    · cases hc
theorem snd_mkmap (t : TypeId) (hop : o.op = .makeMap t none) (hs : Sim M h w) (hn : n ≤ h.length) (hk : step .mkmap ρV h K) : Out n M h w K ((execOp ρ o).run P w) := by
  have hml := hs.mu_len
  have hp : Post n M h w (M.setMu h.length ⟨some w.heap.size, 0, 0⟩) (h ++ [some (.map [])]) (w.alloc (.map #[] 0)) := by
    refine new_block (blk := .map []) (o := .map #[] 0) hs (by simp; omega) hml (by simp) (fun j x hj hx => ?_) (by simp) rfl rfl rfl rfl ⟨rfl, _, #[], 0, rfl, by show (w.heap.push _)[w.heap.size]? = _; simp, rfl, fun k e x he => by simp at he⟩
    rcases Nat.lt_or_ge j h.length with hl | hl
    · rwa [List.getElem?_append_left hl] at hx
    · rw [List.getElem?_append_right hl] at hx
      cases hd : j - h.length with
      | zero => omega
      | succ m => rw [hd] at hx; simp at hx
  refine ⟨.map (some w.heap.size), _, _, _, _, .inl ?_, hp, fun x u hx => hx.setMu (fun r0 h => by rw [hml] at h; cases h), .mp _ _ _ (Mem.setMu_same _ _ _) (fun _ => rfl), hk⟩
  simp [execOp, hop, Instr.makeMap]
theorem run_findS {T : TypeId} {sh : List SK} (hsh : shapeOf P 8 T = some sh) {ds : List D} (hm : matchSs sh ds = true) : ∀ (es : List (V × V)) (xs : List MapEntry) (i : Nat) (r : Option Nat),
    es.length = xs.length → (∀ (k : Nat) e x, es[k]? = some e → xs[k]? = some x → RepV M e.1 x.key ∧ RepV M e.2 x.val) → findE (aggT P T) sh ds es i = some r →
    ((∀ kd, P.underlying T = some kd → (Instr.findNow kd (wrapT P T (ds.map valD)) xs i = none ∧ aggT P T = true) ∨ Instr.findNow kd (wrapT P T (ds.map valD)) xs i = some (r.bind fun j => (xs[j - i]?).map fun x => (j, x.val)))) ∧
    (Instr.findAsking T (wrapT P T (ds.map valD)) xs i).run P w = .ok (r.bind fun j => (xs[j - i]?).map fun x => (j, x.val)) w ∧ (∀ j, r = some j → i ≤ j ∧ j - i < xs.length ∧ ∃ x, xs[j - i]? = some x ∧ x.key = wrapT P T (ds.map valD))
  | [], xs, i, r, hl, hrep, hf => by
    obtain rfl : xs = [] := List.eq_nil_of_length_eq_zero (by simpa using hl.symm)
    cases hf
    exact ⟨fun kd _ => .inr rfl, by simp [Instr.findAsking], fun j h => by cases h⟩
  | e :: es, xs, i, r, hl, hrep, hf => by
    cases xs with
    | nil => simp at hl
    | cons x xs =>
      have hx := (hrep 0 e x rfl rfl).1
      unfold findE at hf
      split at hf
      · rename_i ds' hk
        split at hf
        · rename_i hm'
          have hkey := keyD_val (P := P) (T := T) hk hm' hx
          have heq := run_equalS (w := w) (P := P) hsh hm hm'
          have heqn : ∀ kd, P.underlying T = some kd → (Instr.sameNow kd (wrapT P T (ds.map valD)) x.key = none ∧ aggT P T = true) ∨ Instr.sameNow kd (wrapT P T (ds.map valD)) x.key = some (eqDs ds ds') := by
            intro kd hkd
            rw [hkey]
            have hag : ∀ {b}, aggT P T = b → aggT P T = b := id
            unfold shapeOf at hsh
            rw [hkd] at hsh
            have scal : ∀ k, matchSs [k] ds = true → matchSs [k] ds' = true → ∃ a b, ds = [a] ∧ ds' = [b] ∧ matchS k a = true ∧ matchS k b = true := by
              intro k h1 h2
              cases ds with
              | nil => cases h1
              | cons a ds =>
                cases ds with
                | cons _ _ => simp [matchSs] at h1
                | nil =>
                  cases ds' with
                  | nil => cases h2
                  | cons b es =>
                    cases es with
                    | cons _ _ => simp [matchSs] at h2
                    | nil => exact ⟨a, b, rfl, rfl, by simpa [matchSs] using h1, by simpa [matchSs] using h2⟩
            split at hsh
            · rename_i e1; cases e1; cases hsh
              obtain ⟨a, b, rfl, rfl, k1, k2⟩ := scal _ hm hm'
              have ha : aggT P T = false := by simp [aggT, hkd]
              cases a <;> simp [matchS] at k1
              cases b <;> simp [matchS] at k2
              right; simp [wrapT, ha, valD, Instr.sameNow, eqDs, eqD]
            · rename_i k e1; cases e1; cases hsh
              obtain ⟨a, b, rfl, rfl, k1, k2⟩ := scal _ hm hm'
              have ha : aggT P T = false := by simp [aggT, hkd]
              cases a <;> simp [matchS] at k1
              cases b <;> simp [matchS] at k2
              subst k1 k2
              right; simp [wrapT, ha, valD, Instr.sameNow, eqDs, eqD]
            · rename_i e1; cases e1; cases hsh
              obtain ⟨a, b, rfl, rfl, k1, k2⟩ := scal _ hm hm'
              have ha : aggT P T = false := by simp [aggT, hkd]
              cases a <;> simp [matchS] at k1
              cases b <;> simp [matchS] at k2
              right; simp [wrapT, ha, valD, Instr.sameNow, eqDs, eqD, beq_toListBytes, ByteArray.toList_eq]
            · rename_i e1; cases e1
              exact .inl ⟨by simp [Instr.sameNow], by simp [aggT, hkd]⟩
            · rename_i e1; cases e1
              exact .inl ⟨by simp [Instr.sameNow], by simp [aggT, hkd]⟩
            · cases hsh
          have hask : (Op.equal T (wrapT P T (ds.map valD)) x.key).run P w = .ok (eqDs ds ds') w := by rw [hkey]; exact heq
          split at hf
          · rename_i he
            cases hf
            refine ⟨fun kd hkd => ?_, ?_, fun j hj => ?_⟩
            · rcases heqn kd hkd with ⟨h1, h2⟩ | h1
              · exact .inl ⟨by simp [Instr.findNow, h1], h2⟩
              · right; simp [Instr.findNow, h1, he]
            · simp [Instr.findAsking, hask, he]
            · cases hj
              refine ⟨Nat.le_refl _, by simp, x, by simp, ?_⟩
              rw [hkey]
              have hval : ∀ (sh : List SK) (as bs : List D), matchSs sh as = true → matchSs sh bs = true → eqDs as bs = true → as = bs := by
                intro sh
                induction sh with
                | nil => intro as bs h1 h2 _; cases as <;> cases bs <;> simp_all [matchSs]
                | cons s sh ih =>
                  intro as bs h1 h2 h3
                  cases as with
                  | nil => cases h1
                  | cons a as =>
                    cases bs with
                    | nil => cases h2
                    | cons b bs =>
                      simp only [matchSs, eqDs, Bool.and_eq_true] at h1 h2 h3
                      rw [ih as bs h1.2 h2.2 h3.2]
                      congr 1
                      cases s <;> cases a <;> simp [matchS] at h1 <;> cases b <;> simp_all [matchS, eqD]
              rw [hval sh ds ds' hm hm' he]
          · rename_i he
            have he : eqDs ds ds' = false := by simpa using he
            obtain ⟨h1, h2, h3⟩ := run_findS hsh hm es xs (i + 1) r (by simpa using hl) (fun k a b ha hb => hrep (k + 1) a b (by simpa using ha) (by simpa using hb)) hf
            have hshift : ∀ j, r = some j → (x :: xs)[j - i]? = xs[j - (i + 1)]? := fun j hj => by
              have := (h3 j hj).1
              rw [show j - i = (j - (i + 1)) + 1 by omega, List.getElem?_cons_succ]
            have hb : (r.bind fun j => ((x :: xs)[j - i]?).map fun x => (j, x.val)) = (r.bind fun j => (xs[j - (i + 1)]?).map fun x => (j, x.val)) := by
              cases r with
              | none => rfl
              | some j => simp only [Option.bind_some]; rw [hshift j rfl]
            refine ⟨fun kd hkd => ?_, ?_, fun j hj => ?_⟩
            · rcases heqn kd hkd with ⟨h4, h5⟩ | h4
              · exact .inl ⟨by simp [Instr.findNow, h4], h5⟩
              · rcases h1 kd hkd with ⟨h6, h7⟩ | h6
                · exact .inl ⟨by simp [Instr.findNow, h4, he, h6], h7⟩
                · right; rw [hb]; simp [Instr.findNow, h4, he, h6]
            · rw [hb]; simp [Instr.findAsking, hask, he, h2]
            · obtain ⟨k1, k2, y, k3, k4⟩ := h3 j hj
              refine ⟨by omega, ?_, y, by rw [hshift j hj]; exact k3, k4⟩
              simp only [List.length_cons]; omega
        · cases hf
      · cases hf
theorem run_findKeyS {T : TypeId} {sh : List SK} (hsh : shapeOf P 8 T = some sh) {ds : List D} (hm : matchSs sh ds = true) {es : List (V × V)} {arr : Array MapEntry} {r : Option Nat} (hent : EntsAt M es arr) (hf : findE (aggT P T) sh ds es 0 = some r) :
    (Instr.findKey T (wrapT P T (ds.map valD)) arr.toList).run P w = .ok (r.bind fun j => (arr[j]?).map fun x => (j, x.val)) w ∧ (∀ j, r = some j → ∃ x, arr[j]? = some x ∧ x.key = wrapT P T (ds.map valD)) := by
  obtain ⟨h1, h2, h3⟩ := run_findS (w := w) hsh hm es arr.toList 0 r (by simpa using hent.1) (fun k e x he hx => hent.2 k e x he (by simpa using hx)) hf
  obtain ⟨kd, hkd⟩ := (run_eqS w 8 0 T sh hsh ds ds hm hm).2.1
  refine ⟨?_, fun j hj => ?_⟩
  · unfold Instr.findKey
    simp only [Sem.run_bind, run_underlying hkd, Result.andThen_ok]
    rcases h1 kd hkd with ⟨h4, _⟩ | h4
    · rw [h4]; simpa using h2
    · rw [h4]; simp
  · obtain ⟨_, _, x, hx, hk⟩ := h3 j hj
    exact ⟨x, by simpa using hx, hk⟩
theorem mapAt (hs : Sim M h w) {id : Nat} {es : List (V × V)} {u : Value} (hi : h[id]? = some (some (.map es))) (hv : RepV M (.mp id) u) :
    ∃ b arr clock r, u = .map (some b) ∧ M.mu id = some r ∧ r.blk = some b ∧ r.gen = 0 ∧ w.heap[b]? = some (.map arr clock) ∧ EntsAt M es arr := by
  obtain ⟨r, hr, h0, b, arr, clk, hb, hw, he⟩ := hs.blks id _ hi
  cases hv with
  | mp _ r' b' h1 h2 =>
    rw [hr] at h1; cases h1
    rw [h2 h0] at hb; cases hb
    exact ⟨_, arr, clk, r, rfl, hr, h2 h0, h0, hw, he⟩
theorem snd_lookup (t kt et : TypeId) (x k : Operand) (ok : Bool) (sh : List SK) (z : Value) (hop : o.op = .lookup t x k ok) (hu : P.underlying t = some (.map kt et)) (hsh : shapeOf P 8 kt = some sh) (hz : (P.info? et).bind (·.zero) = some z)
    (hx : RepV M (ρV x) (ρ x)) (hky : RepV M (ρV k) (ρ k)) (hs : Sim M h w) (hn : n ≤ h.length)
    (hk : step (.lookup (aggT P kt) sh (constV z) ok x k) ρV h K) : Out n M h w K ((execOp ρ o).run P w) := by
  obtain ⟨v, hv, hK⟩ := hk
  unfold evLk at hv
  split at hv
  · rename_i id e1
    split at hv
    · rename_i es ds hi hd
      split at hv
      · rename_i hm
        rw [e1] at hx
        obtain ⟨b, arr, clk, r, hxe, _, _, _, hw, hent⟩ := mapAt hs hi hx
        have hkv := keyD_val (P := P) (T := kt) hd hm hky
        have hck : (Instr.checkKey arr.toList.isEmpty 10000 kt (wrapT P kt (ds.map valD))).run P w = .ok () w := run_checkS w _ 8 9992 kt sh hsh ds hm
        have hzv : (zeroValue et).run P w = .ok z w := by
          cases hi2 : P.info? et with
          | none => rw [hi2] at hz; cases hz
          | some i2 => rw [hi2] at hz; simp only [Option.bind_some] at hz; simp [zeroValue, typeInfo, hi2, hz]
        have fin : ∀ (fv : Option (Nat × Value)) (v' : V) (u : Value) (bb : Bool), (Instr.findKey kt (wrapT P kt (ds.map valD)) arr.toList).run P w = .ok fv w →
            (match fv with | some (_, v) => (v, true) | none => (z, false)) = (u, bb) → RepV M v' u → K (okV ok v' bb) h → Out n M h w K ((execOp ρ o).run P w) := by
          intro fv v' u bb hfk hres hrep hK
          have hrun : (execOp ρ o).run P w = .ok (.value (if ok then .tuple #[u, .bool bb] else u)) w := by
            have hck' := hck
            simp only [execOp, hop, Instr.lookup, hxe, hkv]
            simp only [Sem.run_bind, run_underlying hu, Result.andThen_ok, Go.MapKept.run_getObj_map hw, Sem.run_pure]
            have e2 : arr.isEmpty = arr.toList.isEmpty := by cases arr; simp
            rw [e2, hck]
            simp only [Result.andThen_ok, hfk]
            cases fv with
            | none => cases hres; simp [hzv]
            | some q => obtain ⟨j, uu⟩ := q; cases hres; simp
          refine Out.pure hs hn ?_ hK hrun
          unfold okV
          cases ok with
          | false => exact hrep
          | true =>
            refine .tup _ [u, .bool bb] rfl (fun k a c ha hc => ?_)
            cases k with
            | zero => cases ha; cases hc; exact hrep
            | succ k =>
              cases k with
              | zero => cases ha; cases hc; exact .d _ _ (.bool bb)
              | succ k => simp at ha
        split at hv
        · rename_i j hj
          obtain ⟨e, he, rfl⟩ := map_some2 hv
          obtain ⟨h1, h2⟩ := run_findKeyS (w := w) hsh hm hent hj
          obtain ⟨y, hy, _⟩ := h2 j rfl
          simp only [Option.bind_some, hy, Option.map_some] at h1
          exact fin _ _ _ true h1 rfl (hent.2 j e y he hy).2 hK
        · rename_i hj
          cases hv
          obtain ⟨h1, _⟩ := run_findKeyS (w := w) hsh hm hent hj
          exact fin none _ z false h1 rfl (constV_rep M z) hK
        · cases hv
      · cases hv
    · cases hv
  · cases hv
theorem sameBits_vals : ∀ (sh : List SK) (ds : List D), matchSs sh ds = true → ∀ (m : Nat), ((ds.map valD).zip (ds.map valD)).all (fun (x, y) => Instr.sameBits m x y) = true
  | [], [], _, _ => rfl
  | s :: sh, d :: ds, h, m => by
    simp only [matchSs, Bool.and_eq_true] at h
    have := sameBits_vals sh ds h.2 m
    simp only [List.map_cons, List.zip_cons_cons, List.all_cons, this, Bool.and_true]
    cases s <;> cases d <;> simp [matchS] at h <;> simp [valD, Instr.sameBits, beq_toListBytes]
  | [], _ :: _, h, _ => by cases h
  | _ :: _, [], h, _ => by cases h
theorem run_keyStays {T : TypeId} {sh : List SK} (hsh : shapeOf P 8 T = some sh) {ds : List D} (hm : matchSs sh ds = true) : (Instr.keyThatStays (wrapT P T (ds.map valD)) (wrapT P T (ds.map valD))).run P w = .ok (wrapT P T (ds.map valD)) w := by
  have : Instr.sameBits 10000 (wrapT P T (ds.map valD)) (wrapT P T (ds.map valD)) = true := by
    unfold wrapT
    cases ha : aggT P T with
    | true =>
      have := sameBits_vals sh ds hm 9999
      simp only [if_true, Instr.sameBits, Bool.and_eq_true]
      exact ⟨by simp, by simpa using this⟩
    | false =>
      have h1 := (run_eqS w 8 0 T sh hsh ds ds hm hm).1 ha
      have h2 := matchSs_len hm
      rw [h1] at h2
      cases ds with
      | nil => simp at h2
      | cons d ds =>
        cases ds with
        | cons _ _ => simp at h2
        | nil =>
          have := sameBits_vals sh [d] hm 10000
          simpa using this
  simp [Instr.keyThatStays, this]
theorem snd_mupd (t kt et : TypeId) (x k v : Operand) (sh : List SK) (hop : o.op = .mapUpdate t x k v ∨ o.op = .insert t x k v) (hu : P.underlying t = some (.map kt et)) (hsh : shapeOf P 8 kt = some sh)
    (hx : RepV M (ρV x) (ρ x)) (hky : RepV M (ρV k) (ρ k)) (hvl : RepV M (ρV v) (ρ v)) (hs : Sim M h w) (hn : n ≤ h.length)
    (hk : step (.mupd (aggT P kt) sh x k v) ρV h K) : Out n M h w K ((execOp ρ o).run P w) := by
  obtain ⟨h', hv, hK⟩ := hk
  unfold evUp at hv
  split at hv
  · rename_i id e1
    split at hv
    · rename_i es ds hi hd
      split at hv
      · rename_i hm
        rw [e1] at hx
        obtain ⟨b, arr, clk, r, hxe, hr, hb, h0, hw, hent⟩ := mapAt hs hi hx
        have hkv := keyD_val (P := P) (T := kt) hd hm hky
        have hck : (Instr.checkKey false 10000 kt (wrapT P kt (ds.map valD))).run P w = .ok () w := run_checkS w _ 8 9992 kt sh hsh ds hm
        have hlt := (Array.getElem?_eq_some_iff.1 hw).1
        have hpost : ∀ (es' : List (V × V)) (arr' : Array MapEntry) (clk' : Nat), EntsAt M es' arr' → Post n M h w M (h.set id (some (.map es'))) { w with heap := w.heap.setIfInBounds b (.map arr' clk') } := by
          intro es' arr' clk' he
          refine upd_block hs hn hi hr hb (by simp) (fun j hj => by simp [Array.getElem?_setIfInBounds_ne (Ne.symm hj)]) rfl rfl rfl ⟨h0, b, arr', clk', hb, by simp [hlt], he⟩
        have fin : ∀ (w' : World), (Instr.mapUpdate t (.map (some b)) (wrapT P kt (ds.map valD)) (ρ v)).run P w = .ok () w' → (execOp ρ o).run P w = .ok .skip w' := by
          intro w' hr
          rcases hop with hop | hop <;> simp [execOp, hop, hxe, hkv, hr]
        split at hv
        · rename_i j hj
          cases hv
          obtain ⟨h1, h2⟩ := run_findKeyS (w := w) hsh hm hent hj
          obtain ⟨y, hy, hyk⟩ := h2 j rfl
          simp only [Option.bind_some, hy, Option.map_some] at h1
          refine ⟨undef, _, M, .any, _, .inr ⟨fin _ ?_, rfl⟩, hpost _ (arr.modify j fun e => { e with key := wrapT P kt (ds.map valD), val := ρ v }) clk ⟨by simpa using hent.1, fun i e x he hx => ?_⟩, fun _ _ h => h, .any _, hK⟩
          · simp only [Instr.mapUpdate, Sem.run_bind, run_underlying hu, Result.andThen_ok, Go.MapKept.run_getObj_map hw, hck, h1, hy, Option.map_some, Option.getD_some, hyk, run_keyStays hsh hm]
            exact Go.MapKept.run_setObj_map _ hw
          · by_cases hij : j = i
            · subst hij
              rw [List.getElem?_set] at he
              simp only [if_true] at he
              split at he
              · cases he
                rw [Array.getElem?_modify, if_pos rfl, hy] at hx
                cases hx
                exact ⟨by rw [← hkv]; exact hky, hvl⟩
              · cases he
            · rw [List.getElem?_set_ne hij] at he
              rw [Array.getElem?_modify, if_neg hij] at hx
              exact hent.2 i e x he hx
        · rename_i hj
          cases hv
          obtain ⟨h1, _⟩ := run_findKeyS (w := w) hsh hm hent hj
          refine ⟨undef, _, M, .any, _, .inr ⟨fin _ ?_, rfl⟩, hpost _ (arr.push { key := wrapT P kt (ds.map valD), val := ρ v, born := clk }) (clk + 1) ⟨by simp [hent.1], fun i e x he hx => ?_⟩, fun _ _ h => h, .any _, hK⟩
          · simp only [Instr.mapUpdate, Sem.run_bind, run_underlying hu, Result.andThen_ok, Go.MapKept.run_getObj_map hw, hck, h1, Option.bind_none]
            exact Go.MapKept.run_setObj_map _ hw
          · rcases Nat.lt_or_ge i es.length with hl | hl
            · rw [List.getElem?_append_left hl] at he
              rw [Array.getElem?_push, if_neg (by rw [← hent.1]; omega)] at hx
              exact hent.2 i e x he hx
            · rw [List.getElem?_append_right hl] at he
              cases hd2 : i - es.length with
              | zero =>
                rw [hd2] at he
                cases he
                have : i = arr.size := by rw [← hent.1]; omega
                rw [Array.getElem?_push, if_pos this] at hx
                cases hx
                exact ⟨by rw [← hkv]; exact hky, hvl⟩
              | succ q => rw [hd2] at he; simp at he
        · cases hv
      · cases hv
    · cases hv
  · cases hv
theorem snd_mkslice (t e : TypeId) (l c : Operand) (i : TypeInfo) (z : List D) (hop : o.op = .makeSlice t l c) (hu : P.underlying t = some (.slice e)) (hi : P.info? e = some i) (hz : zeroCells? P e = some z) (hzl : z.length = i.size) (hpos : 0 < i.size)
    (hl : RepV M (ρV l) (ρ l)) (hc : RepV M (ρV c) (ρ c)) (hs : Sim M h w) (hn : n ≤ h.length) (hk : step (.mkslice e i.size i.bytes z l c) ρV h K) : Out n M h w K ((execOp ρ o).run P w) := by
  obtain ⟨⟨v, h'⟩, hv, hK⟩ := hk
  unfold evMk at hv
  split at hv
  · rename_i k1 a k2 b e1 e2
    split at hv
    · rename_i hcnd
      cases hv
      obtain ⟨c1, c2, c3, c4⟩ := hcnd
      rw [e1] at hl
      rw [e2] at hc
      obtain ⟨i', zv, hi', hzv, _, hrep, hone⟩ := zeroCells_spec (M := M) (w := w) hz
      rw [hi] at hi'; cases hi'
      have hb' : (i.bytes : Int) * b ≤ 281474976710656 := by
        have : ((i.bytes * b.toNat : Nat) : Int) ≤ 281474976710656 := by omega
        rw [Int.natCast_mul, Int.toNat_of_nonneg (by omega)] at this
        exact this
      have hrun := run_make (P := P) w t e i zv hu hi hzv k1 k2 a b c1 c2 hb' (by omega)
      have hzs : zv.cells.size = i.size := by have := hrep.1; rw [hzl] at this; simpa using this.symm
      have hsz : (madeCells zv.cells (b.toNat * i.size)).size = b.toNat * i.size := size_madeCells _ _
      have hle : a.toNat * i.size ≤ b.toNat * i.size := Nat.mul_le_mul_right _ (by omega)
      have hab : a.toNat ≤ b.toNat := by omega
      have hbm : b.toNat ≤ maxLen := by simp only [maxLen]; omega
      obtain ⟨hp, henv⟩ := alloc_row (n := n) (e := e) (arr := madeCells zv.cells (b.toNat * i.size)) (cap := b.toNat) (ds := (List.range (a.toNat * i.size)).map fun k => z.getD (k % i.size) .any) (sz := i.size) hs hn (by
        refine ⟨by simp only [List.length_map, List.length_range, List.length_take, Array.length_toList, hsz]; omega, fun k x u hx hu => ?_⟩
        simp only [List.length_map, List.length_range] at hu
        have hk : k < a.toNat * i.size := by have := (List.getElem?_eq_some_iff.1 hx).1; simpa using this
        rw [List.getElem?_map, List.getElem?_range hk] at hx
        cases hx
        rw [List.getElem?_take, if_pos hk] at hu
        have hm : k % i.size < i.size := Nat.mod_lt _ hpos
        have hge : (madeCells zv.cells (b.toNat * i.size)).toList[k]? = some (zv.cells[k % zv.cells.size]!) := by
          simp [madeCells, show k < b.toNat * i.size by omega]
        rw [hge] at hu
        cases hu
        refine hrep.2 (k % i.size) _ _ ?_ ?_
        · have h8 : k % i.size < z.length := by omega
          show z[k % i.size]? = some (z.getD (k % i.size) .any)
          rw [List.getD_eq_getElem?_getD, List.getElem?_eq_getElem h8]; rfl
        · rw [hzs]
          have : k % i.size < zv.cells.size := by omega
          simp [this]) (by simp only [List.length_map, List.length_range, hsz]; omega) hsz hbm
      refine ⟨_, _, _, _, _, .inl ?_, hp, henv, .own h.length 0 a.toNat _ _ _ (Mem.setMu_same _ _ _) (Nat.le_refl _) hab hbm (fun _ => ⟨rfl, rfl⟩), hK⟩
      simp only [execOp, hop, hl.intI, hc.intI]
      simp [hrun]
    · cases hv
  · cases hv
theorem snd_sliceA (t arr e : TypeId) (m : Nat) (x : Operand) (lo hi : Option Operand) (inf : TypeInfo) (hop : o.op = .slice t x lo hi none) (h12 : P.underlying t = some (.array m e) ∨ (P.underlying t = some (.pointer arr) ∧ P.underlying arr = some (.array m e))) (h3 : P.info? e = some inf) (hm : m ≤ 1048576)
    (hρ : ∀ x, RepV M (ρV x) (ρ x)) (hs : Sim M h w) (hn : n ≤ h.length)
    (hk : step (.sliceA m inf.size x lo hi) ρV h K) : Out n M h w K ((execOp ρ o).run P w) := by
  obtain ⟨v, hv, hK⟩ := hk
  unfold evSlA at hv
  split at hv
  · rename_i ds off kl l kt tt e1 e2 e3
    split at hv
    · rename_i hc
      cases hv
      obtain ⟨c1, c2, c3, c4⟩ := hc
      have hx := hρ x
      rw [e1] at hx
      obtain ⟨b, bo, vals, hxe, hro, hrep⟩ := hx.rptrI
      have hlo : ∀ (w : World), lo = none ∧ l = 0 ∨ ∃ y, lo = some y ∧ ρ y = .int kl l := by
        intro w
        cases lo with
        | none => left; simp at e2; exact ⟨rfl, e2.2.symm⟩
        | some y => right; have := hρ y; simp at e2; rw [e2] at this; exact ⟨y, rfl, this.intI⟩
      have hhi : ∀ (w : World), hi = none ∧ tt = m ∨ ∃ y, hi = some y ∧ ρ y = .int kt tt := by
        intro w
        cases hi with
        | none => left; simp at e3; exact ⟨rfl, e3.2.symm⟩
        | some y => right; have := hρ y; simp at e3; rw [e3] at this; exact ⟨y, rfl, this.intI⟩
      have hb : (Instr.sliceBounds false m m (lo.map ρ) (hi.map ρ) none).run P w = .ok (l.toNat, tt.toNat, m) w := by
        have ht : 0 ≤ tt ∧ tt ≤ m := ⟨by omega, c3⟩
        rcases hlo w with ⟨rfl, rfl⟩ | ⟨y, rfl, hy⟩ <;> rcases hhi w with ⟨rfl, rfl⟩ | ⟨y', rfl, hy'⟩
        · simp [Instr.sliceBounds]
        · simp [Instr.sliceBounds, Instr.sliceBound, hy', asIntOf, ht]
        · simp [Instr.sliceBounds, Instr.sliceBound, hy, asIntOf, c1, c2]
        · have h5 : 0 ≤ l ∧ l ≤ ((tt.toNat : Nat) : Int) := ⟨c1, by omega⟩
          simp [Instr.sliceBounds, Instr.sliceBound, hy, hy', asIntOf, ht, h5]
          intro hh; exfalso; omega
      have hrun : (execOp ρ o).run P w = .ok (.value (.slice (some (if m = l.toNat then ⟨b, bo + off, none⟩ else ⟨b, bo + off + l.toNat * inf.size, none⟩)) (tt.toNat - l.toNat) (m - l.toNat))) w := by
        simp only [execOp, hop, hxe]
        have hadd : (if m = l.toNat then ({ block := b, off := bo + off } : Addr) else if l.toNat * inf.size = 0 then { block := b, off := bo + off } else { block := b, off := bo + off + l.toNat * inf.size }) =
            if m = l.toNat then { block := b, off := bo + off } else { block := b, off := bo + off + l.toNat * inf.size } := by
          split
          · rfl
          · split
            · rename_i h0; rw [h0]; rfl
            · rfl
        rcases h12 with h1 | ⟨h1, h2⟩
        · simp [Instr.sliceAt, run_underlying h1, Instr.sureAddr, hb, sizeOf, typeInfo, h3, Addr.add, hadd]
        · simp [Instr.sliceAt, Instr.slice, run_underlying h1, run_underlying h2, asAddr, hb, sizeOf, typeInfo, h3, Addr.add]
          exact hadd
      refine Out.pure hs hn ?_ hK hrun
      refine .d _ _ ?_
      have hlen : ((ds.drop (off + l.toNat * inf.size)).take ((tt.toNat - l.toNat) * inf.size)).length = (tt.toNat - l.toNat) * inf.size := by
        have h6 : l.toNat * inf.size + (tt.toNat - l.toNat) * inf.size = tt.toNat * inf.size := by rw [← Nat.add_mul]; congr 1; omega
        have h7 : tt.toNat * inf.size ≤ m * inf.size := Nat.mul_le_mul_right _ (by omega)
        simp; omega
      by_cases hml : m = l.toNat
      · have h0 : tt.toNat - l.toNat = 0 := by omega
        rw [h0]
        simp only [Nat.zero_mul, List.take_zero]
        exact .sl false 0 _ [] _ 0 0 (fun _ => undef) (Nat.zero_le _) (by simp only [maxLen]; omega) (fun h => by cases h) (.inl rfl) (fun k hk => by simp at hk) (fun k c hk => by simp at hk)
      · rw [if_neg hml]
        refine .sl false _ _ _ _ b (bo + off + l.toNat * inf.size) (fun k => vals (off + l.toNat * inf.size + k)) (by omega) (by simp only [maxLen]; omega) (fun h => by cases h) (.inr rfl) (fun k hk => ?_) (fun k c hk => ?_)
        · rw [hlen] at hk
          have h6 : l.toNat * inf.size + (tt.toNat - l.toNat) * inf.size = tt.toNat * inf.size := by rw [← Nat.add_mul]; congr 1; omega
          have h7 : tt.toNat * inf.size ≤ m * inf.size := Nat.mul_le_mul_right _ (by omega)
          have := hro (off + l.toNat * inf.size + k) (by omega)
          rw [show bo + off + l.toNat * inf.size + k = bo + (off + l.toNat * inf.size + k) by omega]
          exact this
        · rw [List.getElem?_take] at hk
          split at hk
          · rw [List.getElem?_drop] at hk
            exact hrep _ c hk
          · cases hk
    · cases hv
  · cases hv
theorem snd_nil (op : BinOp) (T T' : TypeId) (x y : Operand) (c : COp) (hop : o.op = .binOp op T x y T') (hc : nilOf P op T x y = some c) (hx : RepV M (ρV x) (ρ x)) (hy : RepV M (ρV y) (ρ y)) (hyc : ∀ v, y = .const v → ρ y = v) (hs : Sim M h w) (hn : n ≤ h.length)
    (hk : step c ρV h K) : Out n M h w K ((execOp ρ o).run P w) := by
  have fin : ∀ (neg b : Bool) (a z : Value), (op = .eql ∧ neg = false ∨ op = .neq ∧ neg = true) → ρ x = a → ρ y = z → (∀ op', (op' = .eql ∨ op' = .neq) → binOp op' T a z = (if op' matches .neq then do pure (.bool (!(← Op.equal T a z))) else do pure (.bool (← Op.equal T a z)))) → (Op.equal T a z).run P w = .ok b w →
      (∀ op', (eqGuard op' T x y a z).run P w = .ok () w) → K (.d (.bool (if neg then !b else b))) h → Out n M h w K ((execOp ρ o).run P w) := by
    intro neg b a z hneg ha hz h1 h2 h3 hK
    refine Out.pure hs hn (.d _ _ (.bool _)) hK ?_
    simp only [execOp, hop, ha, hz]
    rcases hneg with ⟨rfl, rfl⟩ | ⟨rfl, rfl⟩
    · simp [h3, h1 .eql (.inl rfl), h2]
    · simp [h3, h1 .neq (.inr rfl), h2]
  have gp : ∀ op' (a : Option Addr) z, (eqGuard op' T x y (.pointer a) z).run P w = .ok () w := fun op' a z => by cases op' <;> simp [eqGuard]
  have gs : ∀ op' (a : Option Addr) l c z, (eqGuard op' T x y (.slice a l c) z).run P w = .ok () w := fun op' a l c z => by cases op' <;> simp [eqGuard]
  have gm : ∀ op' (a : Option Nat) z, (eqGuard op' T x y (.map a) z).run P w = .ok () w := fun op' a z => by cases op' <;> simp [eqGuard]
  have gf : ∀ op' f a c z, (eqGuard op' T x y (.func f a c) z).run P w = .ok () w := fun op' f a c z => by cases op' <;> simp [eqGuard]
  have gn : ∀ op' z, (eqGuard op' T x y .nilFunc z).run P w = .ok () w := fun op' z => by cases op' <;> simp [eqGuard]
  unfold nilOf at hc
  split at hc
  · rename_i e hu
    have hyv := hyc _ rfl
    have go : ∀ (neg : Bool), (op = .eql ∧ neg = false ∨ op = .neq ∧ neg = true) → step (.isNil 0 neg x) ρV h K → Out n M h w K ((execOp ρ o).run P w) := by
      rintro neg hneg ⟨b, hb, hK⟩
      have key : ∀ a l c, ρ x = .slice a l c → a.isNone = b → Out n M h w K ((execOp ρ o).run P w) := fun a l c hp hab =>
        fin neg b _ _ hneg hp hyv (fun op' h => by rcases h with rfl | rfl <;> simp [binOp]) (by rw [← hab]; exact run_equal_slice_nil w T e a l c hu) (fun op' => gs op' a l c _) hK
      replace hb : evNilS (ρV x) h = some b := hb
      unfold evNilS at hb
      split at hb
      · rename_i e1; rw [e1] at hx; cases hb
        refine key none 0 0 ?_ rfl
        generalize ρ x = u at hx; cases hx with | d _ _ h => cases h; rfl
      · rename_i xx len cs e1
        rw [e1] at hx
        split at hb
        · cases hb
        · rename_i hne
          cases hb
          obtain ⟨cap, ao, bb, off, vals, hp, hle, hmx, hex, hao, hro, hrep⟩ := hx.slI
          have hao : ao = some ⟨bb, off, none⟩ := hao.resolve_left (fun h => hne (by rw [h]; rfl))
          exact key _ _ _ hp (by rw [hao]; rfl)
      · rename_i id g len e1
        rw [e1] at hx
        split at hb
        · rename_i e1 e2 g' ds hb2
          split at hb
          · rename_i hg
            cases hb
            obtain ⟨r, ao, cap, hr, hgr, hp, hle, hmx, hv⟩ := hx.ownI
            obtain ⟨r', hr', hat⟩ := hs.blks id _ hb2
            rw [hr] at hr'; cases hr'
            have hgen : r.gen = g := by rw [hg.1]; exact hat.1
            obtain ⟨hao, _⟩ := hv hgen
            rcases hat.2 with ⟨h0, _⟩ | ⟨bb, arr, h1, _⟩
            · rw [h0] at hg; simp at hg
            · exact key _ _ _ hp (by rw [hao, h1]; rfl)
          · cases hb
        · cases hb
      · cases hb
    split at hc
    · cases hc; exact go false (.inl ⟨rfl, rfl⟩) hk
    · cases hc; exact go true (.inr ⟨rfl, rfl⟩) hk
    · cases hc
  · rename_i e hu
    have hyv := hyc _ rfl
    have hu' : P.underlying T = some (.pointer (P.pointee T)) := by rw [hu]; simp [Program.pointee, hu]
    have go : ∀ (neg : Bool), (op = .eql ∧ neg = false ∨ op = .neq ∧ neg = true) → step (.isNil 1 neg x) ρV h K → Out n M h w K ((execOp ρ o).run P w) := by
      rintro neg hneg ⟨b, hb, hK⟩
      have key : ∀ a, ρ x = .pointer a → a.isNone = b → Out n M h w K ((execOp ρ o).run P w) := fun a hp hab =>
        fin neg b _ _ hneg hp hyv (fun op' h => by rcases h with rfl | rfl <;> simp [binOp]) (by rw [← hab]; exact run_equal_pointer_nil w T a hu') (fun op' => gp op' a _) hK
      replace hb : evNilP (ρV x) = some b := hb
      unfold evNilP at hb
      split at hb
      · rename_i e1; rw [e1] at hx; cases hb
        refine key none ?_ rfl
        generalize ρ x = u at hx; cases hx with | d _ _ h => cases h; rfl
      · rename_i e1; rw [e1] at hx; cases hb
        obtain ⟨r, b, _, _, hp, _⟩ := hx.ptrI
        exact key _ hp rfl
      · rename_i e1; rw [e1] at hx; cases hb
        obtain ⟨b, o, vals, hp, _⟩ := hx.rptrI
        exact key _ hp rfl
      · cases hb
    split at hc
    · cases hc; exact go false (.inl ⟨rfl, rfl⟩) hk
    · cases hc; exact go true (.inr ⟨rfl, rfl⟩) hk
    · cases hc
  · rename_i kk e hu
    have hyv := hyc _ rfl
    have go : ∀ (neg : Bool), (op = .eql ∧ neg = false ∨ op = .neq ∧ neg = true) → step (.isNil 2 neg x) ρV h K → Out n M h w K ((execOp ρ o).run P w) := by
      rintro neg hneg ⟨b, hb, hK⟩
      have key : ∀ a, ρ x = .map a → a.isNone = b → Out n M h w K ((execOp ρ o).run P w) := fun a hp hab =>
        fin neg b _ _ hneg hp hyv (fun op' h => by rcases h with rfl | rfl <;> simp [binOp]) (by rw [← hab]; exact run_equal_map_nil w T kk e a hu) (fun op' => gm op' a _) hK
      replace hb : evNilM (ρV x) = some b := hb
      unfold evNilM at hb
      split at hb
      · rename_i e1; rw [e1] at hx; cases hb; generalize hux : ρ x = u at hx; cases hx; exact key _ hux rfl
      · cases hb
    split at hc
    · cases hc; exact go false (.inl ⟨rfl, rfl⟩) hk
    · cases hc; exact go true (.inr ⟨rfl, rfl⟩) hk
    · cases hc
  · rename_i a1 a2 a3 hu
    have hyv := hyc _ rfl
    have en : ∀ d, (Op.equalIn (d + 1) T .nilFunc .nilFunc).run P w = .ok true w := fun d => by simp [Op.equalIn, run_underlying hu]
    have ef : ∀ d f a c, (Op.equalIn (d + 1) T (.func f a c) .nilFunc).run P w = .ok false w := fun d f a c => by simp [Op.equalIn, run_underlying hu]
    have go : ∀ (neg : Bool), (op = .eql ∧ neg = false ∨ op = .neq ∧ neg = true) → step (.isNil 3 neg x) ρV h K → Out n M h w K ((execOp ρ o).run P w) := by
      rintro neg hneg ⟨b, hb, hK⟩
      have keyn : ρ x = .nilFunc → b = true → Out n M h w K ((execOp ρ o).run P w) := fun hp hab =>
        fin neg b _ _ hneg hp hyv (fun op' h => by rcases h with rfl | rfl <;> simp [binOp]) (by rw [hab]; exact en 9999) (fun op' => gn op' _) hK
      have keyf : ∀ f a c, ρ x = .func f a c → b = false → Out n M h w K ((execOp ρ o).run P w) := fun f a c hp hab =>
        fin neg b _ _ hneg hp hyv (fun op' h => by rcases h with rfl | rfl <;> simp [binOp]) (by rw [hab]; exact ef 9999 f a c) (fun op' => gf op' f a c _) hK
      replace hb : evNilF (ρV x) = some b := hb
      unfold evNilF at hb
      split at hb
      · rename_i e1; rw [e1] at hx; cases hb; generalize hux : ρ x = u at hx; cases hx with | d _ _ h => cases h; exact keyn hux rfl
      · rename_i f e1; rw [e1] at hx; cases hb; generalize hux : ρ x = u at hx; cases hx with | d _ _ h => cases h; exact keyf _ _ _ hux rfl
      · rename_i e1; rw [e1] at hx; cases hb; generalize hux : ρ x = u at hx; cases hx; exact keyf _ _ _ hux rfl
      · cases hb
    split at hc
    · cases hc; exact go false (.inl ⟨rfl, rfl⟩) hk
    · cases hc; exact go true (.inr ⟨rfl, rfl⟩) hk
    · cases hc
  · rename_i y _ _ hu
    have go : ∀ (neg : Bool), (op = .eql ∧ neg = false ∨ op = .neq ∧ neg = true) → step (.binB neg x y) ρV h K → Out n M h w K ((execOp ρ o).run P w) := by
      rintro neg hneg ⟨v, hv, hK⟩
      unfold evBinB at hv
      split at hv
      · rename_i a b e1 e2
        cases hv
        rw [e1] at hx
        rw [e2] at hy
        exact fin neg (a == b) _ _ hneg hx.boolI hy.boolI (fun op' h => by rcases h with rfl | rfl <;> simp [binOp]) (run_equal_bool w T a b hu) (fun op' => by cases op' <;> simp [eqGuard]) hK
      · cases hv
    split at hc
    · cases hc; exact go false (.inl ⟨rfl, rfl⟩) hk
    · cases hc; exact go true (.inr ⟨rfl, rfl⟩) hk
    · cases hc
  · rename_i y _ _ hu
    cases hc
    obtain ⟨v, hv, hK⟩ := hk
    unfold evBinS at hv
    split at hv
    · rename_i a b e1 e2
      rw [e1] at hx
      rw [e2] at hy
      have hrun : ∀ u, (Op.stringOp op ⟨a.toArray⟩ ⟨b.toArray⟩).run P w = .ok u w → (execOp ρ o).run P w = .ok (.value u) w := by
        intro u hu
        simp only [execOp, hop, hx.strI, hy.strI]
        have hg : (eqGuard op T x y (.string ⟨a.toArray⟩) (.string ⟨b.toArray⟩)).run P w = .ok () w := by cases op <;> simp [eqGuard]
        have hb : binOp op T (.string ⟨a.toArray⟩) (.string ⟨b.toArray⟩) = Op.stringOp op ⟨a.toArray⟩ ⟨b.toArray⟩ := by cases op <;> rfl
        simp [hg, hb, hu]
      split at hv
      · cases hv; exact Out.pure hs hn (.d _ _ (.bool _)) hK (hrun _ (by simp [Op.stringOp, ByteArray.toList_eq]))
      · cases hv; exact Out.pure hs hn (.d _ _ (.bool _)) hK (hrun _ (by simp [Op.stringOp, ByteArray.toList_eq]))
      · cases hv; exact Out.pure hs hn (.d _ _ (.bool _)) hK (hrun _ (by simp [Op.stringOp, ByteArray.toList_eq]))
      · cases hv; exact Out.pure hs hn (.d _ _ (.bool _)) hK (hrun _ (by simp [Op.stringOp, ByteArray.toList_eq]))
      · cases hv; exact Out.pure hs hn (.d _ _ (.bool _)) hK (hrun _ (by simp [Op.stringOp, ByteArray.toList_eq]))
      · cases hv; exact Out.pure hs hn (.d _ _ (.bool _)) hK (hrun _ (by simp [Op.stringOp, ByteArray.toList_eq]))
      · split at hv
        · rename_i hl
          cases hv
          refine Out.pure hs hn (.d _ _ (.str _)) hK (hrun _ ?_)
          have h9 : ¬ (IntKind.i64.max < ((a.length + b.length : Nat) : Int)) := by
            have : IntKind.i64.max = 9223372036854775807 := rfl
            omega
          have hsz : (⟨a.toArray⟩ : ByteArray).size + (⟨b.toArray⟩ : ByteArray).size = a.length + b.length := by simp [ByteArray.size]
          have hap : (⟨a.toArray⟩ ++ ⟨b.toArray⟩ : ByteArray) = ⟨(a ++ b).toArray⟩ := by
            apply ByteArray.ext
            simp [ByteArray.data_append]
          simp only [Op.stringOp, hsz, gt_iff_lt, h9, if_false, hap]
          rfl
        · cases hv
      · cases hv
    · cases hv
  · cases hc
end
end Go.Proofs.Ytdnefcjbcieecaa
namespace Go.Proofs.Ytdnefcjbcieecaa
open Go
section
variable {P : Program} {n : Nat} {o : Oper} {ρV : Operand → V} {ρ : Operand → Value} {M : Mem} {h : Heap} {w : World} {K : V → Heap → Prop}
theorem snd_sliceS (T e : TypeId) (x : Operand) (lo hi mx : Option Operand) (inf : TypeInfo) (hop : o.op = .slice T x lo hi mx) (h1 : P.underlying T = some (.slice e)) (h2 : P.info? e = some inf) (h0 : inf.size ≠ 0)
    (hρ : ∀ x, RepV M (ρV x) (ρ x)) (hs : Sim M h w) (hn : n ≤ h.length)
    (hk : step (.sliceS inf.size x lo hi mx) ρV h K) : Out n M h w K ((execOp ρ o).run P w) := by
  have hx := hρ x
  have zero : ∀ {lim cap : Nat} {r v : V} {ao : Option Addr} {len : Nat}, ev0 lim r ((lo.map ρV).getD (.d (.int .i64 0))) ((hi.map ρV).getD (.d (.int .i64 0))) (mx.map ρV) hi.isSome = some v → lim ≤ cap → ρ x = .slice ao len cap →
      r = v ∧ (execOp ρ o).run P w = .ok (.value (.slice ao 0 0)) w := by
    intro lim cap r v ao len hv hle hp
    unfold ev0 at hv
    split at hv
    · rename_i kl l kt t km m e1 e2 e3
      split at hv
      · rename_i hc
        cases hv
        obtain ⟨c1, rfl, rfl, c4, c5⟩ := hc
        refine ⟨rfl, ?_⟩
        cases hi with
        | none => cases c5
        | some oh =>
          cases mx with
          | none => cases e3
          | some om =>
            simp only [Option.map_some, Option.getD_some] at e2
            simp only [Option.map_some, Option.some.injEq] at e3
            have h2' := hρ oh
            rw [e2] at h2'
            have h3' := hρ om
            rw [e3] at h3'
            have hb0 : ∀ code, (Instr.sliceBound (.int km l) cap code).run P w = .ok l.toNat w := fun code => run_sliceBound (P := P) w km l cap code (by omega) (by omega)
            have hb1 : ∀ code, (Instr.sliceBound (.int kt l) l.toNat code).run P w = .ok l.toNat w := fun code => run_sliceBound (P := P) w kt l l.toNat code (by omega) (by omega)
            cases lo with
            | none =>
              simp only [Option.map_none, Option.getD_none, V.d.injEq, D.int.injEq] at e1
              obtain ⟨rfl, rfl⟩ := e1
              simp only [Int.toNat_zero] at hb0 hb1
              simp [execOp, hop, Instr.sliceAt, Instr.slice, Instr.sliceBounds, run_underlying h1, hp, sizeOf, typeInfo, h2, h2'.intI, h3'.intI, hb0, hb1]
            | some ol =>
              simp only [Option.map_some, Option.getD_some] at e1
              have h1' := hρ ol
              rw [e1] at h1'
              have hb2 : ∀ code, (Instr.sliceBound (.int kl l) l.toNat code).run P w = .ok l.toNat w := fun code => run_sliceBound (P := P) w kl l l.toNat code (by omega) (by omega)
              simp [execOp, hop, Instr.sliceAt, Instr.slice, Instr.sliceBounds, run_underlying h1, hp, sizeOf, typeInfo, h2, h1'.intI, h2'.intI, h3'.intI, hb0, hb1, hb2]
      · cases hv
    · cases hv
  simp only [step, onPtr, onAgg, onTup, onStr, onSl] at hk
  split at hk
  · rename_i xx len cs e'
    rw [e'] at hx
    obtain ⟨cap, ao, b, off, vals, hp, hle, hmx, hex, hao, hro, hrep⟩ := hx.slI
    unfold sliceV at hk
    obtain ⟨hcl, hk⟩ := hk
    have hlo : RepV M ((lo.map ρV).getD (.d (.int .i64 0))) ((lo.map ρ).getD (Value.int .i64 0)) := by
      cases lo with
      | none => exact .d _ _ (.int _ _)
      | some o' => exact hρ o'
    have hhi : RepV M ((hi.map ρV).getD (.d (.int .i64 len))) ((hi.map ρ).getD (Value.int .i64 len)) := by
      cases hi with
      | none => exact .d _ _ (.int _ _)
      | some o' => exact hρ o'
    obtain ⟨kl, l, hl, hk⟩ := natI_spec hk hlo
    obtain ⟨kt, t, ht, hk⟩ := natI_spec hk hhi
    have hrep2 : ∀ (x' : Bool) (c' : Nat) (a' : Option Addr), 0 ≤ l → l ≤ t → t ≤ len → t.toNat - l.toNat ≤ c' → c' ≤ maxLen → (x' = true → c' = t.toNat - l.toNat) → (l.toNat < t.toNat → a' = ao.map (·.add (l.toNat * inf.size))) →
        RepV M (.d (.sl x' (t.toNat - l.toNat) ((cs.drop (l.toNat * inf.size)).take ((t.toNat - l.toNat) * inf.size)))) (.slice a' (t.toNat - l.toNat) c') := by
      intro x' c' a' g1 g2 g3 g4 g5 g6 g7
      have hbound : l.toNat * inf.size + (t.toNat - l.toNat) * inf.size ≤ len * inf.size := by
        rw [← Nat.add_mul]; exact Nat.mul_le_mul_right _ (by omega)
      have hll : ((cs.drop (l.toNat * inf.size)).take ((t.toNat - l.toNat) * inf.size)).length = (t.toNat - l.toNat) * inf.size := by simp; omega
      refine .d _ _ (.sl x' _ c' _ a' b (off + l.toNat * inf.size) (fun k => vals (l.toNat * inf.size + k)) g4 g5 g6 ?_ (fun k hk => ?_) (fun k c hc => ?_))
      · by_cases hlt : l.toNat < t.toNat
        · right
          rcases hao with rfl | hao
          · exfalso
            have h9 : 0 < (t.toNat - l.toNat) * inf.size := Nat.mul_pos (by omega) (by omega)
            rw [List.length_nil] at hcl; rcases Nat.mul_eq_zero.1 hcl.symm with h | h <;> omega
          · rw [g7 hlt, hao]; simp [Addr.add_lit]
        · left
          apply List.eq_nil_of_length_eq_zero
          rw [hll, show t.toNat - l.toNat = 0 by omega, Nat.zero_mul]
      · rw [hll] at hk
        rw [Nat.add_assoc]; exact hro _ (by omega)
      · rw [List.getElem?_take] at hc
        split at hc
        · rw [List.getElem?_drop] at hc; exact hrep _ _ hc
        · cases hc
    cases mx with
    | none =>
      simp only [Option.map_none] at hk
      obtain ⟨⟨g1, g2, g3⟩, hk⟩ := hk
      have hrun : (execOp ρ o).run P w = .ok (.value (.slice (if cap = l.toNat then ao else ao.map (·.add (l.toNat * inf.size))) (t.toNat - l.toNat) (cap - l.toNat))) w := by
        have hb1 : ∀ code, (Instr.sliceBound (.int kt t) cap code).run P w = .ok t.toNat w := fun code => run_sliceBound (P := P) w kt t cap code (by omega) (by omega)
        have hb2 : ∀ code, (Instr.sliceBound (.int kl l) t.toNat code).run P w = .ok l.toNat w := fun code => run_sliceBound (P := P) w kl l t.toNat code (by omega) (by omega)
        cases lo with
        | none =>
          simp only [Option.map_none, Option.getD_none, Value.int.injEq] at hl
          obtain ⟨rfl, rfl⟩ := hl
          cases hi with
          | none =>
            simp only [Option.map_none, Option.getD_none, Value.int.injEq] at ht
            obtain ⟨rfl, rfl⟩ := ht
            simp [execOp, hop, Instr.sliceAt, Instr.slice, Instr.sliceBounds, run_underlying h1, hp, sizeOf, typeInfo, h2]
          | some oh =>
            simp only [Option.map_some, Option.getD_some] at ht
            simp [execOp, hop, Instr.sliceAt, Instr.slice, Instr.sliceBounds, run_underlying h1, hp, sizeOf, typeInfo, h2, ht, hb1]
        | some ol =>
          simp only [Option.map_some, Option.getD_some] at hl
          cases hi with
          | none =>
            simp only [Option.map_none, Option.getD_none, Value.int.injEq] at ht
            obtain ⟨rfl, rfl⟩ := ht
            simp only [Int.toNat_natCast] at hb2
            simp [execOp, hop, Instr.sliceAt, Instr.slice, Instr.sliceBounds, run_underlying h1, hp, sizeOf, typeInfo, h2, hl, hb2]
          | some oh =>
            simp only [Option.map_some, Option.getD_some] at ht
            simp [execOp, hop, Instr.sliceAt, Instr.slice, Instr.sliceBounds, run_underlying h1, hp, sizeOf, typeInfo, h2, hl, ht, hb1, hb2]
      exact Out.pure hs hn (hrep2 false _ _ g1 g2 g3 (by omega) (by omega) (fun h => by cases h) (fun hlt => by rw [if_neg (by omega)])) hk hrun
    | some m =>
      simp only [Option.map_some] at hk
      obtain ⟨km, mm, hm, ⟨g1, g2, g3, g4, g5⟩, hk⟩ := natI_spec hk (hρ m)
      subst g3
      have hrun : (execOp ρ o).run P w = .ok (.value (.slice (if t.toNat = l.toNat then ao else ao.map (·.add (l.toNat * inf.size))) (t.toNat - l.toNat) (t.toNat - l.toNat))) w := by
        have hb0 : ∀ code, (Instr.sliceBound (.int km t) cap code).run P w = .ok t.toNat w := fun code => run_sliceBound (P := P) w km t cap code (by omega) (by omega)
        have hb1 : ∀ code, (Instr.sliceBound (.int kt t) t.toNat code).run P w = .ok t.toNat w := fun code => run_sliceBound (P := P) w kt t t.toNat code (by omega) (by omega)
        have hb2 : ∀ code, (Instr.sliceBound (.int kl l) t.toNat code).run P w = .ok l.toNat w := fun code => run_sliceBound (P := P) w kl l t.toNat code (by omega) (by omega)
        cases hi with
        | none => simp at g5
        | some oh =>
          simp only [Option.map_some, Option.getD_some] at ht
          cases lo with
          | none =>
            simp only [Option.map_none, Option.getD_none, Value.int.injEq] at hl
            obtain ⟨rfl, rfl⟩ := hl
            simp [execOp, hop, Instr.sliceAt, Instr.slice, Instr.sliceBounds, run_underlying h1, hp, sizeOf, typeInfo, h2, ht, hb1, hm, hb0]
          | some ol =>
            simp only [Option.map_some, Option.getD_some] at hl
            simp [execOp, hop, Instr.sliceAt, Instr.slice, Instr.sliceBounds, run_underlying h1, hp, sizeOf, typeInfo, h2, hl, ht, hb1, hb2, hm, hb0]
      exact Out.pure hs hn (hrep2 true _ _ g1 g2 g4 (Nat.le_refl _) (by omega) (fun _ => rfl) (fun hlt => by rw [if_neg (by omega)])) hk hrun
  · rename_i id g len e'
    rw [e'] at hx
    obtain ⟨r, ao, cap, _, _, hp, hle, hmx, _⟩ := hx.ownI
    obtain ⟨v, hv, hk⟩ := hk
    obtain ⟨rfl, hrun⟩ := zero (lim := len) (cap := cap) hv hle hp
    exact Out.pure hs hn (.d _ _ (.sl true 0 0 [] ao 0 0 (fun _ => undef) (Nat.le_refl _) (Nat.zero_le _) (fun _ => rfl) (.inl rfl) (fun k hk => by simp at hk) (fun k c hk => by simp at hk))) hk hrun
  · rename_i e'
    rw [e'] at hx
    have hp : ρ x = .slice none 0 0 := by generalize ρ x = u at hx; cases hx with | d _ _ h => cases h; rfl
    obtain ⟨v, hv, hk⟩ := hk
    obtain ⟨rfl, hrun⟩ := zero (lim := 0) (cap := 0) hv (Nat.le_refl _) hp
    exact Out.pure hs hn (.d _ _ .nils) hk hrun
  · exact hk.elim
theorem bind_some' {α β : Type} {x : Option α} {f : α → Option β} {b : β} (h : x.bind f = some b) : ∃ a, x = some a ∧ f a = some b := by
  cases x with
  | none => cases h
  | some a => exact ⟨a, rfl, h⟩
theorem map_some' {α β : Type} {x : Option α} {f : α → β} {b : β} (h : x.map f = some b) : ∃ a, x = some a ∧ f a = b := by
  cases x with
  | none => cases h
  | some a => exact ⟨a, rfl, by cases h; rfl⟩
theorem appOf_spec {ts : Array TypeId} {args : Array Operand} {e sz bytes : Nat} {x y : Operand} (h : appOf P ts.toList args.toList = some (e, sz, bytes, x, y)) :
    ∃ (t : TypeId) (i : TypeInfo), ts = #[t, t] ∧ args = #[x, y] ∧ P.underlying t = some (.slice e) ∧ P.info? e = some i ∧ 0 < i.size ∧ (i.zero.map fun z => z.cells.size) = some i.size ∧ sz = i.size ∧ bytes = i.bytes := by
  unfold appOf at h
  split at h
  · rename_i t t' x' y' h1 h2
    split at h
    · rename_i he
      subst he
      split at h
      · rename_i e' hu
        obtain ⟨i, hi, hc⟩ := bind_some' h
        split at hc
        · rename_i hcond
          cases hc
          exact ⟨t, i, by cases ts; simp_all, by cases args; simp_all, hu, hi, hcond.1, hcond.2, rfl, rfl⟩
        · cases hc
      · cases h
    · cases h
  · cases h
theorem step_sound {own : Bool} {c : COp} (hc : compOp P own o.op = some c) (hcst : ∀ v, ρ (.const v) = v) (hρ : ∀ x, RepV M (ρV x) (ρ x)) (hs : Sim M h w) (hn : n ≤ h.length)
    (hk : step c ρV h K) : Out n M h w K ((execOp ρ o).run P w) := by
  cases hop : o.op with
  | move x => rw [hop] at hc; cases hc; exact snd_move x (.inl hop) (hρ x) hs hn hk
  | assign x => rw [hop] at hc; cases hc; exact snd_move x (.inr hop) (hρ x) hs hn hk
  | pick c a b => rw [hop] at hc; cases hc; exact snd_pick c a b hop (hρ _) (hρ _) (hρ _) hs hn hk
  | alloc T => rw [hop] at hc; obtain ⟨z, hz, rfl⟩ := map_some' hc; exact snd_alloc T z hop hz hs hn hk
  | box T x => rw [hop] at hc; cases hc; exact snd_box T x own hop (hρ x) hs hn hk
  | build T ps =>
    rw [hop] at hc
    simp only [compOp] at hc
    split at hc
    · rename_i pl z hpl hz
      obtain ⟨qs, hq, rfl⟩ := map_some' hc
      exact snd_build T ps pl z qs hop hpl hz hq hρ hs hn hk
    · cases hc
  | buildSlice T len ps =>
    rw [hop] at hc
    simp only [compOp] at hc
    split at hc
    · rename_i e hu
      obtain ⟨i, hi, hc⟩ := bind_some' hc
      obtain ⟨z, hz, hc⟩ := bind_some' hc
      split at hc
      · rename_i hcond
        cases hc
        exact snd_bslice T e len ps own i z hop hu hi hz hcond.1 hcond.2.1 hcond.2.2 hρ hs hn hk
      · cases hc
    · cases hc
  | load T x => rw [hop] at hc; obtain ⟨g, hg, rfl⟩ := map_some' hc; exact snd_load T x g hop hg (hρ x) hs hn hk
  | store T x v => rw [hop] at hc; obtain ⟨i, hi, rfl⟩ := map_some' hc; exact snd_store T x v i hop hi (hρ x) (hρ v) hs hn hk
  | binOp op T x y T' =>
    rw [hop] at hc
    simp only [compOp] at hc
    split at hc
    · rename_i ha; exact snd_eqA op T T' x y c hop ha hc (hρ x) (hρ y) hs hn hk
    · split at hc
      · rename_i c' hc'; cases hc; exact snd_nil op T T' x y c hop hc' (hρ x) (hρ y) (fun v e => by rw [e]; exact hcst v) hs hn hk
      · cases hc; exact snd_bin op T T' x y hop (hρ x) (hρ y) hs hn hk
  | makeMap t r =>
    rw [hop] at hc
    cases r with
    | some r => cases hc
    | none => cases hc; exact snd_mkmap t hop hs hn hk
  | lookup t x k ok =>
    rw [hop] at hc
    simp only [compOp] at hc
    split at hc
    · rename_i kt et hu
      obtain ⟨sh, hsh, hc⟩ := bind_some' hc
      obtain ⟨z, hz, rfl⟩ := map_some' hc
      exact snd_lookup t kt et x k ok sh z hop hu hsh hz (hρ x) (hρ k) hs hn hk
    · cases hc
  | mapUpdate t x k v =>
    rw [hop] at hc
    simp only [compOp] at hc
    split at hc
    · rename_i kt et hu
      obtain ⟨sh, hsh, rfl⟩ := map_some' hc
      exact snd_mupd t kt et x k v sh (.inl hop) hu hsh (hρ x) (hρ k) (hρ v) hs hn hk
    · cases hc
  | insert t x k v =>
    rw [hop] at hc
    simp only [compOp] at hc
    split at hc
    · rename_i kt et hu
      obtain ⟨sh, hsh, rfl⟩ := map_some' hc
      exact snd_mupd t kt et x k v sh (.inr hop) hu hsh (hρ x) (hρ k) (hρ v) hs hn hk
    · cases hc
  | makeSlice t l c' =>
    rw [hop] at hc
    simp only [compOp] at hc
    split at hc
    · rename_i e hu
      obtain ⟨i, hi, hc⟩ := bind_some' hc
      obtain ⟨z, hz, hc⟩ := bind_some' hc
      split at hc
      · rename_i hcnd
        cases hc
        exact snd_mkslice t e l c' i z hop hu hi hz hcnd.1 hcnd.2 (hρ l) (hρ c') hs hn hk
      · cases hc
    · cases hc
  | unOp op T x => rw [hop] at hc; cases hc; exact snd_un op T x hop (hρ x) hs hn hk
  | convert S T x =>
    rw [hop] at hc
    simp only [compOp] at hc
    split at hc
    · rename_i k0 k h1 h2; cases hc; exact snd_conv S T k k0 x hop h1 h2 (hρ x) hs hn hk
    · cases hc
  | fieldAddr S x f =>
    rw [hop] at hc
    simp only [compOp] at hc
    split at hc
    · rename_i fs hu
      obtain ⟨fl, hfl, hc⟩ := bind_some' hc
      obtain ⟨i, hi, hc⟩ := bind_some' hc
      split at hc
      · cases hc
      · rename_i h0; cases hc; exact snd_fieldAddr S x f fs fl i hop hu hfl hi h0 (hρ x) hs hn hk
    · cases hc
  | field S x f =>
    rw [hop] at hc
    simp only [compOp] at hc
    split at hc
    · rename_i fs hu
      obtain ⟨fl, hfl, hc⟩ := bind_some' hc
      obtain ⟨g, hg, rfl⟩ := map_some' hc
      exact snd_field S x f fs fl g hop hu hfl hg (hρ x) hs hn hk
    · cases hc
  | indexAddr T x i =>
    rw [hop] at hc
    simp only [compOp] at hc
    split at hc
    · rename_i e hu
      obtain ⟨inf, hi, hc⟩ := bind_some' hc
      split at hc
      · cases hc
      · rename_i h0; cases hc; exact snd_indexS T e x i inf hop hu hi h0 (hρ x) (hρ i) hs hn hk
    · rename_i m e hu
      obtain ⟨inf, hi, hc⟩ := bind_some' hc
      split at hc
      · cases hc
      · rename_i h0; cases hc; exact snd_indexA T e m x i inf hop hu hi (hρ x) (hρ i) hs hn hk
    · cases hc
  | extract x k => rw [hop] at hc; cases hc; exact snd_extract x k hop (hρ x) hs hn hk
  | nilCheck x => rw [hop] at hc; cases hc; exact snd_nilCheck x hop (hρ x) hs hn hk
  | makeFunc f a c => rw [hop] at hc; cases hc; exact snd_mkfn f a c hop (fun x _ => hρ x) (fun x _ => hρ x) hs hn hk
  | slice T x lo hi mx =>
    rw [hop] at hc
    simp only [compOp] at hc
    split at hc
    · rename_i e hu
      obtain ⟨inf, hi', hc⟩ := bind_some' hc
      split at hc
      · cases hc
      · rename_i h0; cases hc; exact snd_sliceS T e x lo hi mx inf hop hu hi' h0 hρ hs hn hk
    · rename_i m e hu
      split at hc
      · cases hc
      · rename_i hmx
        obtain rfl : mx = none := by cases mx with | none => rfl | some q => simp at hmx
        obtain ⟨inf, hi', hc⟩ := bind_some' hc
        split at hc
        · cases hc
        · rename_i h0; cases hc; exact snd_sliceA T T e m x lo hi inf hop (.inl hu) hi' (by omega) hρ hs hn hk
    · rename_i arr hu
      split at hc
      · rename_i m e hu2
        split at hc
        · cases hc
        · rename_i hmx
          obtain rfl : mx = none := by cases mx with | none => rfl | some q => simp at hmx
          obtain ⟨inf, hi', hc⟩ := bind_some' hc
          split at hc
          · cases hc
          · rename_i h0; cases hc; exact snd_sliceA T arr e m x lo hi inf hop (.inr ⟨hu, hu2⟩) hi' (by omega) hρ hs hn hk
      · cases hc
    · cases hc
  | panic x => rw [hop] at hc; cases hc; exact hk.elim
  | call cl =>
    obtain ⟨callee, args, ts⟩ := cl
    rw [hop] at hc
    cases callee with
    | value f => cases hc
    | invoke r m => cases hc
    | builtin b =>
      cases b with
      | len =>
        simp only [compOp] at hc
        split at hc
        · rename_i e x hu ha
          cases hc
          obtain ⟨T, hT, hu⟩ := bind_some' hu
          obtain rfl : args = #[x] := by cases args; simp_all
          exact snd_len T e x ts hop hT hu (hρ x) hs hn hk
        · rename_i x hu ha
          cases hc
          obtain ⟨T, hT, hu⟩ := bind_some' hu
          obtain rfl : args = #[x] := by cases args; simp_all
          exact snd_lenStr T x ts hop hT hu (hρ x) hs hn hk
        · rename_i m e x hu ha
          cases hc
          obtain ⟨T, hT, hu⟩ := bind_some' hu
          obtain rfl : args = #[x] := by cases args; simp_all
          exact snd_lenArr T e m x ts hop hT hu hs hn hk
        · cases hc
      | min => cases hc; exact snd_min args ts hop hρ hs hn hk
      | max => cases hc; exact snd_max args ts hop hρ hs hn hk
      | append =>
        simp only [compOp] at hc
        split at hc
        · rename_i e sz bytes x y ha
          cases hc
          obtain ⟨t, i, rfl, rfl, hu, hi, h1, h2, rfl, rfl⟩ := appOf_spec ha
          cases own with
          | false => exact snd_append_ro t e i x y hop hu hi h2 h1 (hρ x) (hρ y) hs hn hk
          | true => exact snd_append_nil t e i x y hop hu hi h2 h1 (hρ x) (hρ y) hs hn hk
        · cases hc
      | _ => cases hc
  | _ => rw [hop] at hc; cases hc
end
end Go.Proofs.Ytdnefcjbcieecaa
namespace Go.Proofs.Ytdnefcjbcieecaa
open Go
def Env.put (env : Env) (d : Option Nat) (v : V) : Env := match d with | none => env | some d => (d, v) :: env
def Env.keep (env : Env) : Option (List Nat) → Env
  | none => env
  | some l => l.map fun k => (k, env.get k)
theorem Env.keep_some (env : Env) (l : List Nat) : env.keep (some l) = l.map fun k => (k, env.get k) := rfl
def opnd (env : Env) : Operand → V
  | .tmp t => env.get t
  | .const v => constV v
  | .global _ => .any
  | .func f => .d (.fn (.func f))
def kindC : COp → Nat
  | .load _ _ => 1
  | .indexS _ _ _ => 1
  | .append false _ _ _ _ _ => 1
  | .append true _ _ _ _ _ => 2
  | .alloc _ => 2
  | .box _ _ => 2
  | .bslice true _ _ _ _ _ => 2
  | .store _ _ _ => 3
  | .bad => 3
  | .mkmap => 2
  | .lookup .. => 3
  | .mupd .. => 3
  | .mkslice .. => 2
  | .isNil _ _ _ => 1
  | _ => 0
def kindR : RKind → Nat
  | .simple c => kindC c
  | .callx _ _ => 2
  | .call _ _ => 3
  | .app _ _ _ _ _ => 3
def opsC : COp → List Operand
  | .move x => [x]
  | .pick c a b => [c, a, b]
  | .alloc _ => []
  | .box _ x => [x]
  | .build _ ps => ps.map (·.2.2)
  | .bslice _ _ _ _ _ ps => ps.map (·.2)
  | .load _ x => [x]
  | .store _ x v => [x, v]
  | .bin _ x y => [x, y]
  | .un _ x => [x]
  | .conv _ x => [x]
  | .fieldAddr _ x => [x]
  | .field _ _ x => [x]
  | .indexS _ x i => [x, i]
  | .indexA _ _ x i => [x, i]
  | .extract x _ => [x]
  | .nilCheck x => [x]
  | .mkfn _ a c => a ++ c
  | .len x => [x]
  | .lenStr x => [x]
  | .lenArr _ => []
  | .min xs => xs
  | .max xs => xs
  | .sliceS _ x lo hi mx => x :: (listO lo ++ listO hi ++ listO mx)
  | .sliceA _ _ x lo hi => x :: (listO lo ++ listO hi)
  | .append _ _ _ _ x y => [x, y]
  | .panic x => [x]
  | .bad => []
  | .eqA _ _ x y => [x, y]
  | .mkmap => []
  | .lookup _ _ _ _ x k => [x, k]
  | .mupd _ _ x k v => [x, k, v]
  | .mkslice _ _ _ _ l c => [l, c]
  | .isNil _ _ x => [x]
  | .binB _ x y => [x, y]
  | .binS _ x y => [x, y]
def opsK : RKind → List Operand
  | .simple c => opsC c
  | .call f a => f :: a
  | .callx f a => f :: a
  | .app _ _ _ x y => [x, y]
def looksR (r : ROp) : List Nat := ((opsK r.op).filterMap fun | .tmp t => some t | _ => none) ++ (match r.guard with | some (t, _) => [t] | none => [])
inductive OT where
  | leaf
  | node (i : Nat) (t : OT)
  | alt (a b : OT)
  deriving DecidableEq
section
variable (md : Region.Mode) (ops : Array Oper) (rs : List ROp)
def behindS (i : Nat) (acc : List Nat) (j : Nat) : List Nat :=
  match ops[j]? with
  | none => acc
  | some o => if o.after.any (fun e => Region.binds md e && (e.on == i || acc.contains e.on)) then j :: acc else acc
def behindL (i : Nat) : List Nat := (List.range ops.size).foldl (behindS md ops i) []
def apartR (x y : ROp) : Bool :=
  (match x.dst with
   | some d => !(looksR y).contains d && y.dst != some d
   | none => true) &&
  (match y.dst with
   | some d => !(looksR x).contains d
   | none => true)
def directB (i j : Nat) : Bool :=
  match ops[j]? with
  | none => false
  | some o => o.after.any fun e => e.on == i && Region.binds md e
def behindB (i j : Nat) : Bool := directB md ops i j || (behindL md ops i).contains j
def eagerL (listed : Array Bool) (i : Nat) (r : ROp) : Bool :=
  (List.range rs.length).all fun j => j == i || listed.getD j true || directB md ops i j || (match rs[j]? with
      | none => true
      | some q => apartR r q && (kindR r.op == 0 || kindR q.op != 3)) || (behindL md ops i).contains j
end
def altR (f : Nat → Option OT) : List Nat → Option OT
  | [] => none
  | [i] => (f i).map (.node i)
  | i :: is => match f i, altR f is with
    | some t, some r => some (.alt (.node i t) r)
    | _, _ => none
section
variable (md : Region.Mode) (ops : Array Oper) (rs : List ROp)
def readyF (done : Nat) : List Nat :=
  (List.range ops.size).filter fun i => !done.testBit i && ((ops[i]?).map (·.after.all fun e => !Region.binds md e || done.testBit e.on)).getD false
def eagerF (done : Nat) (i : Nat) : Bool :=
  match rs[i]? with
  | none => false
  | some r => decide (kindR r.op ≤ 1) && (List.range rs.length).all fun j => done.testBit j || j == i || directB md ops i j || (match rs[j]? with
      | none => true
      | some q => apartR r q && (kindR r.op == 0 || kindR q.op != 3)) || (behindL md ops i).contains j
def treeF : Nat → Nat → Option OT
  | 0, done => match readyF md ops done with
    | [] => some .leaf
    | _ => none
  | fuel + 1, done => match readyF md ops done with
    | [] => some .leaf
    | i :: is => match (i :: is).find? (eagerF md ops rs done) with
      | some j => (treeF fuel (done ||| 1 <<< j)).map (.node j)
      | none => altR (fun j => treeF fuel (done ||| 1 <<< j)) (i :: is)
end
def isOwn (own : List Nat) : Option Nat → Bool
  | some d => own.contains d
  | none => false
def compAny0 (P : Program) (own : Bool) : Op → Option RKind
  | .call { callee := .value f, args := args, argTypes := _ } => some (.call f args.toList)
  | .call { callee := .builtin .append, args := args, argTypes := ts } =>
    if own then match appOf P ts.toList args.toList with
      | some (e, sz, bytes, x, y) => some (.app e sz bytes x y)
      | none => none
    else (compOp P own (.call { callee := .builtin .append, args := args, argTypes := ts })).map .simple
  | op => (compOp P own op).map .simple
def compAny (P : Program) (own : Bool) (o : Op) : Option RKind := match compAny0 P own o with
  | some k => some k
  | none => some (.simple .bad)
def okDst (sz : Nat) : Option Nat → Bool
  | none => true
  | some d => decide (d < sz)
def compROp (P : Program) (own : List Nat) (sz : Nat) (ops : Array Oper) (o : Oper) : Option ROp :=
  if okDst sz o.dst then
    match o.guard with
    | none => (compAny P (isOwn own o.dst) o.op).map fun c => ⟨o.dst, none, c⟩
    | some (j, want) => match (ops[j]?).bind (·.dst) with
      | some t => if t < sz then (compAny P (isOwn own o.dst) o.op).map fun c => ⟨o.dst, some (t, want), c⟩ else none
      | none => none
  else none
def compOps (P : Program) (own : List Nat) (sz : Nat) (ops : Array Oper) : List Oper → Option (List ROp)
  | [] => some []
  | o :: os => match compROp P own sz ops o, compOps P own sz ops os with
    | some r, some rs => some (r :: rs)
    | _, _ => none
def drawK : RKind → RKind
  | .call f a => .callx f a
  | k => k
def drawOp (r : ROp) : ROp := ⟨r.dst, r.guard, drawK r.op⟩
def fixedB (md : Region.Mode) (ops : Array Oper) (i : Nat) : Bool :=
  (List.range ops.size).all fun j => j == i || directB md ops i j || directB md ops j i || (behindL md ops i).contains j || (behindL md ops j).contains i
def drawOps (md : Region.Mode) (ops : Array Oper) : List ROp → Nat → List ROp
  | [], _ => []
  | r :: rs, i => (if fixedB md ops i then r else drawOp r) :: drawOps md ops rs (i + 1)
def compTree (md : Region.Mode) (rs : List ROp) (ops : Array Oper) : Option OT := treeF md ops rs ops.size 0
def fzOf : List (Nat × List (Nat × Option Nat)) → Nat → List (Nat × Option Nat)
  | [], _ => []
  | (j, l) :: r, k => if k = j then l else fzOf r k
def wrapF : List (Nat × Option Nat) → CCode → CCode
  | [], c => c
  | x :: xs, c => .seq (.frz x) (wrapF xs c)
def lvOf : List (Nat × List Nat) → Nat → List Nat
  | [], _ => []
  | (j, l) :: r, k => if k = j then l else lvOf r k
def treeC (rs : List ROp) (live : List Nat) : OT → List ROp → Option CCode
  | .leaf, acc => some (.region acc.reverse (some live))
  | .node j t, acc => match rs[j]? with
    | some r => treeC rs live t (r :: acc)
    | none => none
  | .alt a b, acc => match treeC rs live a [], treeC rs live b [] with
    | some x, some y => some (.seq (.region acc.reverse none) (.both x y))
    | _, _ => none
def compR (P : Program) (G : Cfg) (id : Nat) (ops : Array Oper) : Bool → Option CCode
  | false => (compOps P G.own G.sz ops ops.toList).map fun rs => .region rs (some (lvOf G.lv id))
  | true => match compOps P G.own G.sz ops ops.toList with
    | none => none
    | some rs =>
      if P.follows .mixedOrders then
        match compTree .any (drawOps .any ops rs 0) ops with
        | some t => treeC (drawOps .any ops rs 0) (lvOf G.lv id) t []
        | none => none
      else none
def hasRange : Code → Bool
  | .seq a b => hasRange a || hasRange b
  | .cond _ a b => hasRange a || hasRange b
  | .block _ c => hasRange c
  | .loop c => hasRange c
  | .scope c => hasRange c
  | .rangeFunc .. => true
  | _ => false
def compC (P : Program) (G : Cfg) : Code → Option CCode
  | .skip => some .skip
  | .region id ops draw => (compR P G id ops draw).map (wrapF (fzOf G.fz id))
  | .seq a b => match compC P G a, compC P G b with
    | some x, some y => some (.seq x y)
    | _, _ => none
  | .cond c a b => match compC P G a, compC P G b with
    | some x, some y => some (.cond c x y)
    | _, _ => none
  | .block id c => (compC P G c).map (.block id)
  | .scope c => compC P G c
  | .label _ => some .skip
  | .loop c => (compC P G c).map .loop
  | .exit id => some (.exit id)
  | .ret => some .ret
  | .rangeFunc g ps a b => if hasRange a || hasRange b then none else match compC P G a, compC P G b with
    | some x, some y => some (.rangeF g ps.toList x y)
    | _, _ => none
  | _ => none
def ccP (P : Program) : Cfg → Code → CCode → Prop := fun G g c => compC P G g = some c ∧ hasRange g = false
end Go.Proofs.Ytdnefcjbcieecaa
namespace Go.Proofs.Ytdnefcjbcieecaa
open Go
def fw (ro : Option Nat) : Fence := { Fence.wide with round := ro }
def CallQ (M : Mem) (h : Heap) (w : World) (R : V → Heap → Prop) : Ending → World → Prop := fun e w' =>
  ∃ cv v h' M', e = .returned cv ∧ Post h.length M h w M' h' w' ∧ RepV M' v cv ∧ R v h'
theorem CallQ.mono {M : Mem} {h : Heap} {w : World} {R R' : V → Heap → Prop} (hr : ∀ v h', R v h' → R' v h') (e : Ending) (w' : World) (hq : CallQ M h w R e w') : CallQ M h w R' e w' :=
  let ⟨cv, v, h', M', h1, h2, h3, h4⟩ := hq; ⟨cv, v, h', M', h1, h2, h3, hr _ _ h4⟩
def ACalls (P : Program) (f : FuncId) (vs : List V) (h : Heap) (R : V → Heap → Prop) : Prop :=
  (∃ fn, P.funcs[f]? = some fn ∧ (fn.name == "runtime.NumGoroutine") = false ∧ fn.body.isNone = false) ∧
  ∀ M w args, M.cc = ccP P → Sim M h w → RepL M vs args → Calls P f args.toArray w (CallQ M h w R)
def AYield (P : Program) (id : Nat) (vs : List V) (h : Heap) (R : V → Heap → Prop) : Prop :=
  ∀ M w args l, M.cc = ccP P → Sim M h w → RepL M vs args → RepV M (.yl id) (.func (.yield l) #[] #[]) → YieldAt Fence.wide 0 P l args.toArray w (CallQ M h w R)
theorem ACalls.mono {P : Program} {f : FuncId} {vs : List V} {h : Heap} {R R' : V → Heap → Prop} (hc : ACalls P f vs h R) (hr : ∀ v h', R v h' → R' v h') : ACalls P f vs h R' :=
  ⟨hc.1, fun M w args hm hs ha => (hc.2 M w args hm hs ha).mono fun _ _ => CallQ.mono hr _ _⟩
theorem AYield.mono {P : Program} {id : Nat} {vs : List V} {h : Heap} {R R' : V → Heap → Prop} (hc : AYield P id vs h R) (hr : ∀ v h', R v h' → R' v h') : AYield P id vs h R' :=
  fun M w args l hm hs ha hv => let ⟨fn, tmps, assign, body, h1, h2⟩ := hc M w args l hm hs ha hv; ⟨fn, tmps, assign, body, h1, h2.mono fun _ _ => CallQ.mono hr _ _⟩
def callV (P : Program) (f : V) (args : List V) (h : Heap) (K : V → Heap → Prop) : Prop :=
  match f with
  | .d (.fn (.func g)) => ACalls P g args h K
  | .fn (.func g) first caps => ACalls P g (first ++ args ++ caps) h K
  | .yl id => AYield P id args h K
  | _ => False
def Blk.plain : Blk → Bool
  | .box _ => true
  | .row .. => true
  | _ => false
def HLe (h h' : Heap) : Prop := ∀ (i : Nat) b, h[i]? = some (some b) → b.plain = true → h'[i]? = some (some b)
theorem HLe.refl (h : Heap) : HLe h h := fun _ _ h _ => h
theorem HLe.trans {a b c : Heap} (h1 : HLe a b) (h2 : HLe b c) : HLe a c := fun i x hx hp => h2 i x (h1 i x hx hp) hp
theorem HLe.append (h t : Heap) : HLe h (h ++ t) := fun i b hb _ => by
  rw [List.getElem?_append_left]
  · exact hb
  · exact (List.getElem?_eq_some_iff.1 hb).1
def rowOf (h : Heap) (id g : Nat) : Option (Nat × Nat × List D) :=
  match h[id]? with
  | some (some (.row e sz g' ds)) => if g = g' then some (e, sz, ds) else none
  | _ => none
theorem rowOf_some {h : Heap} {id g e sz : Nat} {ds : List D} (hr : rowOf h id g = some (e, sz, ds)) : h[id]? = some (some (.row e sz g ds)) := by
  unfold rowOf at hr
  split at hr
  · rename_i e' sz' g' ds' hh
    split at hr
    · rename_i hg; cases hr; rw [hg]; exact hh
    · cases hr
  · cases hr
def runOp (P : Program) (n : Nat) (r : ROp) (env : Env) (h : Heap) (K : Env → Heap → Prop) : Prop :=
  match r.op with
  | .call f args => callV P (opnd env f) (args.map (opnd env)) h fun v h' => K (env.put r.dst v) h'
  | .callx f args => callV P (opnd env f) (args.map (opnd env)) h fun v h' => HLe h h' ∧ K (env.put r.dst v) h'
  | .app e sz bytes x y => onSl (opnd env x) (fun _ _ _ => step (.append true e sz bytes x y) (opnd env) h fun v h' => K (env.put r.dst v) h')
      (fun id g len => optV (rowOf h id g) fun q => (q.1 = e ∧ q.2.1 = sz ∧ q.2.2.length = len * sz) ∧ optV (conts h (opnd env y)) fun p => (p.2.length = p.1 * sz ∧
        len + p.1 ≤ 140737488355328 ∧ (len + p.1) * bytes ≤ 140737488355328) ∧ K (env.put r.dst (.own id (g + 1) (len + p.1))) (h.set id (some (.row e sz (g + 1) (q.2.2 ++ p.2)))))
      (step (.append true e sz bytes x y) (opnd env) h fun v h' => K (env.put r.dst v) h')
  | .simple op => step op (opnd env) h fun v h' => K (env.put r.dst v) h'
def guardB (v : V) (want : Bool) (yes no : Prop) : Prop :=
  match v with
  | .tup [] => no
  | v => if want then brV v yes no else brV v no yes
theorem guardB_tup (w : Bool) (yes no : Prop) : guardB (.tup []) w yes no = no := rfl
def guardV (env : Env) (g : Option (Nat × Bool)) (yes no : Prop) : Prop :=
  match g with
  | none => yes
  | some (t, want) => guardB (env.get t) want yes no
theorem guardV_none (env : Env) (yes no : Prop) : guardV env none yes no = yes := rfl
theorem guardV_some (env : Env) (t : Nat) (w : Bool) (yes no : Prop) : guardV env (some (t, w)) yes no = guardB (env.get t) w yes no := rfl
def runOps (P : Program) (n : Nat) : List ROp → Env → Heap → (Env → Heap → Prop) → Prop
  | [], env, h, K => K env h
  | r :: rs, env, h, K => guardV env r.guard (runOp P n r env h fun env' h' => runOps P n rs env' h' K) (runOps P n rs (env.put r.dst (.tup [])) h K)
def DefOk (M : Mem) (ds : List Deferred) : Prop := ∃ Ds : List Nat, ds = Ds.map (fun D => { target := .collected D, args := #[] }) ∧ Ds.Nodup ∧ ∀ D ∈ Ds, M.df D
theorem DefOk.nil (M : Mem) : DefOk M [] := ⟨[], rfl, List.nodup_nil, fun _ h => by simp at h⟩
theorem DefOk.mono {M M' : Mem} {ds : List Deferred} (h : DefOk M ds) (hm : ∀ b, M.df b → M'.df b) : DefOk M' ds :=
  let ⟨Ds, h1, h2, h3⟩ := h; ⟨Ds, h1, h2, fun D hD => hm D (h3 D hD)⟩
def RepE (sz : Nat) (M : Mem) (env : Env) (a : Act) : Prop := a.tmps.size = sz ∧ DefOk M a.defers ∧ ∀ k, RepV M (env.get k) (a.tmps.getD k undef)
theorem Env.get_put_same (env : Env) (d : Nat) (v : V) : (env.put (some d) v).get d = v := by simp [Env.put, Env.get]
theorem Env.get_put_other (env : Env) {d k : Nat} (v : V) (h : k ≠ d) : (env.put (some d) v).get k = env.get k := by simp [Env.put, Env.get, h]
theorem RepE.put {sz : Nat} {M : Mem} {env : Env} {a : Act} {d : Option Nat} {v : V} {cv : Value} (hd : ∀ x, d = some x → x < sz) (h : RepE sz M env a) (hv : RepV M v cv) : RepE sz M (env.put d v) (a.put d cv) := by
  obtain ⟨h1, h2, h3⟩ := h
  cases d with
  | none => exact ⟨h1, h2, h3⟩
  | some d =>
    have hlt := hd d rfl
    refine ⟨by simp [Act.put, h1], h2, fun k => ?_⟩
    by_cases hk : k = d
    · subst hk
      rw [Env.get_put_same]
      simp only [Act.put]
      rw [← h1] at hlt
      simpa [Array.getD_eq_getD_getElem?, hlt] using hv
    · rw [Env.get_put_other _ _ hk]
      have := h3 k
      simp only [Act.put, Array.getD_eq_getD_getElem?, Array.getElem?_setIfInBounds_ne (Ne.symm hk)] at this ⊢
      exact this
theorem RepE.opnd {sz : Nat} {M : Mem} {env : Env} {a : Act} (h : RepE sz M env a) (x : Operand) : RepV M (Go.Proofs.Ytdnefcjbcieecaa.opnd env x) (a.eval x) := by
  cases x with
  | tmp t => exact h.2.2 t
  | const v => exact constV_rep M v
  | global g => exact .any _
  | func f => exact .d _ _ (.fn _)
theorem RepE.keep {sz : Nat} {M : Mem} {env : Env} {a : Act} (h : RepE sz M env a) (l : Option (List Nat)) : RepE sz M (env.keep l) a := by
  cases l with
  | none => exact h
  | some l =>
    refine ⟨h.1, h.2.1, fun k => ?_⟩
    have : (env.keep (some l)).get k = .any ∨ (env.keep (some l)).get k = env.get k := by
      rw [Env.keep_some]
      induction l with
      | nil => exact .inl rfl
      | cons j l ih =>
        simp only [List.map_cons, Env.get]
        split
        · rename_i e; subst e; exact .inr rfl
        · exact ih
    rcases this with h' | h'
    · rw [h']; exact .any _
    · rw [h']; exact h.2.2 k
def QQ (n sz : Nat) (M : Mem) (h : Heap) (w : World) (Q : CExit → Env → Heap → Prop) : Exit → Act → World → Prop := fun e a' w' =>
  ∃ M' env' h', Post n M h w M' h' w' ∧ RepE sz M' env' a' ∧ match e with
    | .normal => Q .normal env' h'
    | .exit id => Q (.exit id) env' h'
    | .ret => Q .ret env' h'
    | _ => False
def AWp (P : Program) (n sz : Nat) (c : Code) (Q : CExit → Env → Heap → Prop) (env : Env) (h : Heap) : Prop :=
  ∀ ro M w a, (hasRange c = true → ro = none) → M.cc = ccP P → Sim M h w → n ≤ h.length → RepE sz M env a → c.wpIn (fw ro) 0 P (QQ n sz M h w Q) a w
theorem RepE.post {n sz : Nat} {M M' : Mem} {h h' : Heap} {w w' : World} {env : Env} {a : Act} (p : Post n M h w M' h' w') (hE : RepE sz M env a) : RepE sz M' env a :=
  ⟨hE.1, hE.2.1.mono p.dc.1.1, fun k => p.rep (hE.2.2 k)⟩
section
variable {P : Program} {n sz : Nat}
theorem guard_sound {env : Env} {M : Mem} {a : Act} {ops : Array Oper} {o : Oper} {g : Option (Nat × Bool)} (hE : RepE sz M env a) {yes no : Prop}
    (hg : match o.guard with | none => g = none | some (j, want) => ∃ t, (ops[j]?).bind (·.dst) = some t ∧ g = some (t, want) ∧ t < sz) (hG : guardV env g yes no) :
    (Region.wanted o (yielded ops a.tmps) = true ∧ yes) ∨ (Region.wanted o (yielded ops a.tmps) = false ∧ no) := by
  cases ho : o.guard with
  | none =>
    rw [ho] at hg
    simp only at hg
    subst hg
    exact .inl ⟨by simp [Region.wanted, ho], hG⟩
  | some p =>
    obtain ⟨j, want⟩ := p
    rw [ho] at hg
    obtain ⟨t, h1, rfl, hlt⟩ := hg
    have hrep := hE.2.2 t
    have hget : a.tmps[t]? = some (a.tmps.getD t undef) := by
      have : t < a.tmps.size := by rw [hE.1]; exact hlt
      simp [Array.getD_eq_getD_getElem?, this]
    simp only [guardV, guardB] at hG
    split at hG
    · rename_i e
      rw [e] at hrep
      obtain ⟨arr, hp, hr⟩ := hrep.tupI
      have hy : yielded ops a.tmps j = none := by
        unfold yielded
        rw [h1]
        simp only [Option.bind_some, hget, hp]
      exact .inr ⟨by simp [Region.wanted, ho, hy], hG⟩
    · rename_i v hne
      have key : ∀ (b : Bool), env.get t = .d (.bool b) → yielded ops a.tmps j = some b := by
        intro b e
        rw [e] at hrep
        unfold yielded
        rw [h1]
        simp only [Option.bind_some, hget, hrep.boolI]
      cases want with
      | true =>
        simp only [if_true, brV] at hG
        split at hG
        · rename_i b e
          have hy := key b e
          cases b with
          | true => exact .inl ⟨by simp [Region.wanted, ho, hy], hG.1 rfl⟩
          | false => exact .inr ⟨by simp [Region.wanted, ho, hy], hG.2 rfl⟩
        · exact hG.elim
      | false =>
        simp only [Bool.false_eq_true, if_false, brV] at hG
        split at hG
        · rename_i b e
          have hy := key b e
          cases b with
          | true => exact .inr ⟨by simp [Region.wanted, ho, hy], hG.1 rfl⟩
          | false => exact .inl ⟨by simp [Region.wanted, ho, hy], hG.2 rfl⟩
        · exact hG.elim
end
end Go.Proofs.Ytdnefcjbcieecaa
namespace Go.Proofs.Ytdnefcjbcieecaa
open Go
section
variable {P : Program} {n sz : Nat}
theorem RepL.map {M : Mem} {ρV : Operand → V} {ρ : Operand → Value} (hρ : ∀ x, RepV M (ρV x) (ρ x)) (xs : List Operand) : RepL M (xs.map ρV) (xs.map ρ) := by
  refine ⟨by simp, fun k v c hv hc => ?_⟩
  rw [List.getElem?_map] at hv hc
  cases hx : xs[k]? with
  | none => rw [hx] at hv; cases hv
  | some x => rw [hx] at hv hc; cases hv; cases hc; exact hρ x
theorem RepL.append {M : Mem} {a b : List V} {x y : List Value} (h1 : RepL M a x) (h2 : RepL M b y) : RepL M (a ++ b) (x ++ y) := by
  refine ⟨by simp [h1.1, h2.1], fun k u c hu hc => ?_⟩
  rcases Nat.lt_or_ge k a.length with hl | hl
  · rw [List.getElem?_append_left hl] at hu
    rw [List.getElem?_append_left (by rw [← h1.1]; exact hl)] at hc
    exact h1.2 k u c hu hc
  · rw [List.getElem?_append_right hl] at hu
    rw [List.getElem?_append_right (by rw [← h1.1]; exact hl), ← h1.1] at hc
    exact h2.2 _ u c hu hc
def Nxt (n sz : Nat) (M : Mem) (h : Heap) (w : World) (K : Env → Heap → Prop) : Act → World → Prop := fun a' w' =>
  ∃ M' env' h', Post n M h w M' h' w' ∧ RepE sz M' env' a' ∧ K env' h'
theorem semAt_run {ro : Option Nat} {o : Oper} {a : Act} (hnd : ∀ c, o.op ≠ .defer c) : o.semAt (fw ro).round a.eval = execOp a.eval o := Oper.semAt_eq _ _ _ hnd
theorem call_sound {ro : Option Nat} {o : Oper} {a : Act} {w : World} {env : Env} {M : Mem} {h : Heap} {K : Env → Heap → Prop} {Q : Exit → Act → World → Prop} (f : Operand) (args : Array Operand) (ts : Array TypeId)
    (hop : o.op = .call { callee := .value f, args, argTypes := ts }) (hd : ∀ d, o.dst = some d → d < sz) (hm : M.cc = ccP P) (hs : Sim M h w) (hn : n ≤ h.length) (hE : RepE sz M env a)
    (hk : callV P (opnd env f) (args.toList.map (opnd env)) h fun v h' => K (env.put o.dst v) h') : o.wpIn (fw ro) 0 P a w (Nxt n sz M h w K) Q := by
  have hargs : RepL M (args.toList.map (opnd env)) (args.toList.map a.eval) := RepL.map hE.opnd args.toList
  have hf := hE.opnd f
  have hnd : ∀ c, o.op ≠ .defer c := fun c e => by rw [hop] at e; cases e
  have post : ∀ {e w'}, CallQ M h w (fun v h' => K (env.put o.dst v) h') e w' → ∃ cv, e = .returned cv ∧ Nxt n sz M h w K (a.put o.dst cv) w' := by
    rintro e w' ⟨cv, v, h', M', rfl, hp, hv, hK⟩
    exact ⟨cv, rfl, M', _, h', hp.mono hn, RepE.put hd (hE.post hp) hv, hK⟩
  have fin : ∀ g (vs : List V) (us : List Value), ACalls P g vs h (fun v h' => K (env.put o.dst v) h') → RepL M vs us → (execOp a.eval o).run P w = .ok (.enter g us.toArray) w → o.wpIn (fw ro) 0 P a w (Nxt n sz M h w K) Q := by
    intro g vs us hc hr he
    refine ⟨fun _ _ => trivial, ?_⟩
    rw [semAt_run hnd, he, Oper.uponIn_enter]
    refine ⟨fun h => (by cases h), ?_⟩
    refine callsIn_wide.2 ((hc.2 M w us hm hs hr).mono ?_)
    intro e w' hq
    obtain ⟨cv, rfl, hx⟩ := post hq
    exact hx
  have hexec : ∀ g fn (first caps : List Value), P.funcs[g]? = some fn → (fn.name == "runtime.NumGoroutine") = false → fn.body.isNone = false → a.eval f = .func (.func g) first.toArray caps.toArray →
      (execOp a.eval o).run P w = .ok (.enter g (first ++ args.toList.map a.eval ++ caps).toArray) w := by
    intro g fn first caps h1 h2 h3 h4
    obtain ⟨args⟩ := args
    have h2' : fn.name ≠ "runtime.NumGoroutine" := by simpa using h2
    have h3' : fn.body ≠ none := by intro e; rw [e] at h3; cases h3
    simp [execOp, hop, resolve, h4, Deferred.ofValue, invoke, callFunc, h1, h2', h3']
  unfold callV at hk
  split at hk
  · rename_i g e
    rw [e] at hf
    obtain ⟨fn, h1, h2, h3⟩ := hk.1
    have h4 : a.eval f = .func (.func g) #[] #[] := by generalize a.eval f = u at hf; cases hf with | d _ _ h => cases h; rfl
    exact fin g _ _ hk hargs (by simpa using hexec g fn [] [] h1 h2 h3 h4)
  · rename_i g first caps e
    rw [e] at hf
    obtain ⟨fn, h1, h2, h3⟩ := hk.1
    generalize hu : a.eval f = u at hf
    cases hf with
    | fn _ _ _ a1 a2 l1 l2 r1 r2 =>
      exact fin g _ _ hk ((RepL.append (RepL.append ⟨l1, r1⟩ hargs)) ⟨l2, r2⟩) (hexec g fn a1 a2 h1 h2 h3 hu)
  · rename_i id e
    rw [e] at hf
    have hf0 := hf
    generalize hu : a.eval f = u at hf hf0
    cases hf with
    | yl _ r l h1 hv =>
      obtain ⟨fn, tmps, assign, body, hy, hR⟩ := hk M w (args.toList.map a.eval) l hm hs hargs hf0
      have he : (execOp a.eval o).run P w = .ok (.round l fn tmps assign body) w := by
        obtain ⟨args⟩ := args
        simp only [execOp, hop, resolve, hu, Deferred.ofValue]
        simpa [invoke] using hy
      refine ⟨fun _ _ => trivial, ?_⟩
      rw [semAt_run hnd, he, Oper.uponIn_round]
      refine ⟨fun h => (by cases h), ?_⟩
      refine RoundIn.mono hR ?_
      intro e w' hq
      obtain ⟨cv, rfl, hx⟩ := post hq
      exact hx
  · exact hk.elim
theorem op_sound {ro : Option Nat} {o : Oper} {a : Act} {w : World} {env : Env} {M : Mem} {h : Heap} {K : Env → Heap → Prop} {Q : Exit → Act → World → Prop} {own : Bool} {c : RKind} {g : Option (Nat × Bool)}
    (hc : compAny P own o.op = some c) (hd : ∀ d, o.dst = some d → d < sz) (hm : M.cc = ccP P) (hs : Sim M h w) (hn : n ≤ h.length) (hE : RepE sz M env a)
    (hk : runOp P n ⟨o.dst, g, c⟩ env h K) : o.wpIn (fw ro) 0 P a w (Nxt n sz M h w K) Q := by
  unfold compAny at hc
  split at hc
  case h_2 => cases hc; exact hk.elim
  rename_i k0 hc0
  cases hc
  have hc := hc0
  have hnd : ∀ c, o.op ≠ .defer c := fun c e => by rw [e] at hc; simp [compAny0, compOp] at hc
  have out : Out n M h w (fun v h' => K (env.put o.dst v) h') ((execOp a.eval o).run P w) → o.wpIn (fw ro) 0 P a w (Nxt n sz M h w K) Q := by
    rintro ⟨cv, w', M', v, h', hr, hp, henv, hv, hK⟩
    refine ⟨fun _ _ => trivial, ?_⟩
    rw [semAt_run hnd]
    rcases hr with hr | ⟨hr, rfl⟩
    · rw [hr, Oper.uponIn_value]
      exact ⟨M', _, h', hp, RepE.put hd (hE.post hp) hv, hK⟩
    · rw [hr, Oper.uponIn_skip]
      exact ⟨M', _, h', hp, RepE.put hd (hE.post hp) hv, hK⟩
  have simple : ∀ {own c}, compOp P own o.op = some c → step c (opnd env) h (fun v h' => K (env.put o.dst v) h') → o.wpIn (fw ro) 0 P a w (Nxt n sz M h w K) Q :=
    fun hc hst => out (step_sound hc (fun _ => rfl) hE.opnd hs hn hst)
  unfold compAny0 at hc
  split at hc
  · rename_i f args ts hop
    cases hc
    exact call_sound f args ts hop hd hm hs hn hE hk
  · rename_i args ts hop
    split at hc
    · split at hc
      · rename_i e s2 bytes x y ha
        cases hc
        obtain ⟨t, i, rfl, rfl, hu, hi, h1, h2, rfl, rfl⟩ := appOf_spec ha
        simp only [runOp, onSl] at hk
        split at hk
        · refine simple (own := true) (c := .append true e i.size i.bytes x y) ?_ hk
          rw [hop]
          simp only [compOp, ha]
        · rename_i id g len ex
          obtain ⟨⟨e', s2', ds⟩, hrow, ⟨he1, he2, hdl⟩, ⟨m, xs⟩, hcn, ⟨hxl, hb1, hb2⟩, hK⟩ := hk
          simp only at he1 he2 hdl hxl hb1 hb2 hK
          subst he1 he2
          exact out (snd_append_own (n := n) (ρV := opnd env) (ρ := a.eval) (K := fun v h' => K (env.put o.dst v) h') t _ i x y hop hu hi h2 h1 (hE.opnd _) (hE.opnd _) hs hn ex (rowOf_some hrow) hdl hcn hxl hb1 hb2 hK)
        · refine simple (own := true) (c := .append true e i.size i.bytes x y) ?_ hk
          rw [hop]
          simp only [compOp, ha]
        · exact hk.elim
      · cases hc
    · obtain ⟨c', hc', he⟩ := map_some' hc
      cases he
      rw [← hop] at hc'
      exact simple hc' hk
  · obtain ⟨c', hc', he⟩ := map_some' hc
    cases he
    exact simple hc' hk
theorem compROp_spec {own : List Nat} {ops : Array Oper} {o : Oper} {r : ROp} (h : compROp P own sz ops o = some r) : ∃ ow c g, compAny P ow o.op = some c ∧ r = ⟨o.dst, g, c⟩ ∧ (∀ d, o.dst = some d → d < sz) ∧
    match o.guard with | none => g = none | some (j, want) => ∃ t, (ops[j]?).bind (·.dst) = some t ∧ g = some (t, want) ∧ t < sz := by
  unfold compROp at h
  split at h
  · rename_i hd
    have hd' : ∀ d, o.dst = some d → d < sz := by intro d e; rw [e] at hd; exact of_decide_eq_true hd
    cases hg : o.guard with
    | none =>
      rw [hg] at h
      obtain ⟨c, hc, rfl⟩ := map_some' h
      exact ⟨_, c, none, hc, rfl, hd', rfl⟩
    | some p =>
      obtain ⟨j, want⟩ := p
      rw [hg] at h
      simp only at h
      split at h
      · rename_i t ht
        split at h
        · rename_i hlt
          obtain ⟨c, hc, rfl⟩ := map_some' h
          exact ⟨_, c, some (t, want), hc, rfl, hd', t, ht, rfl, hlt⟩
        · cases h
      · cases h
  · cases h
theorem Nxt.trans {M M1 : Mem} {h h1 : Heap} {w w1 : World} {K : Env → Heap → Prop} {a : Act} {w' : World} (hp : Post n M h w M1 h1 w1) (hx : Nxt n sz M1 h1 w1 K a w') : Nxt n sz M h w K a w' :=
  let ⟨M2, env2, h2', hp2, hE2, hK2⟩ := hx; ⟨M2, env2, h2', hp.trans hp2, hE2, hK2⟩
theorem ops_sound {ro : Option Nat} {own : List Nat} {ops : Array Oper} {Q : Exit → Act → World → Prop} {K : Env → Heap → Prop} :
    ∀ (os : List Oper) (rs : List ROp) (k : Nat), compOps P own sz ops os = some rs → (∀ (j : Nat) o, os[j]? = some o → ops[k + j]? = some o) →
      ∀ (M : Mem) (h : Heap) (w : World) (a : Act) (env : Env), M.cc = ccP P → Sim M h w → n ≤ h.length → RepE sz M env a → runOps P n rs env h K →
      (∀ a' w', Nxt n sz M h w K a' w' → Q .normal a' w') → wpOpsIn (fw ro) 0 P ops Q (List.range' k os.length) a w
  | [], rs, k, hc, hops, M, h, w, a, env, hm, hs, hn, hE, hr, hQ => by
    cases hc
    exact hQ _ _ ⟨M, env, h, .refl hs hn, hE, hr⟩
  | o :: os, rs, k, hc, hops, M, h, w, a, env, hm, hs, hn, hE, hr, hQ => by
    unfold compOps at hc
    split at hc
    · rename_i r rs' h1 h2
      cases hc
      obtain ⟨ow, c, g, hcomp, rfl, hd, hg⟩ := compROp_spec h1
      have ho : ops[k]? = some o := by simpa using hops 0 o rfl
      have ih := ops_sound (ro := ro) (K := K) (Q := Q) os rs' (k + 1) h2 (fun j o' hj => by have := hops (j + 1) o' (by simpa using hj); rwa [show k + (j + 1) = k + 1 + j by omega] at this)
      rw [List.length_cons, List.range'_succ, wpOpsIn_cons]
      unfold wpOpIn
      simp only [ho]
      rcases guard_sound hE hg hr with ⟨hw, hy⟩ | ⟨hw, hy⟩
      · rw [if_pos hw]
        refine Oper.wpIn_mono (fun a' w' hx => ?_) (op_sound (n := n) hcomp hd hm hs hn hE hy)
        obtain ⟨M', env', h', hp, hE', hr'⟩ := hx
        exact ih M' h' w' a' env' (hp.dc.2.trans hm) hp.sim hp.len hE' hr' (fun a2 w2 hx => hQ _ _ (Nxt.trans hp hx))
      · rw [if_neg (by simp [hw])]
        exact ⟨fun _ _ => trivial, ih M h w _ _ hm hs hn (RepE.put hd hE (.tup [] [] rfl (fun k v c hv => by simp at hv))) hy hQ⟩
    · cases hc
end
end Go.Proofs.Ytdnefcjbcieecaa
