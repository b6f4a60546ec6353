/- Abstract values, the abstract heap, and what they say of a world. -/
import Derived.WalkKit
import Derived.Orders
import Derived.Laws.AppendOwn
set_option linter.unusedVariables false
set_option linter.unusedSimpArgs false
namespace Go.Proofs.Ytdnefcjbcieecaa
open Go

inductive D where
  | any
  | int (k : IntKind) (n : Int)
  | bool (b : Bool)
  | str (l : List UInt8)
  | nilf
  | nils
  | nilp
  | nili
  | fn (f : Fn)
  | sl (x : Bool) (len : Nat) (cs : List D)
  deriving Inhabited

inductive V where
  | any
  | d (x : D)
  | agg (cs : List V)
  | tup (vs : List V)
  | own (id g len : Nat)
  | ptr (id g off : Nat)
  | rptr (cs : List D) (off : Nat)
  | fn (f : Fn) (first caps : List V)
  | mp (id : Nat)
  | yl (id : Nat)
  deriving Inhabited

/-- The kind of a cell. -/
inductive SK where
  | int (k : IntKind)
  | bool
  | str
  deriving DecidableEq

inductive COp where
  | move (x : Operand)
  | pick (c a b : Operand)
  | alloc (zero : List V)
  | box (own : Bool) (x : Operand)
  | build (zero : List V) (parts : List (Nat × Nat × Operand))
  | bslice (own : Bool) (e sz len : Nat) (zero : List D) (parts : List (Nat × Operand))
  | load (agg : Option Nat) (x : Operand)
  | store (n : Nat) (x v : Operand)
  | bin (op : BinOp) (x y : Operand)
  | un (op : UnOp) (x : Operand)
  | conv (k : IntKind) (x : Operand)
  | fieldAddr (off : Nat) (x : Operand)
  | field (agg : Option Nat) (off : Nat) (x : Operand)
  | indexS (sz : Nat) (x i : Operand)
  | indexA (len sz : Nat) (x i : Operand)
  | extract (x : Operand) (k : Nat)
  | nilCheck (x : Operand)
  | mkfn (f : Fn) (first caps : List Operand)
  | len (x : Operand)
  | lenStr (x : Operand)
  | lenArr (m : Nat)
  | min (xs : List Operand)
  | max (xs : List Operand)
  | sliceS (sz : Nat) (x : Operand) (lo hi mx : Option Operand)
  | sliceA (len sz : Nat) (x : Operand) (lo hi : Option Operand)
  | append (own : Bool) (e sz bytes : Nat) (x y : Operand)
  | panic (x : Operand)
  | bad
  | eqA (neg : Bool) (sh : List SK) (x y : Operand)
  | mkmap
  | lookup (agg : Bool) (sh : List SK) (zero : V) (ok : Bool) (x k : Operand)
  | mupd (agg : Bool) (sh : List SK) (x k v : Operand)
  | mkslice (e sz bytes : Nat) (zero : List D) (l c : Operand)
  | isNil (k : Nat) (neg : Bool) (x : Operand)
  | binB (neg : Bool) (x y : Operand)
  | binS (op : BinOp) (x y : Operand)

abbrev Env := List (Nat × V)
def Env.get (env : Env) (k : Nat) : V :=
  match env with
  | [] => .any
  | (j, v) :: r => if k = j then v else Env.get r k

inductive RKind where
  | simple (c : COp)
  | call (f : Operand) (args : List Operand)
  | callx (f : Operand) (args : List Operand)
  | app (e sz bytes : Nat) (x y : Operand)

structure ROp where
  dst : Option Nat
  guard : Option (Nat × Bool)
  op : RKind

inductive CExit where
  | normal | exit (id : Nat) | ret

inductive CCode where
  | skip
  | region (ops : List ROp) (live : Option (List Nat))
  | both (a b : CCode)
  | frz (x : Nat × Option Nat)
  | rangeF (g : Operand) (ps : List Nat) (ca cb : CCode)
  | seq (a b : CCode)
  | cond (c : Operand) (a b : CCode)
  | block (id : Nat) (c : CCode)
  | loop (c : CCode)
  | exit (id : Nat)
  | ret

structure Cfg where
  own : List Nat
  lv : List (Nat × List Nat)
  sz : Nat
  fz : List (Nat × List (Nat × Option Nat)) := []


/-- The record of a range over a function. -/
structure LoopB where
  G : Cfg
  ca : CCode
  cb : CCode
  ps : List Nat
  env : Env
  st : LoopState
  pend : Option CExit
def codeX : CExit → Code
  | .normal => .skip
  | .exit id => .exit id
  | .ret => .ret

structure Ref where
  blk : Option Nat
  cap : Nat
  gen : Nat

structure Mem where
  ro : Nat → Nat → Option Value
  mu : Nat → Option Ref
  df : Nat → Prop
  cc : Cfg → Code → CCode → Prop

inductive RepD (ro : Nat → Nat → Option Value) : D → Value → Prop
  | any (v : Value) (h : v.oneCell' = true) : RepD ro .any v
  | int (k : IntKind) (n : Int) : RepD ro (.int k n) (.int k n)
  | bool (b : Bool) : RepD ro (.bool b) (.bool b)
  | str (l : List UInt8) : RepD ro (.str l) (.string ⟨l.toArray⟩)
  | nilf : RepD ro .nilf .nilFunc
  | nils : RepD ro .nils (.slice none 0 0)
  | nilp : RepD ro .nilp (.pointer none)
  | nili : RepD ro .nili .nilIface
  | fn (f : Fn) : RepD ro (.fn f) (.func f #[] #[])
  | sl (x : Bool) (len cap : Nat) (cs : List D) (ao : Option Addr) (b off : Nat) (vals : Nat → Value)
      (hl : len ≤ cap) (hm : cap ≤ maxLen) (hx : x = true → cap = len)
      (hao : cs = [] ∨ ao = some ⟨b, off, none⟩)
      (hro : ∀ k, k < cs.length → ro b (off + k) = some (vals k))
      (hrep : ∀ (k : Nat) c, cs[k]? = some c → RepD ro c (vals k)) : RepD ro (.sl x len cs) (.slice ao len cap)

inductive RepV (M : Mem) : V → Value → Prop
  | any (v : Value) : RepV M .any v
  | d (x : D) (v : Value) (h : RepD M.ro x v) : RepV M (.d x) v
  | agg (cs : List V) (arr : List Value) (hl : cs.length = arr.length)
      (h : ∀ (k : Nat) v c, cs[k]? = some v → arr[k]? = some c → RepV M v c)
      (h1 : ∀ u ∈ arr, u.oneCell' = true) : RepV M (.agg cs) (.agg arr.toArray)
  | tup (cs : List V) (arr : List Value) (hl : cs.length = arr.length)
      (h : ∀ (k : Nat) v c, cs[k]? = some v → arr[k]? = some c → RepV M v c) : RepV M (.tup cs) (.tuple arr.toArray)
  | own (id g len : Nat) (r : Ref) (ao : Option Addr) (cap : Nat) (h : M.mu id = some r) (hg : g ≤ r.gen) (hl : len ≤ cap) (hm : cap ≤ maxLen)
      (hv : r.gen = g → ao = r.blk.map (fun b => ⟨b, 0, none⟩) ∧ cap = r.cap) : RepV M (.own id g len) (.slice ao len cap)
  | ptr (id g off : Nat) (r : Ref) (b : Nat) (h : M.mu id = some r) (hg : g ≤ r.gen)
      (hv : r.gen = g → r.blk = some b) : RepV M (.ptr id g off) (.pointer (some ⟨b, off, none⟩))
  | rptr (cs : List D) (off b o : Nat) (vals : Nat → Value)
      (hro : ∀ k, k < cs.length → M.ro b (o + k) = some (vals k))
      (hrep : ∀ (k : Nat) c, cs[k]? = some c → RepD M.ro c (vals k)) : RepV M (.rptr cs off) (.pointer (some ⟨b, o + off, none⟩))
  | fn (f : Fn) (first caps : List V) (a1 a2 : List Value) (h1l : first.length = a1.length) (h2l : caps.length = a2.length)
      (h1 : ∀ (k : Nat) v c, first[k]? = some v → a1[k]? = some c → RepV M v c)
      (h2 : ∀ (k : Nat) v c, caps[k]? = some v → a2[k]? = some c → RepV M v c) : RepV M (.fn f first caps) (.func f a1.toArray a2.toArray)
  | mp (id : Nat) (r : Ref) (b : Nat) (h : M.mu id = some r) (hv : r.gen = 0 → r.blk = some b) : RepV M (.mp id) (.map (some b))
  | yl (id : Nat) (r : Ref) (b : Nat) (h : M.mu id = some r) (hv : r.gen = 0 → r.blk = some b) : RepV M (.yl id) (.func (.yield b) #[] #[])

def RepL (M : Mem) (vs : List V) (cs : List Value) : Prop :=
  vs.length = cs.length ∧ ∀ (k : Nat) v c, vs[k]? = some v → cs[k]? = some c → RepV M v c

inductive Blk where
  | box (cs : List V)
  | row (e sz g : Nat) (cs : List D)
  | obj (p : Obj → Prop)
  | map (es : List (V × V))
  | loop (l : LoopB)

abbrev Heap := List (Option Blk)

def RepDs (M : Mem) (ds : List D) (cs : List Value) : Prop :=
  ds.length = cs.length ∧ ∀ (k : Nat) x c, ds[k]? = some x → cs[k]? = some c → RepD M.ro x c

def EntsAt (M : Mem) (es : List (V × V)) (arr : Array MapEntry) : Prop :=
  es.length = arr.size ∧ ∀ (k : Nat) e x, es[k]? = some e → arr[k]? = some x → RepV M e.1 x.key ∧ RepV M e.2 x.val
def LoopAt (M : Mem) (L : LoopB) (rec : Loop) : Prop :=
  rec.state = L.st ∧ rec.pending = L.pend.map codeX ∧ rec.params = L.ps.toArray ∧ M.cc L.G rec.assign L.ca ∧ M.cc L.G rec.body L.cb ∧ rec.tmps.size = L.G.sz ∧
    ∀ k, RepV M (L.env.get k) (rec.tmps.getD k undef)

def BlkAt (M : Mem) (w : World) (r : Ref) : Blk → Prop
  | .box cs => r.gen = 0 ∧ ∃ b arr T, r.blk = some b ∧ w.heap[b]? = some (.cells arr T (0, 0)) ∧ RepL M cs arr.toList ∧ ∀ u ∈ arr.toList, u.oneCell' = true
  | .row e sz g cs => r.gen = g ∧ ((cs = [] ∧ r.blk = none ∧ r.cap = 0) ∨ ∃ b arr, r.blk = some b ∧ w.heap[b]? = some (.cells arr e (0, 0)) ∧
      arr.size = r.cap * sz ∧ r.cap ≤ maxLen ∧ cs.length ≤ arr.size ∧ RepDs M cs (arr.toList.take cs.length))
  | .obj p => r.gen = 0 ∧ ∃ b o, r.blk = some b ∧ w.heap[b]? = some o ∧ p o
  | .map es => r.gen = 0 ∧ ∃ b arr clock, r.blk = some b ∧ w.heap[b]? = some (.map arr clock) ∧ EntsAt M es arr
  | .loop L => r.gen = 0 ∧ ∃ b rec, r.blk = some b ∧ w.heap[b]? = some (.loop rec) ∧ LoopAt M L rec

def liveBlk (M : Mem) (h : Heap) (b : Nat) : Prop :=
  ∃ (i : Nat) (blk : Blk) (r : Ref), h[i]? = some (some blk) ∧ M.mu i = some r ∧ r.blk = some b

structure Sim (M : Mem) (h : Heap) (w : World) : Prop where
  blks : ∀ (i : Nat) blk, h[i]? = some (some blk) → ∃ r, M.mu i = some r ∧ BlkAt M w r blk
  inj : ∀ (i j : Nat) bi bj ri rj b, h[i]? = some (some bi) → h[j]? = some (some bj) → M.mu i = some ri → M.mu j = some rj →
    ri.blk = some b → rj.blk = some b → i = j
  ro : ∀ b o v, M.ro b o = some v → w.cell? ⟨b, o, none⟩ = some v ∧ ¬ liveBlk M h b
  dom : ∀ i, h.length ≤ i → M.mu i = none
  df : ∀ b, M.df b → w.heap[b]? = some (.deferred (some [])) ∧ ¬ liveBlk M h b

/-- Later knowledge: an entry is as it was, or it has a later generation. -/
def MuLe (M M' : Mem) : Prop := ∀ i r, M.mu i = some r → ∃ r', M'.mu i = some r' ∧ r.gen ≤ r'.gen ∧ (r'.gen = r.gen → r' = r)
theorem MuLe.refl (M : Mem) : MuLe M M := fun _ r h => ⟨r, h, Nat.le_refl _, fun _ => rfl⟩
theorem MuLe.trans {A B C : Mem} (h1 : MuLe A B) (h2 : MuLe B C) : MuLe A C := fun i r h => by
  obtain ⟨r1, e1, g1, k1⟩ := h1 i r h
  obtain ⟨r2, e2, g2, k2⟩ := h2 i r1 e1
  refine ⟨r2, e2, Nat.le_trans g1 g2, fun e => ?_⟩
  have h3 : r1.gen = r.gen := by omega
  have h4 := k1 h3
  have h5 := k2 (by omega)
  rw [h5, h4]

structure Post (n : Nat) (M : Mem) (h : Heap) (w : World) (M' : Mem) (h' : Heap) (w' : World) : Prop where
  ro : ∀ b o v, M.ro b o = some v → M'.ro b o = some v
  dc : ((∀ b, M.df b → M'.df b) ∧ (∀ b, b < w.heap.size → M'.df b → M.df b) ∧
    ∀ b o v, b < w.heap.size → M'.ro b o = some v → M.ro b o = some v ∨ liveBlk M h b) ∧ M'.cc = M.cc
  le : MuLe M M'
  len : n ≤ h'.length
  sim : Sim M' h' w'
  os : w'.os = w.os
  tape : w'.tape = w.tape
  output : w'.output = w.output
  size : w.heap.size ≤ w'.heap.size
  keep : ∀ b, b < w.heap.size → ¬ liveBlk M h b → w'.heap[b]? = w.heap[b]?
  live : ∀ b, b < w.heap.size → liveBlk M' h' b → liveBlk M h b

theorem Post.refl {n : Nat} {M : Mem} {h : Heap} {w : World} (hs : Sim M h w) (hn : n ≤ h.length) : Post n M h w M h w :=
  ⟨fun _ _ _ h => h, ⟨⟨fun _ h => h, fun _ _ h => h, fun _ _ _ _ h => .inl h⟩, rfl⟩, MuLe.refl M, hn, hs, rfl, rfl, rfl, Nat.le_refl _, fun _ _ _ => rfl, fun _ _ h => h⟩

theorem Post.trans {n : Nat} {M1 M2 M3 : Mem} {h1 h2 h3 : Heap} {w1 w2 w3 : World}
    (a : Post n M1 h1 w1 M2 h2 w2) (b : Post n M2 h2 w2 M3 h3 w3) : Post n M1 h1 w1 M3 h3 w3 where
  ro _ _ _ h := b.ro _ _ _ (a.ro _ _ _ h)
  dc := ⟨⟨fun k h => b.dc.1.1 k (a.dc.1.1 k h), fun k hk h => a.dc.1.2.1 k hk (b.dc.1.2.1 k (Nat.lt_of_lt_of_le hk a.size) h),
    fun k o v hk h => (b.dc.1.2.2 k o v (Nat.lt_of_lt_of_le hk a.size) h).elim (a.dc.1.2.2 k o v hk) fun hl => .inr (a.live k hk hl)⟩, b.dc.2.trans a.dc.2⟩
  le := a.le.trans b.le
  len := b.len
  sim := b.sim
  os := b.os.trans a.os
  tape := b.tape.trans a.tape
  output := b.output.trans a.output
  size := Nat.le_trans a.size b.size
  keep k hk hl := (b.keep k (Nat.lt_of_lt_of_le hk a.size) (fun h => hl (a.live k hk h))).trans (a.keep k hk hl)
  live k hk h := a.live k hk (b.live k (Nat.lt_of_lt_of_le hk a.size) h)

theorem Post.mono {n n' : Nat} {M1 M2 : Mem} {h1 h2 : Heap} {w1 w2 : World} (a : Post n M1 h1 w1 M2 h2 w2) (hn : n' ≤ n) : Post n' M1 h1 w1 M2 h2 w2 :=
  { a with len := Nat.le_trans hn a.len }

theorem RepD.mono {ro ro' : Nat → Nat → Option Value} (hr : ∀ b o v, ro b o = some v → ro' b o = some v) {x : D} {v : Value} (h : RepD ro x v) : RepD ro' x v := by
  induction h with
  | any v h => exact .any v h
  | int k n => exact .int k n
  | bool b => exact .bool b
  | str s => exact .str s
  | nilf => exact .nilf
  | nils => exact .nils
  | nilp => exact .nilp
  | nili => exact .nili
  | fn f => exact .fn f
  | sl x len cap cs ao b off vals hl hm hx hao hro hrep ih =>
    exact .sl x len cap cs ao b off vals hl hm hx hao (fun k hk => hr _ _ _ (hro k hk)) ih

theorem RepV.mono {M M' : Mem} (hr : ∀ b o v, M.ro b o = some v → M'.ro b o = some v) (hm : MuLe M M')
    {x : V} {v : Value} (h : RepV M x v) : RepV M' x v := by
  induction h with
  | any v => exact .any v
  | d x v h => exact .d x v (h.mono hr)
  | agg cs arr hl h h1 ih => exact .agg cs arr hl ih h1
  | tup cs arr hl h ih => exact .tup cs arr hl ih
  | own id g len r ao cap h hg hl hm' hv =>
    obtain ⟨r', e, g1, k⟩ := hm id r h
    exact .own id g len r' ao cap e (Nat.le_trans hg g1) hl hm' (fun eg => by have := k (by omega); subst this; exact hv eg)
  | ptr id g off r b h hg hv =>
    obtain ⟨r', e, g1, k⟩ := hm id r h
    exact .ptr id g off r' b e (Nat.le_trans hg g1) (fun eg => by have := k (by omega); subst this; exact hv eg)
  | rptr cs off b o vals hro hrep => exact .rptr cs off b o vals (fun k hk => hr _ _ _ (hro k hk)) (fun k c hk => (hrep k c hk).mono hr)
  | fn f first caps a1 a2 h1l h2l h1 h2 ih1 ih2 => exact .fn f first caps a1 a2 h1l h2l ih1 ih2
  | mp id r b h hv =>
    obtain ⟨r', e, g1, k⟩ := hm id r h
    exact .mp id r' b e (fun eg => by have := k (by omega); subst this; exact hv eg)
  | yl id r b h hv =>
    obtain ⟨r', e, g1, k⟩ := hm id r h
    exact .yl id r' b e (fun eg => by have := k (by omega); subst this; exact hv eg)

theorem RepL.mono {M M' : Mem} (hr : ∀ b o v, M.ro b o = some v → M'.ro b o = some v) (hm : MuLe M M')
    {x : List V} {v : List Value} (h : RepL M x v) : RepL M' x v :=
  ⟨h.1, fun k a b ha hb => (h.2 k a b ha hb).mono hr hm⟩

/-- What is represented stays so. -/
theorem Post.rep {n : Nat} {M M' : Mem} {h h' : Heap} {w w' : World} (p : Post n M h w M' h' w') {x : V} {v : Value} (hx : RepV M x v) : RepV M' x v := hx.mono p.ro p.le

theorem Sim.live_lt {M : Mem} {h : Heap} {w : World} (hs : Sim M h w) {b : Nat} (hl : liveBlk M h b) : b < w.heap.size := by
  obtain ⟨i, blk, r, hi, hr, hb⟩ := hl
  obtain ⟨r', hr', hat⟩ := hs.blks i blk hi
  rw [hr] at hr'; cases hr'
  cases blk with
  | box cs => obtain ⟨_, b', arr, T, h1, h2, _⟩ := hat; rw [hb] at h1; cases h1; exact (Array.getElem?_eq_some_iff.1 h2).1
  | row e sz g cs =>
    rcases hat.2 with ⟨_, h0, _⟩ | ⟨b', arr, h1, h2, _⟩
    · rw [h0] at hb; cases hb
    · rw [hb] at h1; cases h1; exact (Array.getElem?_eq_some_iff.1 h2).1
  | obj p => obtain ⟨_, b', o, h1, h2, _⟩ := hat; rw [hb] at h1; cases h1; exact (Array.getElem?_eq_some_iff.1 h2).1
  | map es => obtain ⟨_, b', o, c, h1, h2, _⟩ := hat; rw [hb] at h1; cases h1; exact (Array.getElem?_eq_some_iff.1 h2).1
  | loop L => obtain ⟨_, b', o, h1, h2, _⟩ := hat; rw [hb] at h1; cases h1; exact (Array.getElem?_eq_some_iff.1 h2).1

theorem EntsAt.mono {M M' : Mem} (hm : ∀ x v, RepV M x v → RepV M' x v) {es : List (V × V)} {arr : Array MapEntry} (h : EntsAt M es arr) : EntsAt M' es arr :=
  ⟨h.1, fun k e x he hx => ⟨hm _ _ (h.2 k e x he hx).1, hm _ _ (h.2 k e x he hx).2⟩⟩
theorem LoopAt.mono {M M' : Mem} (hm : ∀ x v, RepV M x v → RepV M' x v) (hc : M'.cc = M.cc) {L : LoopB} {rec : Loop} (h : LoopAt M L rec) : LoopAt M' L rec := by
  obtain ⟨h1, h2, h3, h4, h5, h6, h7⟩ := h
  exact ⟨h1, h2, h3, hc ▸ h4, hc ▸ h5, h6, fun k => hm _ _ (h7 k)⟩
theorem BlkAt.of_same {M M' : Mem} {w w' : World} {r : Ref} {blk : Blk} (hc : M'.cc = M.cc) (hr : ∀ b o v, M.ro b o = some v → M'.ro b o = some v)
    (hm : ∀ x v, RepV M x v → RepV M' x v)
    (hw : ∀ b, r.blk = some b → w'.heap[b]? = w.heap[b]?) (h : BlkAt M w r blk) : BlkAt M' w' r blk := by
  cases blk with
  | box cs =>
    obtain ⟨h0, b, arr, T, h1, h2, h3⟩ := h
    exact ⟨h0, b, arr, T, h1, by rw [hw b h1, h2], ⟨h3.1.1, fun k v c hv hc => hm _ _ (h3.1.2 k v c hv hc)⟩, h3.2⟩
  | row e sz g cs =>
    refine ⟨h.1, ?_⟩
    rcases h.2 with h | ⟨b, arr, h1, h2, h3, h4, h5, h6⟩
    · exact .inl h
    · exact .inr ⟨b, arr, h1, by rw [hw b h1, h2], h3, h4, h5, h6.1, fun k v c hv hc => (h6.2 k v c hv hc).mono hr⟩
  | obj p =>
    obtain ⟨h0, b, o, h1, h2, h3⟩ := h
    exact ⟨h0, b, o, h1, by rw [hw b h1, h2], h3⟩
  | map es =>
    obtain ⟨h0, b, o, c, h1, h2, h3⟩ := h
    exact ⟨h0, b, o, c, h1, by rw [hw b h1, h2], h3.mono hm⟩
  | loop L =>
    obtain ⟨h0, b, o, h1, h2, h3⟩ := h
    exact ⟨h0, b, o, h1, by rw [hw b h1, h2], h3.mono hm hc⟩

/-- A draw moves no memory. -/
theorem Sim.of_heap {M : Mem} {h : Heap} {w w' : World} (hs : Sim M h w) (he : w'.heap = w.heap) : Sim M h w' where
  blks i blk hi := by
    obtain ⟨r, hr, hat⟩ := hs.blks i blk hi
    exact ⟨r, hr, BlkAt.of_same rfl (fun _ _ _ h => h) (fun _ _ h => h) (fun b _ => by rw [he]) hat⟩
  inj := hs.inj
  ro b o v hv := by
    have := hs.ro b o v hv
    exact ⟨by rw [← this.1]; simp [World.cell?, he], this.2⟩
  dom := hs.dom
  df b hb := by rw [he]; exact hs.df b hb

theorem Post.of_heap {n : Nat} {M : Mem} {h : Heap} {w w' : World} (hs : Sim M h w) (hn : n ≤ h.length) (he : w'.heap = w.heap) (h1 : w'.os = w.os)
    (h2 : w'.tape = w.tape) (h3 : w'.output = w.output) : Post n M h w M h w' :=
  ⟨fun _ _ _ h => h, ⟨⟨fun _ h => h, fun _ _ h => h, fun _ _ _ _ h => .inl h⟩, rfl⟩, MuLe.refl M, hn, hs.of_heap he, h1, h2, h3, by rw [he]; exact Nat.le_refl _, fun _ _ _ => by rw [he], fun _ _ h => h⟩

/-- Dropping entries (what is no longer needed). -/
def Sub (h' h : Heap) : Prop := h'.length = h.length ∧ ∀ (i : Nat) blk, h'[i]? = some (some blk) → h[i]? = some (some blk)
theorem Sub.live {M : Mem} {h h' : Heap} (hs : Sub h' h) {b : Nat} (hl : liveBlk M h' b) : liveBlk M h b := by
  obtain ⟨i, blk, r, hi, hr⟩ := hl
  exact ⟨i, blk, r, hs.2 i blk hi, hr⟩
theorem Sim.sub {M : Mem} {h h' : Heap} {w : World} (hs : Sim M h w) (hsub : Sub h' h) : Sim M h' w where
  blks i blk hi := hs.blks i blk (hsub.2 i blk hi)
  inj i j bi bj ri rj b hi hj := hs.inj i j bi bj ri rj b (hsub.2 _ _ hi) (hsub.2 _ _ hj)
  ro b o v hv := ⟨(hs.ro b o v hv).1, fun hl => (hs.ro b o v hv).2 (hsub.live hl)⟩
  dom i hi := hs.dom i (by have := hsub.1; omega)
  df b hb := ⟨(hs.df b hb).1, fun hl => (hs.df b hb).2 (hsub.live hl)⟩

end Go.Proofs.Ytdnefcjbcieecaa
