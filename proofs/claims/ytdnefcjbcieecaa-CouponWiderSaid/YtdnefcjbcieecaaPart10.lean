/- A part of the proof. -/
import Derived.Test.YtdnefcjbcieecaaPart9
set_option linter.unusedVariables false
set_option linter.unusedSimpArgs false
namespace Go.Proofs.Ytdnefcjbcieecaa
open Go Go.Proofs
noncomputable section
def wS (x:Trd):Int := x.sold.hi - x.sold.lo + 1
def wD (x:Trd):Int := x.deliv.hi - x.deliv.lo + 1
theorem trade_wide {c:Cmp} (hf:faultM c = 0) {k:Nat} (hk:k < c.trades.length):0 ≤ (lat c.trades (k:Nat)).sold.lo ∧ (lat c.trades (k:Nat)).sold.hi ≤ 11 ∧ 0 ≤ (lat c.trades (k:Nat)).deliv.lo ∧ (lat c.trades (k:Nat)).deliv.hi ≤ 11 ∧ 1 ≤ wS (lat c.trades (k:Nat)) ∧ wS (lat c.trades (k:Nat)) ≤ 3 ∧ 1 ≤ wD (lat c.trades (k:Nat)) ∧ wD (lat c.trades (k:Nat)) ≤ 3 := by
 have htr := trade_in hf hk
 simp only [okTr,Bool.and_eq_true,Rng.short,Rng.days,Rng.has,inR,isDay,decide_eq_true_eq] at htr
 unfold wS wD
 omega
end
end Go.Proofs.Ytdnefcjbcieecaa
namespace Go.Proofs.Ytdnefcjbcieecaa
open Go Go.Proofs
noncomputable section
instance:DecidableEq Rng := fun a b => decidable_of_iff (a.lo = b.lo ∧ a.hi = b.hi) ⟨fun h => by cases a; cases b; simp only at h; rw [h.1,h.2],fun h => by rw [h]; exact ⟨rfl,rfl⟩⟩
end
end Go.Proofs.Ytdnefcjbcieecaa
namespace Go.Proofs.Ytdnefcjbcieecaa
open Go Go.Proofs
noncomputable section
end
end Go.Proofs.Ytdnefcjbcieecaa
namespace Go.Proofs.Ytdnefcjbcieecaa
open Go Go.Proofs
noncomputable section
end
end Go.Proofs.Ytdnefcjbcieecaa
namespace Go.Proofs.Ytdnefcjbcieecaa
open Go Go.Proofs
noncomputable section
theorem upto_mem {a b x:Int}:x ∈ upto a b ↔ a ≤ x ∧ x ≤ b := by
 simp only [upto,List.mem_map,List.mem_range]
 constructor
 ·rintro ⟨k,hk,rfl⟩; omega
 ·intro h; exact ⟨(x - a).toNat,by omega,by omega⟩
def datedL:List Trd → List Int → List Int → Prop
 | [],[],[] => True
 | x :: xs,s :: ss,d :: ds => x.sold.has s = true ∧ x.deliv.has d = true ∧ s ≤ d ∧ datedL xs ss ds
 | _,_,_ => False
theorem comp_mem {c:Cmp}:∀ (xs:List Trd) (t u:Tru),u ∈ comp c xs t ↔ ∃ ss ds,datedL xs ss ds ∧ u = ⟨t.sold ++ ss,t.deliv ++ ds⟩
 | [],t,u => by
  simp only [comp,List.mem_singleton]
  constructor
  ·rintro rfl; exact ⟨[],[],trivial,by simp⟩
  ·rintro ⟨ss,ds,h,rfl⟩
   cases ss with
   | nil => cases ds with
    | nil => simp
    | cons => exact h.elim
   | cons => exact h.elim
 | x :: xs,t,u => by
  simp only [comp,List.mem_flatMap,upto_mem]
  constructor
  ·rintro ⟨s,hs,d,hd,h⟩
   obtain ⟨ss,ds,h2,rfl⟩ := (comp_mem xs _ u).1 h
   have hmx:s ≤ max2 s x.deliv.lo ∧ x.deliv.lo ≤ max2 s x.deliv.lo := by unfold max2; split <;> omega
   refine ⟨s :: ss,d :: ds,⟨?_, ?_,by omega,h2⟩,by simp [Tru.snoc]⟩
   ·simp only [Rng.has,inR,decide_eq_true_eq]; omega
   ·simp only [Rng.has,inR,decide_eq_true_eq]; omega
  ·rintro ⟨ss,ds,h,rfl⟩
   cases ss with
   | nil => exact h.elim
   | cons s ss => cases ds with
    | nil => exact h.elim
    | cons d ds =>
     obtain ⟨h1,h2,h3,h4⟩ := h
     simp only [Rng.has,inR,decide_eq_true_eq] at h1 h2
     have hmx:max2 s x.deliv.lo ≤ d := by unfold max2; split <;> omega
     exact ⟨s,by omega,d,by omega,(comp_mem xs _ _).2 ⟨ss,ds,h4,by simp [Tru.snoc]⟩⟩
theorem datedL_len:∀ (xs:List Trd) (ss ds:List Int),datedL xs ss ds → ss.length = xs.length ∧ ds.length = xs.length
 | [],[],[],_ => ⟨rfl,rfl⟩
 | x :: xs,s :: ss,d :: ds,h => by
  have := datedL_len xs ss ds h.2.2.2
  simp [this]
theorem datedL_iff:∀ (xs:List Trd) (ss ds:List Int),ss.length = xs.length → ds.length = xs.length → (datedL xs ss ds ↔ ∀ k:Nat,k < xs.length → (lat xs (k:Nat)).sold.has (lat ss (k:Nat)) = true ∧ (lat xs (k:Nat)).deliv.has (lat ds (k:Nat)) = true ∧ lat ss (k:Nat) ≤ lat ds (k:Nat))
 | [],[],[],_,_ => ⟨fun _ k hk => by simp at hk,fun _ => trivial⟩
 | x :: xs,s :: ss,d :: ds,h1,h2 => by
  have ih := datedL_iff xs ss ds (by simpa using h1) (by simpa using h2)
  constructor
  ·rintro ⟨a,b,e,f⟩ k hk
   cases k with
   | zero => exact ⟨a,b,e⟩
   | succ k => exact ih.1 f k (by simpa using hk)
  ·intro h
   have h0 := h 0 (by simp)
   exact ⟨h0.1,h0.2.1,h0.2.2,ih.2 fun k hk => h (k + 1) (by simpa using hk)⟩
theorem comp_dated {c:Cmp} {u:Tru}:u ∈ comp c c.trades ⟨[],[]⟩ ↔ datedB c u = true := by
 rw [comp_mem]
 simp only [List.nil_append,datedB,decide_eq_true_eq]
 constructor
 ·rintro ⟨ss,ds,h,rfl⟩
  obtain ⟨l1,l2⟩ := datedL_len _ _ _ h
  refine ⟨l1,l2,fun k hk => ?_⟩
  have := (datedL_iff _ _ _ l1 l2).1 h k hk
  simp [datK,this]
 ·rintro ⟨l1,l2,h⟩
  refine ⟨u.sold,u.deliv,(datedL_iff _ _ _ l1 l2).2 fun k hk => ?_,rfl⟩
  have := h k hk
  simp only [datK,Bool.and_eq_true,decide_eq_true_eq] at this
  exact ⟨this.1.1,this.1.2,this.2⟩
theorem truthsP_mem {c:Cmp} {u:Tru}:u ∈ truthsP c ↔ truthB c u = true := by
 simp only [truthsP,List.mem_filter,comp_dated,truthB,Bool.and_eq_true]
end
end Go.Proofs.Ytdnefcjbcieecaa
namespace Go.Proofs.Ytdnefcjbcieecaa
open Go Go.Proofs
noncomputable section
def Span (M:Tru → List Int) (l:List Tru) (k:Nat) (r:Rng):Prop := (∃ t ∈ l,lat (M t) (k:Nat) = r.lo) ∧ (∃ t ∈ l,lat (M t) (k:Nat) = r.hi) ∧ ∀ t ∈ l,r.lo ≤ lat (M t) (k:Nat) ∧ lat (M t) (k:Nat) ≤ r.hi
theorem Span.uniq {M:Tru → List Int} {l l' : List Tru} (hm:∀ t,t ∈ l ↔ t ∈ l') {k:Nat} {r r' : Rng} (h:Span M l k r) (h' : Span M l' k r'):r = r' := by
 obtain ⟨⟨t1,m1,e1⟩,⟨t2,m2,e2⟩,h3⟩ := h
 obtain ⟨⟨s1,n1,f1⟩,⟨s2,n2,f2⟩,g3⟩ := h'
 have a1 := g3 t1 ((hm _).1 m1)
 have a2 := g3 t2 ((hm _).1 m2)
 have b1 := h3 s1 ((hm _).2 n1)
 have b2 := h3 s2 ((hm _).2 n2)
 cases r; cases r'
 simp only at *
 congr 1 <;> omega
theorem Span.one (M:Tru → List Int) (t:Tru) (k:Nat):Span M [t] k ⟨lat (M t) (k:Nat),lat (M t) (k:Nat)⟩ :=
 ⟨⟨t,by simp,rfl⟩,⟨t,by simp,rfl⟩,fun u hu => by simp only [List.mem_singleton] at hu; subst hu; exact ⟨Int.le_refl _,Int.le_refl _⟩⟩
theorem Span.snoc {M:Tru → List Int} {l:List Tru} {k:Nat} {r:Rng} (h:Span M l k r) (t:Tru):Span M (l ++ [t]) k ⟨min2 r.lo (lat (M t) (k:Nat)),max2 r.hi (lat (M t) (k:Nat))⟩ := by
 obtain ⟨⟨t1,m1,e1⟩,⟨t2,m2,e2⟩,h3⟩ := h
 have hmin:∀ a b:Int,(min2 a b = a ∨ min2 a b = b) ∧ min2 a b ≤ a ∧ min2 a b ≤ b := fun a b => by unfold min2; split <;> omega
 have hmax:∀ a b:Int,(max2 a b = a ∨ max2 a b = b) ∧ a ≤ max2 a b ∧ b ≤ max2 a b := fun a b => by unfold max2; split <;> omega
 have p1 := hmin r.lo (lat (M t) (k:Nat))
 have p2 := hmax r.hi (lat (M t) (k:Nat))
 refine ⟨?_, ?_,fun u hu => ?_⟩
 ·rcases p1.1 with e | e
  ·exact ⟨t1,by simp [m1],by rw [e1]; exact e.symm⟩
  ·exact ⟨t,by simp,e.symm⟩
 ·rcases p2.1 with e | e
  ·exact ⟨t2,by simp [m2],by rw [e2]; exact e.symm⟩
  ·exact ⟨t,by simp,e.symm⟩
 ·simp only [List.mem_append,List.mem_singleton] at hu
  rcases hu with hu | rfl
  ·have := h3 u hu
   simp only; omega
  ·simp only; omega
theorem lat_set {l:List Rng} {k:Nat} {x:Rng} (h:k < l.length) (j:Nat):lat (l.set k x) (j:Nat) = if j = k then x else lat l (j:Nat) := by
 unfold lat
 simp only [Int.toNat_natCast,List.getD_eq_getElem?_getD,List.getElem?_set]
 by_cases e:k = j
 ·subst e; simp [h]
 ·rw [if_neg e,if_neg (fun h => e h.symm)]
theorem lat_snocR {l:List Rng} {x:Rng} (j:Nat) (h:j < l.length):lat (l ++ [x]) (j:Nat) = lat l (j:Nat) := by
 simp [lat,List.getD,h,List.getElem?_append_left]
theorem lat_lastR {l:List Rng} {x:Rng} {j:Nat} (h:j = l.length):lat (l ++ [x]) (j:Nat) = x := by
 subst h; simp [lat,List.getD]
theorem rK_true {rl:List Rng} {l:List Int} (hl:rl.length = l.length):∀ j,j ≤ l.length → ∀ k:Nat,lat (rK true rl l j) (k:Nat) = if k < j then ⟨min2 (lat rl (k:Nat)).lo (lat l (k:Nat)),max2 (lat rl (k:Nat)).hi (lat l (k:Nat))⟩ else lat rl (k:Nat)
 | 0,_,k => by simp [rK]
 | j + 1,hj,k => by
  have ih := rK_true hl j (by omega)
  have hlen:(rK true rl l j).length = l.length := by rw [rK_len,if_pos rfl,hl]
  simp only [rK,if_true]
  rw [lat_set (by omega)]
  have ihj := ih j
  rw [if_neg (by omega)] at ihj
  rw [ihj]
  by_cases e:k = j
  ·subst e; rw [if_pos rfl,if_pos (by omega)]; rfl
  ·rw [if_neg e,ih k]
   by_cases g:k < j
   ·rw [if_pos g,if_pos (by omega)]
   ·rw [if_neg g,if_neg (by omega)]
theorem rK_false {l:List Int}:∀ j,j ≤ l.length → ∀ k:Nat,k < j → lat (rK false [] l j) (k:Nat) = ⟨lat l (k:Nat),lat l (k:Nat)⟩
 | 0,_,k,hk => by omega
 | j + 1,hj,k,hk => by
  have ih := rK_false (l := l) j (by omega)
  have hlen:(rK false [] l j).length = j := by rw [rK_len]; rfl
  simp only [rK,Bool.false_eq_true,if_false]
  rw [lat_set (by simp; omega),lat_lastR hlen.symm]
  have hmm:∀ a:Int,leastL [a,a] = a ∧ max2 a a = a := fun a => by
   refine ⟨?_,by unfold max2; split <;> rfl⟩
   show min2 a a = a
   unfold min2; split <;> rfl
  by_cases e:k = j
  ·subst e; rw [if_pos rfl]; simp only [hmm]
  ·rw [if_neg e,lat_snocR k (by omega),ih k (by omega)]
theorem bndL_span {M:Tru → List Int} {N:Nat}:∀ (l pre:List Tru) (rl:List Rng),(∀ t ∈ l,(M t).length = N) → rl.length = N → (∀ k,k < N → Span M pre k (lat rl (k:Nat))) →
  (bndL M l (true,rl)).2.length = N ∧ ∀ k,k < N → Span M (pre ++ l) k (lat (bndL M l (true,rl)).2 (k:Nat))
 | [],pre,rl,_,h1,h2 => by simpa [bndL] using And.intro h1 h2
 | t :: l,pre,rl,hM,h1,h2 => by
  have ht := hM t (by simp)
  have hlen:(rK true rl (M t) (M t).length).length = N := by rw [rK_len,if_pos rfl,h1]
  have ih := bndL_span l (pre ++ [t]) (rK true rl (M t) (M t).length) (fun u hu => hM u (by simp [hu])) hlen (fun k hk => by
   rw [rK_true (by rw [h1,ht]) (M t).length (Nat.le_refl _) k,if_pos (by omega)]
   exact (h2 k hk).snoc t)
  rw [bndL]
  simpa using ih
theorem bndM_span {M:Cmp → Tru → Dvd → List Int} {c:Cmp} {d:Dvd} {N:Nat} (hM:∀ t ∈ truthsP c,(M c t d).length = N) (hne:(truthsP c).isEmpty = false) :
  (bndM M c d).length = N ∧ ∀ k,k < N → Span (fun t => M c t d) (truthsP c) k (lat (bndM M c d) (k:Nat)) := by
 unfold bndM
 generalize truthsP c = l at *
 cases l with
 | nil => simp at hne
 | cons t l =>
  have ht := hM t (by simp)
  have hlen:(rK false [] (M c t d) (M c t d).length).length = N := by rw [rK_len]; exact ht
  have := bndL_span (M := fun t => M c t d) (N := N) l [t] (rK false [] (M c t d) (M c t d).length) (fun u hu => hM u (by simp [hu])) hlen (fun k hk => by
   rw [rK_false (M c t d).length (Nat.le_refl _) k (by omega)]
   exact Span.one (fun t => M c t d) t k)
  rw [bndL]
  exact this
end
end Go.Proofs.Ytdnefcjbcieecaa
namespace Go.Proofs.Ytdnefcjbcieecaa
open Go Go.Proofs
noncomputable section
end
end Go.Proofs.Ytdnefcjbcieecaa
namespace Go.Proofs.Ytdnefcjbcieecaa
open Go Go.Proofs
noncomputable section
end
end Go.Proofs.Ytdnefcjbcieecaa
namespace Go.Proofs.Ytdnefcjbcieecaa
open Go Go.Proofs
noncomputable section
theorem q5:FunIs Try.prog 5 G5 c5 r5 := ⟨Try.f5,Try.func5,k5,e5,by kernel_rfl,by kernel_rfl⟩
def ent33 := entCI (fun _ _ => True) (fun c n => .tup [vsl eR (bdL paidM c n),vsl eR (bdL claimsM c n),vsl eR (bdL rightsM c n),vi (bdE c n)])
theorem ent33_ok:EntOk Try.prog 33 ent33 := entCI_ok fun c n _ => y33 c n
theorem vslR {n:Nat} {cs:List D} (h:enc eR (dec 2 gR n cs) = cs):V.d (.sl false n cs) = vsl eR (dec 2 gR n cs) := by unfold vsl dsl; rw [h,dec_len]
end
end Go.Proofs.Ytdnefcjbcieecaa
namespace Go.Proofs.Ytdnefcjbcieecaa
open Go Go.Proofs
noncomputable section
theorem fin_CU (c:Cmp) (t:Tru) (h:Heap):VLe (finX 0 (.tup [Cv c,Uv t]) h).1 (.tup [Cv c,Uv t]) := by
 simp [finX,rowsIn,rowsIn1,rowIn,frzRows,Cv,Uv,bel2,bel1,bel0]
 exact .refl _
theorem dC_more (c:Cmp) (x:Trd):dC c.houses c.held.length (enc eI c.held) (0 + c.trades.length + 1) ([] ++ enc eT c.trades ++ eT x) c.divs.length (enc eV c.divs) c.splits.length (enc eS c.splits) c.closed.length (enc eR c.closed) = c.more x := by
 have := dec_snoc (sz := 7) (f := eT) (g := gT) (fun _ => rfl) (fun _ => rfl) c.trades x
 simp only [dC,dec_I,dec_V,dec_S,dec_R,this,Cmp.more]
theorem dU_more (t:Tru) (s d:Int):dU (t.sold.length + 1) (enc eI t.sold ++ eI s) (t.deliv.length + 1) (enc eI t.deliv ++ eI d) = t.more s d := by
 have e1 := dec_snoc (sz := 1) (f := eI) (g := gI) (fun _ => rfl) (fun _ => rfl) t.sold s
 have e2 := dec_snoc (sz := 1) (f := eI) (g := gI) (fun _ => rfl) (fun _ => rfl) t.deliv d
 simp only [Nat.zero_add,List.nil_append] at e1 e2
 simp only [dU,e1,e2,Tru.more]
abbrev Q41 (c:Cmp) (t:Tru):CExit → Env → Heap → Prop := retQ r41 fun v1 h1 => VLe (finX 0 v1 h1).1 (.tup [Cv c,Uv t])
abbrev R41 (c:Cmp) (t:Tru):V → Heap → Prop := fun v1 h1 => VLe (finX 0 v1 h1).1 (.tup [Cv c,Uv t])
theorem Cbox_more (c:Cmp) (x:Trd):Cbox (c.more x) = [V.d (D.int .i64 c.houses),V.d (D.sl false c.held.length (enc eI c.held)),V.d (D.sl false (0 + c.trades.length + 1) ([] ++ enc eT c.trades ++ eT x)),V.d (D.sl false c.divs.length (enc eV c.divs)),V.d (D.sl false c.splits.length (enc eS c.splits)),V.d (D.sl false c.closed.length (enc eR c.closed))] := by
 simp [Cbox,Cmp.more,enc_append,enc_one,vi]
theorem Ubox_more (t:Tru) (s d:Int):Ubox (t.more s d) = [V.d (D.sl false (t.sold.length + 1) (enc eI t.sold ++ eI s)),V.d (D.sl false (t.deliv.length + 1) (enc eI t.deliv ++ eI d))] := by
 simp [Ubox,Tru.more,enc_append,enc_one]
set_option maxHeartbeats 4000000 in
set_option maxRecDepth 100000 in
theorem l41d (hl ws:List Int) (m:Int) (hb:begunB hl = true) (hw:isWords ws) (h0:0 ≤ m) (h1:m ≤ 255) :
  lpS Try.prog G41 0 (CCode.at c41 [1,1,1,1,1,1,1,0,1,0,0]) [Fr.blk 6,Fr.seq (CCode.at c41 [1,1,1,1,1,1,1,1])] (Q41 (dealt hl ws m).1 (dealt hl ws m).2) (E41 hl ws m ++ [(16,.ptr 6 0 0),(17,vi 0)]) (H41d (base hl ws) ⟨[],[]⟩) := by
 have hN := dealN_le hl m h0 h1
 have hbo := begun_ok hb
 have hm5 := wd h0 (by omega) (n := 5) (by omega)
 have hwr:IntKind.wrap .i64 m = m := wrap_i64 (by omega) (by omega)
 refine lp_count X41_ok (dealN hl m) (fun _ => True) (fun k => E41 hl ws m ++ [(16,.ptr 6 0 0),(17,vi k)]) (fun k => H41d (dealK hl ws k).1 (dealK hl ws k).2) rfl rfl trivial (fun k _ => ⟨rfl,rfl,rfl⟩) ?_
 intro k hk _ Q' hn he hr
 rw [b41d]
 have hcount:(k < dealN hl m ↔ ((k:Int) < m.tmod 5 ∧ 1 < hl.length)) ∧ (1 < hl.length ∨ k = 0) := by
  rcases Nat.lt_or_ge 1 hl.length with hlen | hlen
  ·have eN:dealN hl m = (m.tmod 5).toNat := if_pos hlen
   rw [eN]
   exact ⟨⟨fun h => ⟨by omega,hlen⟩,fun h => by omega⟩,.inl hlen⟩
  ·have eN:dealN hl m = 0 := if_neg (by omega)
   rw [eN] at hk ⊢
   exact ⟨⟨fun h => by omega,fun h => by omega⟩,.inr (by omega)⟩
 have ho := dealK_ok hb hw k (by omega) (by omega)
 have hend:¬ k < dealN hl m → (dealK hl ws k) = dealt hl ws m := fun h => by
  have:k = dealN hl m := by omega
  rw [this]; rfl
 generalize hc:(dealK hl ws k).1 = c at *
 generalize ht:(dealK hl ws k).2 = t at *
 have hct:dealK hl ws k = (c,t) := by rw [← hc, ← ht]
 have hw1 := word_in hw (2 * (k:Int) + 8) (by omega)
 have hw2 := word_in hw (2 * (k:Int) + 9) (by omega)
 have hstep:dealK hl ws (k + 1) = if truthB (c.more (dTrd hl.length (wordM ws (2 * (k:Int) + 8)) (wordM ws (2 * (k:Int) + 9)))) (t.more (dS (wordM ws (2 * (k:Int) + 9))) (dD (wordM ws (2 * (k:Int) + 9)))) = true
   then (c.more (dTrd hl.length (wordM ws (2 * (k:Int) + 8)) (wordM ws (2 * (k:Int) + 9))),t.more (dS (wordM ws (2 * (k:Int) + 9))) (dD (wordM ws (2 * (k:Int) + 9)))) else (c,t) := by rw [dealK,hct]
 have hh:c.houses = (hl.length:Int) := by rw [← (fault_ok ho.fault).1.2.2.1,ho.held]
 simp only [hstep] at hn
 simp only [holds,Int.ofNat_eq_natCast,hwr,dec_W,true_and,and_true]
 generalize wordM ws (2 * (k:Int) + 8) = w at *
 generalize wordM ws (2 * (k:Int) + 9) = v at *
 have e70:dC c.houses c.held.length (enc eI c.held) (0 + c.trades.length + 1) ([] ++ enc eT c.trades ++ [D.int .i64 (w.tmod hl.length),D.int .i64 ((w.tmod hl.length + 1 + (w.tdiv 128).tmod ((hl.length:Int) - 1)).tmod hl.length),D.int .i64 (1 + (w.tdiv 4).tmod 20),D.int .i64 (max2 0 (v.tmod 12 - (v.tdiv 64).tmod 2)),D.int .i64 (min2 11 (v.tmod 12 + (v.tdiv 128).tmod 2)),D.int .i64 (max2 0 (min2 11 (v.tmod 12 + (v.tdiv 16).tmod 4) - (v.tdiv 256).tmod 2)),D.int .i64 (min2 11 (min2 11 (v.tmod 12 + (v.tdiv 16).tmod 4) + (v.tdiv 512).tmod 2))]) c.divs.length (enc eV c.divs) c.splits.length (enc eS c.splits) c.closed.length (enc eR c.closed) = c.more (dTrd hl.length w v) := dC_more c (dTrd hl.length w v)
 have e71:dU (t.sold.length + 1) (enc eI t.sold ++ [D.int .i64 (v.tmod 12)]) (t.deliv.length + 1) (enc eI t.deliv ++ [D.int .i64 (min2 11 (v.tmod 12 + (v.tdiv 16).tmod 4))]) = t.more (dS v) (dD v) := dU_more t (dS v) (dD v)
 have f1 := Cbox_more c (dTrd hl.length w v)
 have f2 := Ubox_more t (dS v) (dD v)
 have hY:truthB (c.more (dTrd hl.length w v)) (t.more (dS v) (dD v)) = true → k < dealN hl m → ∀ J,_ := fun h hlt J => by
  have := hn J hlt trivial
  rw [if_pos h] at this
  simp only [H41d,f1,f2] at this
  exact this
 have hNo:truthB (c.more (dTrd hl.length w v)) (t.more (dS v) (dD v)) = false → k < dealN hl m → ∀ J,_ := fun h hlt J => by
  have := hn J hlt trivial
  rw [if_neg (by rw [h]; decide)] at this
  exact this
 simp only [e70,e71]
 have hexit:¬ k < dealN hl m → ∀ (u:Int) (v:Bool),Q' (.exit 6) (E41 hl ws m ++ [(16,.ptr 6 0 0),(17,vi u),(130,vb v)]) (H41d c t) := fun h u v => by
  have e := hend h
  rw [hct] at e
  refine he _ _ _ (ret_tree (R := R41 (dealt hl ws m).1 (dealt hl ws m).2) X41_ok (doneK_ok rfl) (x41d _ _ _ c t u v) ?_)
  simp only [holds,and_self,true_and]
  rw [← e]
  exact fin_CU c t _
 refine ⟨by decide,fun e1 => ⟨fun e2 => ?_,fun e2 => ?_⟩,fun e1 => ?_⟩
 ·have hlen:1 < hl.length := by have := of_decide_eq_true e2; omega
  have hlt:k < dealN hl m := hcount.1.2 ⟨of_decide_eq_true e1,hlen⟩
  have hY2 := fun h => hY h hlt
  have hN2 := fun h => hNo h hlt
  have hx:okTr c.houses (dTrd hl.length w v) = true := by rw [hh]; exact dTrd_ok (by omega) (by omega) hw1.1 hw1.2 hw2.1 hw2.2
  have hfm := fault_more ho.fault (by have := ho.len; omega) hx
  obtain ⟨l1,l2⟩ := dated_len (by have := ho.truth; simp only [truthB,Bool.and_eq_true] at this; exact this.1)
  have htl := ho.len
  have hCv:Cv (c.more (dTrd hl.length w v)) = V.agg (Cbox (c.more (dTrd hl.length w v))) := rfl
  have hUv:Uv (t.more (dS v) (dD v)) = V.agg (Ubox (t.more (dS v) (dD v))) := rfl
  rw [f1] at hCv
  rw [f2] at hUv
  have hk4:(k:Int) ≤ 4 := by omega
  have hw3 := hw.1
  have hw4 := hw.2
  have htl4:c.trades.length ≤ 4 := by omega
  have a1 := wd hw1.1 hw1.2 (n := hl.length) (by omega)
  have a2 := wd hw1.1 hw1.2 (n := 128) (by omega)
  have a3 := wd hw1.1 hw1.2 (n := 4) (by omega)
  have a4 := wd a3.2.2.2.1 a3.2.2.2.2 (n := 20) (by omega)
  have a5 := wd a2.2.2.2.1 a2.2.2.2.2 (n := (hl.length:Int) - 1) (by omega)
  have b1 := wd hw2.1 hw2.2 (n := 12) (by omega)
  have b2 := wd hw2.1 hw2.2 (n := 64) (by omega)
  have b3 := wd b2.2.2.2.1 b2.2.2.2.2 (n := 2) (by omega)
  have b4 := wd hw2.1 hw2.2 (n := 128) (by omega)
  have b5 := wd b4.2.2.2.1 b4.2.2.2.2 (n := 2) (by omega)
  have b6 := wd hw2.1 hw2.2 (n := 16) (by omega)
  have b7 := wd b6.2.2.2.1 b6.2.2.2.2 (n := 4) (by omega)
  have b8 := wd hw2.1 hw2.2 (n := 256) (by omega)
  have b9 := wd b8.2.2.2.1 b8.2.2.2.2 (n := 2) (by omega)
  have c1 := wd hw2.1 hw2.2 (n := 512) (by omega)
  have c2 := wd c1.2.2.2.1 c1.2.2.2.2 (n := 2) (by omega)
  have hm2:0 ≤ min2 11 (v.tmod 12 + (v.tdiv 16).tmod 4) ∧ min2 11 (v.tmod 12 + (v.tdiv 16).tmod 4) ≤ 11 := by unfold min2; split <;> omega
  have hsl:okL eI 1 gI t.sold.length (enc eI t.sold) := by rw [okL_I]; omega
  have hdl:okL eI 1 gI t.deliv.length (enc eI t.deliv) := by rw [okL_I]; omega
  have hT:(enc eT c.trades).length = c.trades.length * 7 := len_T _
  have hS1:(enc eI t.sold).length = t.sold.length * 1 := len_I _
  have hS2:(enc eI t.deliv).length = t.deliv.length * 1 := len_I _
  have hT2:([] ++ enc eT c.trades).length = (0 + c.trades.length) * 7 := by simp
  clear hn he hr hend hcount hstep hexit hY hNo e70 e71 f1 f2 hN
  repeat' (first | (refine And.intro ?_ ?_) | (refine fun (_:_ = _) => ?_))
  all_goals first
   | omega
   | with_reducible assumption
   | with_reducible rfl
   | exact HLe.append _ [_]
   | exact hY2 (by assumption) _
   | exact hN2 (by assumption) _
   | (rw [dec_I]; done)
   | (show (_:Nat) = _; rfl)
   | exact hCv
   | exact hUv
 ·exact hexit (fun h => by have := (hcount.1.1 h).2; have := of_decide_eq_false e2; omega) _ _
 ·exact hexit (fun h => by have := (hcount.1.1 h).1; have := of_decide_eq_false e1; omega) _ _
theorem l41c (hl ws:List Int) (m:Int) (hb:begunB hl = true) (hw:isWords ws) (h0:0 ≤ m) (h1:m ≤ 255) (c:Cmp) (t:Tru)
  (hx:lpS Try.prog G41 0 (CCode.at c41 [1,1,1,1,1,1,1,0,1,0,0]) [Fr.blk 6,Fr.seq (CCode.at c41 [1,1,1,1,1,1,1,1])] (Q41 c t) (E41 hl ws m ++ [(16,.ptr 6 0 0),(17,vi 0)]) (H41d (base hl ws) ⟨[],[]⟩)) :
  lpS Try.prog G41 0 (CCode.at c41 [1,1,1,1,1,0,1,0,0]) [Fr.blk 4,Fr.seq (CCode.at c41 [1,1,1,1,1,1])] (Q41 c t) (E41 hl ws m ++ [(14,vi 0)]) (H41c hl (splK ws (splN ws)).2 (cloK ws (cloN ws)) 0 []) := by
 have hz := word_in hw 0 (by omega)
 have z1 := wd hz.1 hz.2 (n := 16) (by omega)
 have z2 := wd z1.2.2.2.1 z1.2.2.2.2 (n := 3) (by omega)
 refine lp_count X41_ok (divN ws) (fun _ => True) (fun k => E41 hl ws m ++ [(14,vi k)]) (fun k => H41c hl (splK ws (splN ws)).2 (cloK ws (cloN ws)) (divK ws k).length (enc eV (divK ws k))) rfl rfl trivial (fun k _ => ⟨rfl,rfl,rfl⟩) ?_
 intro k hk _ Q' hn he hr
 rw [b41c]
 have hN:(divN ws:Int) = 1 + ((wordM ws 0).tdiv 16).tmod 3 := by unfold divN; omega
 have hwk := word_in hw ((k:Int) + 5) (by omega)
 simp only [holds,Int.ofNat_eq_natCast,dec_W,true_and,and_true,hw]
 have hn1 := fun h => hn [] h trivial
 simp only [divK_succ,H41c,enc_append,enc_one,List.length_append,List.length_cons,List.length_nil] at hn1
 generalize wordM ws ((k:Int) + 5) = w at *
 have a1 := wd hwk.1 hwk.2 (n := 12) (by omega)
 have a2 := wd hwk.1 hwk.2 (n := 16) (by omega)
 have a3 := wd a2.2.2.2.1 a2.2.2.2.2 (n := 5) (by omega)
 have a4 := wd hwk.1 hwk.2 (n := 128) (by omega)
 have hL:(enc eV (divK ws k)).length = (divK ws k).length * 3 := len_V _
 have hL2:(divK ws k).length = k := divK_len ws k
 refine ⟨?_, ?_, ?_, ?_, ?_,fun e1 => ?_,fun e1 => ?_⟩
 ·omega
 ·omega
 ·omega
 ·omega
 ·omega
 ·have hlt:k < divN ws := by have := of_decide_eq_true e1; omega
  repeat' (refine And.intro ?_ ?_)
  all_goals first
   | omega
   | exact hn1 hlt
   | (show (_:Nat) = _; rfl)
 ·have hge:k = divN ws := by have := of_decide_eq_false e1; omega
  subst hge
  refine he _ _ _ (ret_tree (R := R41 c t) X41_ok (doneK_ok rfl) (x41c _ _ _ _ _ _ _ _ _) ?_)
  simp only [holds,true_and]
  refine LoopP.state (StLe.cells (id := 6) (cs' := Ubox ⟨[],[]⟩) rfl (.cons .nilsF (.cons .nilsF .nil))) ?_
  refine LoopP.state (StLe.cells (id := 2) (cs' := Cbox (base hl ws)) rfl (.cons (.refl _) (.cons (.refl _) (.cons .nilsF (.cons (.refl _) (.cons (.refl _) (.cons (.refl _) .nil))))))) ?_
  exact hx
theorem l41b (hl ws:List Int) (m:Int) (hw:isWords ws) (c:Cmp) (t:Tru)
  (hx:lpS Try.prog G41 0 (CCode.at c41 [1,1,1,1,1,0,1,0,0]) [Fr.blk 4,Fr.seq (CCode.at c41 [1,1,1,1,1,1])] (Q41 c t) (E41 hl ws m ++ [(14,vi 0)]) (H41c hl (splK ws (splN ws)).2 (cloK ws (cloN ws)) 0 [])) :
  lpS Try.prog G41 0 (CCode.at c41 [1,1,1,1,0,1,0,0]) [Fr.blk 2,Fr.seq (CCode.at c41 [1,1,1,1,1])] (Q41 c t) (E41 hl ws m ++ [(12,vi 0)]) (H41b hl (splK ws (splN ws)).2 0 []) := by
 have hz := word_in hw 0 (by omega)
 have z1 := wd hz.1 hz.2 (n := 4) (by omega)
 have z2 := wd z1.2.2.2.1 z1.2.2.2.2 (n := 3) (by omega)
 refine lp_count X41_ok (cloN ws) (fun _ => True) (fun k => E41 hl ws m ++ [(12,vi k)]) (fun k => H41b hl (splK ws (splN ws)).2 (cloK ws k).length (enc eR (cloK ws k))) rfl rfl trivial (fun k _ => ⟨rfl,rfl,rfl⟩) ?_
 intro k hk _ Q' hn he hr
 rw [b41b]
 have hN:(cloN ws:Int) = ((wordM ws 0).tdiv 4).tmod 3 := by unfold cloN; omega
 have hwk := word_in hw ((k:Int) + 3) (by omega)
 simp only [holds,Int.ofNat_eq_natCast,dec_W,true_and,and_true,hw]
 have hn1 := fun h => hn [] h trivial
 simp only [cloK_succ,H41b,enc_append,enc_one,List.length_append,List.length_cons,List.length_nil] at hn1
 generalize wordM ws ((k:Int) + 3) = w at *
 have a1 := wd hwk.1 hwk.2 (n := 10) (by omega)
 have a2 := wd hwk.1 hwk.2 (n := 16) (by omega)
 have a3 := wd a2.2.2.2.1 a2.2.2.2.2 (n := 4) (by omega)
 have hL:(enc eR (cloK ws k)).length = (cloK ws k).length * 2 := len_R _
 have hL2:(cloK ws k).length = k := cloK_len ws k
 refine ⟨?_, ?_, ?_, ?_,fun e1 => ?_,fun e1 => ?_⟩
 ·omega
 ·omega
 ·omega
 ·omega
 ·have hlt:k < cloN ws := by have := of_decide_eq_true e1; omega
  repeat' (refine And.intro ?_ ?_)
  all_goals first
   | omega
   | exact hn1 hlt
   | (show (_:Nat) = _; rfl)
 ·have hge:k = cloN ws := by have := of_decide_eq_false e1; omega
  subst hge
  refine he _ _ _ (ret_tree (R := R41 c t) X41_ok (doneK_ok rfl) (x41b _ _ _ _ _ _ _ _) ?_)
  simp only [holds,true_and]
  exact LoopP.state (StLe.ghostBox (id := 2) (off := 3) 52 3 rfl rfl) hx
theorem l41a (hl ws:List Int) (m:Int) (hw:isWords ws) (c:Cmp) (t:Tru)
  (hx:lpS Try.prog G41 0 (CCode.at c41 [1,1,1,1,0,1,0,0]) [Fr.blk 2,Fr.seq (CCode.at c41 [1,1,1,1,1])] (Q41 c t) (E41 hl ws m ++ [(12,vi 0)]) (H41b hl (splK ws (splN ws)).2 0 [])) :
  lpS Try.prog G41 0 (CCode.at c41 [1,1,1,0,1,0,0]) [Fr.blk 0,Fr.seq (CCode.at c41 [1,1,1,1])] (Q41 c t) (E41 hl ws m ++ [(9,vi (-1)),(10,vi 0)]) (H41a hl 0 []) := by
 have hz := word_in hw 0 (by omega)
 have z1 := wd hz.1 hz.2 (n := 3) (by omega)
 refine lp_count X41_ok (splN ws) (fun _ => True) (fun k => E41 hl ws m ++ [(9,vi (splK ws k).1),(10,vi k)]) (fun k => H41a hl (splK ws k).2.length (enc eS (splK ws k).2)) rfl rfl trivial (fun k _ => ⟨rfl,rfl,rfl⟩) ?_
 intro k hk _ Q' hn he hr
 rw [b41a]
 have hN:(splN ws:Int) = (wordM ws 0).tmod 3 := by unfold splN; omega
 have hwk := word_in hw ((k:Int) + 1) (by omega)
 have hso := splK_ok hw k
 simp only [holds,Int.ofNat_eq_natCast,dec_W,true_and,and_true,hw]
 have hn1 := fun h => hn [] h trivial
 have hgo:k < splN ws → (splK ws k).1 + (1 + (wordM ws ((k:Int) + 1)).tmod 6) ≤ 11 → _ := fun h g => by
  have := hn1 h
  simp only [splK,if_pos g,H41a,enc_append,enc_one,List.length_append,List.length_cons,List.length_nil] at this
  exact this
 have hno:k < splN ws → ¬ (splK ws k).1 + (1 + (wordM ws ((k:Int) + 1)).tmod 6) ≤ 11 → _ := fun h g => by
  have := hn1 h
  simp only [splK,if_neg g,H41a] at this
  exact this
 generalize wordM ws ((k:Int) + 1) = w at *
 have a1 := wd hwk.1 hwk.2 (n := 6) (by omega)
 have a2 := wd hwk.1 hwk.2 (n := 8) (by omega)
 have a3 := wd a2.2.2.2.1 a2.2.2.2.2 (n := 6) (by omega)
 have a4 := wd hwk.1 hwk.2 (n := 64) (by omega)
 have a5 := wd a4.2.2.2.1 a4.2.2.2.2 (n := 4) (by omega)
 have hL:(enc eS (splK ws k).2).length = (splK ws k).2.length * 3 := len_S _
 have h2:(splN ws:Int) ≤ 2 := by omega
 refine ⟨?_, ?_,fun e1 => ?_,fun e1 => ?_⟩
 ·omega
 ·omega
 ·have hlt:k < splN ws := by have := of_decide_eq_true e1; omega
  repeat' (first | (refine And.intro ?_ ?_) | (refine fun (_:_ = _) => ?_))
  all_goals first
   | omega
   | exact hgo hlt (of_decide_eq_true (by assumption))
   | exact hno hlt (of_decide_eq_false (by assumption))
   | (show (_:Nat) = _; rfl)
 ·have hge:k = splN ws := by have := of_decide_eq_false e1; omega
  subst hge
  refine he _ _ _ (ret_tree (R := R41 c t) X41_ok (doneK_ok rfl) (x41a _ _ _ _ _ _ _ _) ?_)
  simp only [holds,true_and]
  exact LoopP.state (StLe.ghostBox (id := 2) (off := 5) 73 2 rfl rfl) hx
theorem y41 (hl ws:List Int) (m:Int) (hb:begunB hl = true) (hw:isWords ws) (h0:0 ≤ m) (h1:m ≤ 255) :
  Yields Try.prog 41 [vsl eI hl,vsl eW ws,.d (.int .u8 m)] (.tup [Cv (dealt hl ws m).1,Uv (dealt hl ws m).2]) := by
 have hbo := begun_ok hb
 refine q41.yieldsX X41_ok rfl rfl ?_ (w41 hl ws m) ?_
 ·rfl
 simp only [holds,okL_I]
 exact ⟨⟨by omega,by omega⟩,LoopP.state (StLe.ghostBox (id := 2) (off := 4) 79 3 rfl rfl) (l41a hl ws m hw _ _ (l41b hl ws m hw _ _ (l41c hl ws m hb hw h0 h1 _ _ (l41d hl ws m hb hw h0 h1))))⟩
end
end Go.Proofs.Ytdnefcjbcieecaa
namespace Go.Proofs.Ytdnefcjbcieecaa
open Go Go.Proofs
noncomputable section
def X40:Sx := mkX tab20
theorem X40_ok:SpOk Try.prog X40.sp := tab20_ok
theorem w40 (hl:List Int):sx X40 c40 [] (doneF 0 r40) (envOf [vsl eI hl]) [] [] =
  let y1_ := (List.length hl)
  let y0_ := (dC (Int.ofNat y1_) y1_ (enc eI hl) 0 [] 0 [] 0 [] 0 [])
  let y2_ := (D.sl false 0 [])
  Tr.br (decide (Int.ofNat y1_ ≤ (7:Int))) (Tr.need (Cv y0_ = V.agg [V.d (D.int .i64 (Int.ofNat y1_)),V.d (D.sl false y1_ (enc eI hl)),V.d y2_,V.d y2_,V.d y2_,V.d y2_] ∧ True) (Tr.done (V.d (D.bool (faultM y0_ == (0:Int)))) [])) (Tr.done (V.d (D.bool false)) []) := by kernel_rfl
theorem y40 (hl:List Int):Yields Try.prog 40 [vsl eI hl] (vb (begunB hl)) := by
 refine q40.yields X40_ok rfl rfl rfl (w40 hl) ?_
 simp only [holds]
 have e:dC hl.length hl.length (enc eI hl) 0 [] 0 [] 0 [] 0 [] = ⟨hl.length,hl,[],[],[],[]⟩ := by simp only [dC,dec_I]; rfl
 simp only [Int.ofNat_eq_natCast,e,and_true]
 refine ⟨fun h1 => ⟨rfl,.of_eq (congrArg vb ?_)⟩,fun h1 => .of_eq (congrArg vb ?_)⟩
 ·have h1:hl.length ≤ 7 := by have := of_decide_eq_true h1; omega
  simp [begunB,h1]
 ·have h1:¬ hl.length ≤ 7 := by have := of_decide_eq_false h1; omega
  simp [begunB,h1]
def ent40:Ent := fun args _ => match args with
 | [.d (.sl false n cs)] => some (enc eI (dec 1 gI n cs) = cs,vb (begunB (dec 1 gI n cs)),none)
 | _ => none
theorem ent40_ok:EntOk Try.prog 40 ent40 := by
 intro args h p v h' he hp
 unfold ent40 at he
 split at he
 ·rename_i n cs
  cases he
  have e:V.d (.sl false n cs) = vsl eI (dec 1 gI n cs) := by unfold vsl dsl; rw [hp,dec_len]
  rw [e]; exact y40 _ h
 ·cases he
def ent41:Ent := fun args _ => match args with
 | [.d (.sl false n cs),.d (.sl false n2 ds),.d (.int .u8 m)] => some (okL eI 1 gI n cs ∧ enc eW (dec 1 gW n2 ds) = ds ∧ isWords (dec 1 gW n2 ds) ∧ begunB (dec 1 gI n cs) = true ∧ 0 ≤ m ∧ m ≤ 255,.tup [Cv (dealt (dec 1 gI n cs) (dec 1 gW n2 ds) m).1,Uv (dealt (dec 1 gI n cs) (dec 1 gW n2 ds) m).2],none)
 | _ => none
theorem ent41_ok:EntOk Try.prog 41 ent41 := by
 intro args h p v h' he hp
 unfold ent41 at he
 split at he
 ·rename_i n cs n2 ds m
  cases he
  have e:V.d (.sl false n2 ds) = vsl eW (dec 1 gW n2 ds) := by unfold vsl dsl; rw [hp.2.1,dec_len]
  rw [okL_vsl hp.1,e]
  exact y41 _ _ _ hp.2.2.2.1 hp.2.2.1 hp.2.2.2.2.1 hp.2.2.2.2.2 h
 ·cases he
def tab29:Spec := (spAdd 41 ent41 (spAdd 40 ent40 (spAdd 28 ent28 (spAdd 27 ent27 (spAdd 26 ent26 (spAdd 25 ent25 tab27))))))
def X29d:Sx := mkX tab29
def HD (c:Cmp) (t:Tru) (d:Dvd):Heap := [some (.box (Cbox c)),some (.box (Ubox t)),some (.box [vi d.ex,vi d.record,vi d.pence])]
def E11 (n:Int) (e l:Bool) (k:Nat):Env := [(9,.ptr 0 0 0),(10,.ptr 1 0 0),(11,vi n),(12,.ptr 2 0 0),(13,vb e),(14,vb l),(15,vi k)]
theorem b11 (c:Cmp) (t:Tru) (d:Dvd) (n:Int) (e l:Bool) (k:Nat):sx X29d (CCode.at c11 [1,1,1,1,1,1,0,1,0,0]) [] leafK (E11 n e l k) [] (HD c t d) =
  let x1_ := (List.length (Cmp.trades c))
  let x2_ := (decide (Int.ofNat k < Int.ofNat x1_))
  let x3_ := (List.length (Tru.deliv t))
  let x4_ := (List.length (Tru.sold t))
  let y8_ := (enc eI (Tru.sold t))
  let x5_ := ((0:Int) ≤ Int.ofNat k ∧ Int.ofNat k < Int.ofNat x4_ ∧ okEl [0] y8_ 1 (Int.ofNat k))
  let x6_ := (-9223372036854775808 ≤ Int.ofNat k + (1:Int) ∧ Int.ofNat k + (1:Int) ≤ 9223372036854775807)
  let y4_ := (enc eI (Tru.deliv t))
  let x7_ := [some (Blk.box [V.d (D.int .i64 (Cmp.houses c)),V.d (D.sl false (List.length (Cmp.held c)) (enc eI (Cmp.held c))),V.d (D.sl false x1_ (enc eT (Cmp.trades c))),V.d (D.sl false (List.length (Cmp.divs c)) (enc eV (Cmp.divs c))),V.d (D.sl false (List.length (Cmp.splits c)) (enc eS (Cmp.splits c))),V.d (D.sl false (List.length (Cmp.closed c)) (enc eR (Cmp.closed c)))]),some (Blk.box [V.d (D.sl false x4_ y8_),V.d (D.sl false x3_ y4_)]),some (Blk.box [V.d (D.int .i64 (Dvd.ex d)),V.d (D.int .i64 (Dvd.record d)),V.d (D.int .i64 (Dvd.pence d))])]
  let y0_ := (15,V.d (D.int .i64 (Int.ofNat k + (1:Int))))
  let y1_ := (13,V.d (D.bool (inR (regR (Cmp.closed (dCe c)) (cI y4_ 1 (Int.ofNat k) 0)) (0:Int) (Dvd.ex d - (1:Int)))))
  let y2_ := (14,V.d (D.bool (decide (Dvd.record d < cI y8_ 1 (Int.ofNat k) 0))))
  let y3_ := (11,V.d (D.int .i64 n))
  let y5_ := (10,V.ptr 1 0 0)
  let y6_ := (12,V.ptr 2 0 0)
  let y7_ := (9,V.ptr 0 0 0)
  Tr.br x2_ (Tr.br e (Tr.need ((0:Int) ≤ Int.ofNat k ∧ Int.ofNat k < Int.ofNat x3_ ∧ okEl [0] y4_ 1 (Int.ofNat k)) (Tr.need (-9223372036854775808 ≤ Dvd.ex d - (1:Int) ∧ Dvd.ex d - (1:Int) ≤ 9223372036854775807) (Tr.need (Cv (dCe c) = Cv c ∧ -9223372036854775808 ≤ cI y4_ 1 (Int.ofNat k) 0 ∧ List.length (Cmp.closed (dCe c)) ≤ 140737488355328) (Tr.need True (Tr.br l (Tr.need x5_ (Tr.need x6_ (Tr.leaf CExit.normal [y7_,y5_,y3_,y6_,y1_,y2_,y0_] x7_))) (Tr.need x6_ (Tr.leaf CExit.normal [y7_,y5_,y3_,y6_,y1_,(14,V.d (D.bool false)),y0_] x7_))))))) (Tr.br l (Tr.need x5_ (Tr.need x6_ (Tr.leaf CExit.normal [y7_,y5_,y3_,y6_,(13,V.d (D.bool false)),y2_,y0_] x7_))) (Tr.need x6_ (Tr.leaf CExit.normal [y7_,y5_,y3_,y6_,(13,V.d (D.bool false)),(14,V.d (D.bool false)),y0_] x7_)))) (Tr.leaf (CExit.exit 0) [y7_,y5_,y3_,y6_,(13,V.d (D.bool e)),(14,V.d (D.bool l)),(15,V.d (D.int .i64 (Int.ofNat k))),(49,V.d (D.bool x2_))] x7_) := by kernel_rfl
theorem truth_ask {c:Cmp} {t:Tru} (hf:faultM c = 0) (ht:truthB c t = true):askE c t = 0 := by
 simp only [truthB,Bool.and_eq_true] at ht
 simp [askE,hf,ht.1,ht.2]
end
end Go.Proofs.Ytdnefcjbcieecaa
