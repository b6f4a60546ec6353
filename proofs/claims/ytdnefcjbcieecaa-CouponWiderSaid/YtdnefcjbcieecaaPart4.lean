/- A part of the proof. -/
import Derived.Test.YtdnefcjbcieecaaPart3
set_option linter.unusedVariables false
set_option linter.unusedSimpArgs false
namespace Go.Proofs.Ytdnefcjbcieecaa
open Go
theorem ACalls.weak {P:Program} {f:FuncId} {vs vs' : List V} {h:Heap} {R:V → Heap → Prop} (hw:∀ M us,RepL M vs us → RepL M vs' us) (hc:ACalls P f vs' h R):ACalls P f vs h R :=
 ⟨hc.1,fun M w args hm hs ha => hc.2 M w args hm hs (hw M args ha)⟩
def VLe (x y:V):Prop := ∀ M v,RepV M x v → RepV M y v
theorem VLe.refl (x:V):VLe x x := fun _ _ h => h
theorem VLe.trans {x y z:V} (h1:VLe x y) (h2:VLe y z):VLe x z := fun M v h => h2 M v (h1 M v h)
theorem VLe.nils:VLe (.d .nils) (.d (.sl true 0 [])) := fun M v h => by
 cases h with
 | d x v h => cases h; exact .d _ _ (rep_nil _)
theorem VLe.sl {n:Nat} {cs:List D}:VLe (.d (.sl true n cs)) (.d (.sl false n cs)) := fun M v h => by
 cases h with
 | d x v h => cases h with
  | sl x _ cap _ ao b off vals hl hm hx hao hro hrep => exact .d _ _ (.sl false n cap cs ao b off vals hl hm (fun e => by cases e) hao hro hrep)
theorem VLe.slx {x:Bool} {n:Nat} {cs:List D}:VLe (.d (.sl x n cs)) (.d (.sl false n cs)) := by cases x; exact .refl _; exact .sl
theorem VLe.nilsF:VLe (.d .nils) (.d (.sl false 0 [])) := VLe.nils.trans .sl
inductive VLes:List V → List V → Prop
 | nil:VLes [] []
 | cons {x y:V} {xs ys:List V} (h:VLe x y) (hs:VLes xs ys):VLes (x :: xs) (y :: ys)
theorem VLes.len {xs ys:List V} (h:VLes xs ys):xs.length = ys.length := by
 induction h with
 | nil => rfl
 | cons h hs ih => simp [ih]
theorem VLes.get {xs ys:List V} (h:VLes xs ys):∀ (k:Nat) y,ys[k]? = some y → ∃ x,xs[k]? = some x ∧ VLe x y := by
 induction h with
 | nil => intro k y h; simp at h
 | cons h hs ih =>
  intro k y' hy
  cases k with
  | zero => simp at hy; subst hy; exact ⟨_,rfl,h⟩
  | succ k => simpa using ih k y' (by simpa using hy)
theorem VLes.rep {xs ys:List V} (h:VLes xs ys) {M:Mem} {us:List Value} (hr:RepL M xs us):RepL M ys us :=
 ⟨h.len ▸ hr.1,fun k v c hv hc => by obtain ⟨x,hx,hl⟩ := h.get k v hv; exact hl _ _ (hr.2 k x c hx hc)⟩
theorem VLe.agg {xs ys:List V} (h:VLes xs ys):VLe (.agg xs) (.agg ys) := fun M v hv => by
 cases hv with
 | agg cs arr hl h2 h1 => exact .agg _ _ (h.len ▸ hl) (fun k v c hv hc => by obtain ⟨x,hx,hle⟩ := h.get k v hv; exact hle _ _ (h2 k x c hx hc)) h1
theorem VLe.tup {xs ys:List V} (h:VLes xs ys):VLe (.tup xs) (.tup ys) := fun M v hv => by
 cases hv with
 | tup cs arr hl h2 => exact .tup _ _ (h.len ▸ hl) (fun k v c hv hc => by obtain ⟨x,hx,hle⟩ := h.get k v hv; exact hle _ _ (h2 k x c hx hc))
theorem ACalls.args {P:Program} {f:FuncId} {vs vs' : List V} {h:Heap} {R:V → Heap → Prop} (hw:VLes vs vs') (hc:ACalls P f vs' h R):ACalls P f vs h R :=
 hc.weak fun _ _ => hw.rep
theorem ACalls.result {P:Program} {f:FuncId} {vs:List V} {h:Heap} {R R' : V → Heap → Prop} (hc:ACalls P f vs h R) (hr:∀ v h',R v h' → ∃ v',VLe v v' ∧ R' v' h'):ACalls P f vs h R' :=
 ⟨hc.1,fun M w args hm hs ha => (hc.2 M w args hm hs ha).mono fun e w' ⟨cv,v,h',M',e1,hp,hv,hR⟩ => let ⟨v',hl,hR'⟩ := hr v h' hR; ⟨cv,v',h',M',e1,hp,hl _ _ hv,hR'⟩⟩
theorem ACalls.fin {P:Program} {f:FuncId} {vs:List V} {h:Heap} {R:V → Heap → Prop} (hc:ACalls P f vs h fun v h1 => R (Go.Proofs.Ytdnefcjbcieecaa.finX h.length v h1).1 (Go.Proofs.Ytdnefcjbcieecaa.finX h.length v h1).2):ACalls P f vs h R := by
 refine ⟨hc.1,fun M w args hm hs ha => (hc.2 M w args hm hs ha).mono ?_⟩
 rintro e w' ⟨cv,v',h',M',rfl,hp,hv,hR⟩
 unfold Go.Proofs.Ytdnefcjbcieecaa.finX at hR
 obtain ⟨M2,hp2,hv2⟩ := frzRows_post (rowsIn h.length v') v' h' M' hp hv
 generalize frzRows (rowsIn h.length v') v' h' = q at hp2 hv2 hR
 obtain ⟨v1,h1⟩ := q
 simp only at hp2 hv2 hR
 split at hR
 ·rename_i hb
  simp only [Bool.and_eq_true] at hb
  exact ⟨cv,_,_,_,rfl,hp2.cut hs hb.2,hv2.bel2 hb.1,hR⟩
 ·exact ⟨cv,_,_,M',rfl,hp,hv,hR⟩
theorem ACalls.more {P:Program} {f:FuncId} {vs:List V} {h0:Heap} {R:V → Heap → Prop} (ha:vs.all (bel2 h0.length) = true) (hh:h0.all (blkBel h0.length) = true)
  (hc:ACalls P f vs h0 fun v h1 => bel2 h0.length v = true ∧ (h1.take h0.length).all (blkBel h0.length) = true ∧ R v (h1.take h0.length)) (rest:Heap) :
  ACalls P f vs (h0 ++ rest) fun v h1 => ∃ k,k.length = h0.length ∧ R v k ∧ h1 = k ++ rest := by
 refine ⟨hc.1,fun M w us hm hs hu => ?_⟩
 have hget0:∀ (i:Nat) x,h0[i]? = some x → i < h0.length ∧ (h0 ++ rest)[i]? = some x := fun i x hx => by
  have hlt := (List.getElem?_eq_some_iff.1 hx).1
  exact ⟨hlt,by rw [List.getElem?_append_left hlt]; exact hx⟩
 let M0:Mem := M.cut h0.length
 have hl0:∀ b,liveBlk M0 h0 b → liveBlk M (h0 ++ rest) b := fun b ⟨i,blk,r,hi,hr,hb⟩ => ⟨i,blk,r,(hget0 i _ hi).2,(Mem.cut_some hr).2,hb⟩
 have hs0:Sim M0 h0 w := by
  refine ⟨fun i blk hi => ?_, ?_,fun b o u hu => ⟨(hs.ro b o u hu).1,fun hl => (hs.ro b o u hu).2 (hl0 b hl)⟩,fun i hi => ?_,fun b hb => ⟨(hs.df b hb).1,fun hl => (hs.df b hb).2 (hl0 b hl)⟩⟩
  ·obtain ⟨hlt,hi'⟩ := hget0 i _ hi
   obtain ⟨r,hr,hat⟩ := hs.blks i blk hi'
   exact ⟨r,by rw [Mem.cut_lt _ hlt]; exact hr,hat.bel (all_get hh hi)⟩
  ·intro i j bi bj ri rj b hi hj hri hrj
   exact hs.inj i j bi bj ri rj b (hget0 i _ hi).2 (hget0 j _ hj).2 (Mem.cut_some hri).2 (Mem.cut_some hrj).2
  ·show (M.cut h0.length).mu i = none
   simp [Mem.cut]; omega
 have hu0:RepL M0 vs us := ⟨hu.1,fun k x c hx hc => (hu.2 k x c hx hc).bel2 (all_get ha hx)⟩
 refine (hc.2 M0 w us hm hs0 hu0).mono ?_
 rintro e w' ⟨cv,v,h1,M1,rfl,p,hrv,hbv,hbk,hR⟩
 have p2 := p.cut hs0 hbk
 have hrv2 := hrv.bel2 hbv
 generalize hk:h1.take h0.length = k at p2 hR
 have hkl:k.length = h0.length := by
  have := p.len
  rw [← hk]; simp; omega
 let M' : Mem := { M1.cut h0.length with mu := fun i => if i < h0.length then M1.mu i else M.mu i }
 have hro:∀ b o u,M.ro b o = some u → M'.ro b o = some u := fun b o u hu => p.ro b o u hu
 have hle:MuLe M M' := fun i r hr => by
  by_cases hi:i < h0.length
  ·obtain ⟨r',h1',h2',h3'⟩ := p.le i r (by rw [Mem.cut_lt _ hi]; exact hr)
   exact ⟨r',by show (if i < h0.length then M1.mu i else M.mu i) = some r'; rw [if_pos hi]; exact h1',h2',h3'⟩
  ·exact ⟨r,by show (if i < h0.length then M1.mu i else M.mu i) = some r; rw [if_neg hi]; exact hr,Nat.le_refl _,fun _ => rfl⟩
 have hcut:∀ x c,RepV (M1.cut h0.length) x c → RepV M' x c := fun x c hx => RepV.mono (M := M1.cut h0.length) (M' := M') (fun _ _ _ h => h) (fun i r hr => by
  obtain ⟨hlt,hr⟩ := Mem.cut_some hr
  exact ⟨r,by show (if i < h0.length then M1.mu i else M.mu i) = some r; rw [if_pos hlt]; exact hr,Nat.le_refl _,fun _ => rfl⟩) hx
 have hsplit:∀ (i:Nat) x,(k ++ rest)[i]? = some x → (i < h0.length ∧ k[i]? = some x) ∨ (h0.length ≤ i ∧ (h0 ++ rest)[i]? = some x) := fun i x hx => by
  by_cases hi:i < h0.length
  ·rw [List.getElem?_append_left (by omega)] at hx; exact .inl ⟨hi,hx⟩
  ·rw [List.getElem?_append_right (by omega)] at hx
   refine .inr ⟨by omega, ?_⟩
   rw [List.getElem?_append_right (by omega), ← hkl]; exact hx
 have hmuL:∀ i,i < h0.length → M'.mu i = (M1.cut h0.length).mu i := fun i hi => by
  show (if i < h0.length then M1.mu i else M.mu i) = _
  rw [if_pos hi,Mem.cut_lt _ hi]
 have hmuR:∀ i,h0.length ≤ i → M'.mu i = M.mu i := fun i hi => by
  show (if i < h0.length then M1.mu i else M.mu i) = _
  rw [if_neg (by omega)]
 have hlive:∀ b,liveBlk M' (k ++ rest) b → liveBlk (M1.cut h0.length) k b ∨ (∃ (i:Nat) (blk:Blk) (r:Ref),h0.length ≤ i ∧ (h0 ++ rest)[i]? = some (some blk) ∧ M.mu i = some r ∧ r.blk = some b) := fun b ⟨i,blk,r,hi,hr,hb⟩ => by
  rcases hsplit i _ hi with ⟨hlt,hi'⟩ | ⟨hge,hi'⟩
  ·exact .inl ⟨i,blk,r,hi',by rw [← hmuL i hlt]; exact hr,hb⟩
  ·exact .inr ⟨i,blk,r,hge,hi',by rw [← hmuR i hge]; exact hr,hb⟩
 have hrest:∀ (i:Nat) (blk:Blk) (r:Ref) b,h0.length ≤ i → (h0 ++ rest)[i]? = some (some blk) → M.mu i = some r → r.blk = some b → ¬ liveBlk M0 h0 b := fun i blk r b hge hi hr hb ⟨j,blk',r',hj,hr',hb'⟩ => by
  have := hs.inj i j blk blk' r r' b hi (hget0 j _ hj).2 hr (Mem.cut_some hr').2 hb hb'
  have := (hget0 j _ hj).1
  omega
 have hold:∀ (i:Nat) (blk:Blk) (r:Ref) b,h0.length ≤ i → (h0 ++ rest)[i]? = some (some blk) → M.mu i = some r → r.blk = some b → b < w.heap.size := fun i blk r b _ hi hr hb => hs.live_lt ⟨i,blk,r,hi,hr,hb⟩
 refine ⟨cv,v,k ++ rest,M',rfl,⟨hro,⟨⟨p.dc.1.1,p.dc.1.2.1,fun b o u hb hu => (p.dc.1.2.2 b o u hb hu).elim .inl fun hl => .inr (hl0 b hl)⟩,p.dc.2⟩,hle,by simp; omega,⟨fun i blk hi => ?_, ?_,fun b o u hu => ⟨(p.sim.ro b o u hu).1,fun hl => ?_⟩,fun i hi => ?_,fun b hb => ⟨(p.sim.df b hb).1,fun hl => ?_⟩⟩,
  p.os,p.tape,p.output,p.size,fun b hb hnl => p.keep b hb (fun hl => hnl (hl0 b hl)),fun b hb hl => ?_⟩,hcut _ _ hrv2,k,hkl,hR,rfl⟩
 ·rcases hsplit i _ hi with ⟨hlt,hi'⟩ | ⟨hge,hi'⟩
  ·obtain ⟨r,hr,hat⟩ := p2.sim.blks i blk hi'
   exact ⟨r,by rw [hmuL i hlt]; exact hr,BlkAt.of_same (M := M1.cut h0.length) (M' := M') (w := w') rfl (fun _ _ _ h => h) hcut (fun _ _ => rfl) hat⟩
  ·obtain ⟨r,hr,hat⟩ := hs.blks i blk hi'
   exact ⟨r,by rw [hmuR i hge]; exact hr,BlkAt.of_same (M := M) (M' := M') (w := w) p.dc.2 hro (fun x v hx => hx.mono hro hle) (fun b hb => p.keep b (hold i blk r b hge hi' hr hb) (hrest i blk r b hge hi' hr hb)) hat⟩
 ·intro i j bi bj ri rj b hi hj hri hrj hbi hbj
  rcases hsplit i _ hi with ⟨hlt,hi'⟩ | ⟨hge,hi'⟩ <;> rcases hsplit j _ hj with ⟨hltj,hj'⟩ | ⟨hgej,hj'⟩
  ·exact p2.sim.inj i j bi bj ri rj b hi' hj' (by rw [← hmuL i hlt]; exact hri) (by rw [← hmuL j hltj]; exact hrj) hbi hbj
  ·rw [hmuR j hgej] at hrj
   rw [hmuL i hlt] at hri
   exact (hrest j bj rj b hgej hj' hrj hbj (p2.live b (hold j bj rj b hgej hj' hrj hbj) ⟨i,bi,ri,hi',hri,hbi⟩)).elim
  ·rw [hmuR i hge] at hri
   rw [hmuL j hltj] at hrj
   exact (hrest i bi ri b hge hi' hri hbi (p2.live b (hold i bi ri b hge hi' hri hbi) ⟨j,bj,rj,hj',hrj,hbj⟩)).elim
  ·exact hs.inj i j bi bj ri rj b hi' hj' (by rw [← hmuR i hge]; exact hri) (by rw [← hmuR j hgej]; exact hrj) hbi hbj
 ·rcases hlive b hl with h2 | ⟨i,blk,r,hge,hi,hr,hb⟩
  ·exact (p2.sim.ro b o u hu).2 h2
  ·have hlt := hold i blk r b hge hi hr hb
   rcases p.dc.1.2.2 b o u hlt hu with h3 | h3
   ·exact (hs.ro b o u h3).2 ⟨i,blk,r,hi,hr,hb⟩
   ·exact hrest i blk r b hge hi hr hb h3
 ·have h2:h0.length ≤ i := by simp at hi; omega
  rw [hmuR i h2]
  exact hs.dom i (by simp at hi ⊢; omega)
 ·rcases hlive b hl with h2 | ⟨i,blk,r,hge,hi,hr,hbb⟩
  ·exact (p2.sim.df b hb).2 h2
  ·have hlt := hold i blk r b hge hi hr hbb
   exact (hs.df b (p.dc.1.2.1 b hlt hb)).2 ⟨i,blk,r,hi,hr,hbb⟩
 ·rcases hlive b hl with h2 | ⟨i,blk,r,hge,hi,hr,hbb⟩
  ·exact hl0 b (p2.live b hb h2)
  ·exact ⟨i,blk,r,hi,hr,hbb⟩
theorem ACalls.pure {P:Program} {f:FuncId} {vs:List V} {R:V → Prop} (ha:vs.all (bel2 0) = true) (hc:ACalls P f vs [] fun v h1 => bel2 0 (Go.Proofs.Ytdnefcjbcieecaa.finX 0 v h1).1 = true ∧ R (Go.Proofs.Ytdnefcjbcieecaa.finX 0 v h1).1) (h:Heap) :
  ACalls P f vs h fun v h1 => R v ∧ h1 = h := by
 have h2:ACalls P f vs [] fun v h1 => bel2 ([]:Heap).length v = true ∧ (h1.take ([]:Heap).length).all (blkBel ([]:Heap).length) = true ∧ R v := by
  refine ACalls.fin (hc.mono fun v h1 hh => ⟨hh.1,by simp,hh.2⟩)
 have h3 := ACalls.more (R := fun v _ => R v) ha rfl h2 h
 exact h3.mono fun v h1 ⟨k,hk,hR,e⟩ => ⟨hR,by rw [e]; cases k with | nil => rfl | cons => simp at hk⟩
end Go.Proofs.Ytdnefcjbcieecaa
