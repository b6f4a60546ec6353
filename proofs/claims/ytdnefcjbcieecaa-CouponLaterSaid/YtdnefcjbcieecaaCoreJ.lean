/- Slice expressions; every operation that leaves the frame's other slots as they are. -/
import Derived.Test.YtdnefcjbcieecaaCoreIm
set_option linter.unusedVariables false
set_option linter.unusedSimpArgs false
namespace Go.Proofs.Ytdnefcjbcieecaa
open Go

def simpleOp : COp → Bool
  | .panic _ | .bad => false
  | _ => true

section
variable {P : Program} {n : Nat} {o : Oper} {ρV : Operand → V} {ρ : Operand → Value} {M : Mem} {h : Heap} {w : World} {K : V → Heap → Prop}

theorem snd_sliceS (T e : TypeId) (x : Operand) (lo hi mx : Option Operand) (inf : TypeInfo) (hop : o.op = .slice T x lo hi mx) (h1 : P.underlying T = some (.slice e)) (h2 : P.info? e = some inf) (h0 : inf.size ≠ 0)
    (hρ : ∀ x, RepV M (ρV x) (ρ x)) (hs : Sim M h w) (hn : n ≤ h.length)
    (hk : step (.sliceS inf.size x lo hi mx) ρV h K) : Out n M h w K ((execOp ρ o).run P w) := by
  have hx := hρ x
  have zero : ∀ {lim cap : Nat} {r v : V} {ao : Option Addr} {len : Nat}, ev0 lim r ((lo.map ρV).getD (.d (.int .i64 0))) ((hi.map ρV).getD (.d (.int .i64 0))) (mx.map ρV) hi.isSome = some v → lim ≤ cap → ρ x = .slice ao len cap →
      r = v ∧ (execOp ρ o).run P w = .ok (.value (.slice ao 0 0)) w := by
    intro lim cap r v ao len hv hle hp
    unfold ev0 at hv
    split at hv
    · rename_i kl l kt t km m e1 e2 e3
      split at hv
      · rename_i hc
        cases hv
        obtain ⟨c1, rfl, rfl, c4, c5⟩ := hc
        refine ⟨rfl, ?_⟩
        cases hi with
        | none => cases c5
        | some oh =>
          cases mx with
          | none => cases e3
          | some om =>
            simp only [Option.map_some, Option.getD_some] at e2
            simp only [Option.map_some, Option.some.injEq] at e3
            have h2' := hρ oh
            rw [e2] at h2'
            have h3' := hρ om
            rw [e3] at h3'
            have hb0 : ∀ code, (Instr.sliceBound (.int km l) cap code).run P w = .ok l.toNat w := fun code => run_sliceBound (P := P) w km l cap code (by omega) (by omega)
            have hb1 : ∀ code, (Instr.sliceBound (.int kt l) l.toNat code).run P w = .ok l.toNat w := fun code => run_sliceBound (P := P) w kt l l.toNat code (by omega) (by omega)
            cases lo with
            | none =>
              simp only [Option.map_none, Option.getD_none, V.d.injEq, D.int.injEq] at e1
              obtain ⟨rfl, rfl⟩ := e1
              simp only [Int.toNat_zero] at hb0 hb1
              simp [execOp, hop, Instr.sliceAt, Instr.slice, Instr.sliceBounds, run_underlying h1, hp, sizeOf, typeInfo, h2, h2'.intI, h3'.intI, hb0, hb1]
            | some ol =>
              simp only [Option.map_some, Option.getD_some] at e1
              have h1' := hρ ol
              rw [e1] at h1'
              have hb2 : ∀ code, (Instr.sliceBound (.int kl l) l.toNat code).run P w = .ok l.toNat w := fun code => run_sliceBound (P := P) w kl l l.toNat code (by omega) (by omega)
              simp [execOp, hop, Instr.sliceAt, Instr.slice, Instr.sliceBounds, run_underlying h1, hp, sizeOf, typeInfo, h2, h1'.intI, h2'.intI, h3'.intI, hb0, hb1, hb2]
      · cases hv
    · cases hv
  simp only [step, onPtr, onAgg, onTup, onStr, onSl] at hk
  split at hk
  · rename_i xx len cs e'
    rw [e'] at hx
    obtain ⟨cap, ao, b, off, vals, hp, hle, hmx, hex, hao, hro, hrep⟩ := hx.slI
    unfold sliceV at hk
    obtain ⟨hcl, hk⟩ := hk
    have hlo : RepV M ((lo.map ρV).getD (.d (.int .i64 0))) ((lo.map ρ).getD (Value.int .i64 0)) := by
      cases lo with
      | none => exact .d _ _ (.int _ _)
      | some o' => exact hρ o'
    have hhi : RepV M ((hi.map ρV).getD (.d (.int .i64 len))) ((hi.map ρ).getD (Value.int .i64 len)) := by
      cases hi with
      | none => exact .d _ _ (.int _ _)
      | some o' => exact hρ o'
    obtain ⟨kl, l, hl, hk⟩ := natI_spec hk hlo
    obtain ⟨kt, t, ht, hk⟩ := natI_spec hk hhi
    have hrep2 : ∀ (x' : Bool) (c' : Nat) (a' : Option Addr), 0 ≤ l → l ≤ t → t ≤ len → t.toNat - l.toNat ≤ c' → c' ≤ maxLen → (x' = true → c' = t.toNat - l.toNat) → (l.toNat < t.toNat → a' = ao.map (·.add (l.toNat * inf.size))) →
        RepV M (.d (.sl x' (t.toNat - l.toNat) ((cs.drop (l.toNat * inf.size)).take ((t.toNat - l.toNat) * inf.size)))) (.slice a' (t.toNat - l.toNat) c') := by
      intro x' c' a' g1 g2 g3 g4 g5 g6 g7
      have hbound : l.toNat * inf.size + (t.toNat - l.toNat) * inf.size ≤ len * inf.size := by
        rw [← Nat.add_mul]; exact Nat.mul_le_mul_right _ (by omega)
      have hll : ((cs.drop (l.toNat * inf.size)).take ((t.toNat - l.toNat) * inf.size)).length = (t.toNat - l.toNat) * inf.size := by simp; omega
      refine .d _ _ (.sl x' _ c' _ a' b (off + l.toNat * inf.size) (fun k => vals (l.toNat * inf.size + k)) g4 g5 g6 ?_ (fun k hk => ?_) (fun k c hc => ?_))
      · by_cases hlt : l.toNat < t.toNat
        · right
          rcases hao with rfl | hao
          · exfalso
            have h9 : 0 < (t.toNat - l.toNat) * inf.size := Nat.mul_pos (by omega) (by omega)
            rw [List.length_nil] at hcl; rcases Nat.mul_eq_zero.1 hcl.symm with h | h <;> omega
          · rw [g7 hlt, hao]; simp [Addr.add_lit]
        · left
          apply List.eq_nil_of_length_eq_zero
          rw [hll, show t.toNat - l.toNat = 0 by omega, Nat.zero_mul]
      · rw [hll] at hk
        rw [Nat.add_assoc]; exact hro _ (by omega)
      · rw [List.getElem?_take] at hc
        split at hc
        · rw [List.getElem?_drop] at hc; exact hrep _ _ hc
        · cases hc
    cases mx with
    | none =>
      simp only [Option.map_none] at hk
      obtain ⟨⟨g1, g2, g3⟩, hk⟩ := hk
      have hrun : (execOp ρ o).run P w = .ok (.value (.slice (if cap = l.toNat then ao else ao.map (·.add (l.toNat * inf.size))) (t.toNat - l.toNat) (cap - l.toNat))) w := by
        have hb1 : ∀ code, (Instr.sliceBound (.int kt t) cap code).run P w = .ok t.toNat w := fun code => run_sliceBound (P := P) w kt t cap code (by omega) (by omega)
        have hb2 : ∀ code, (Instr.sliceBound (.int kl l) t.toNat code).run P w = .ok l.toNat w := fun code => run_sliceBound (P := P) w kl l t.toNat code (by omega) (by omega)
        cases lo with
        | none =>
          simp only [Option.map_none, Option.getD_none, Value.int.injEq] at hl
          obtain ⟨rfl, rfl⟩ := hl
          cases hi with
          | none =>
            simp only [Option.map_none, Option.getD_none, Value.int.injEq] at ht
            obtain ⟨rfl, rfl⟩ := ht
            simp [execOp, hop, Instr.sliceAt, Instr.slice, Instr.sliceBounds, run_underlying h1, hp, sizeOf, typeInfo, h2]
          | some oh =>
            simp only [Option.map_some, Option.getD_some] at ht
            simp [execOp, hop, Instr.sliceAt, Instr.slice, Instr.sliceBounds, run_underlying h1, hp, sizeOf, typeInfo, h2, ht, hb1]
        | some ol =>
          simp only [Option.map_some, Option.getD_some] at hl
          cases hi with
          | none =>
            simp only [Option.map_none, Option.getD_none, Value.int.injEq] at ht
            obtain ⟨rfl, rfl⟩ := ht
            simp only [Int.toNat_natCast] at hb2
            simp [execOp, hop, Instr.sliceAt, Instr.slice, Instr.sliceBounds, run_underlying h1, hp, sizeOf, typeInfo, h2, hl, hb2]
          | some oh =>
            simp only [Option.map_some, Option.getD_some] at ht
            simp [execOp, hop, Instr.sliceAt, Instr.slice, Instr.sliceBounds, run_underlying h1, hp, sizeOf, typeInfo, h2, hl, ht, hb1, hb2]
      exact Out.pure hs hn (hrep2 false _ _ g1 g2 g3 (by omega) (by omega) (fun h => by cases h) (fun hlt => by rw [if_neg (by omega)])) hk hrun
    | some m =>
      simp only [Option.map_some] at hk
      obtain ⟨km, mm, hm, ⟨g1, g2, g3, g4, g5⟩, hk⟩ := natI_spec hk (hρ m)
      subst g3
      have hrun : (execOp ρ o).run P w = .ok (.value (.slice (if t.toNat = l.toNat then ao else ao.map (·.add (l.toNat * inf.size))) (t.toNat - l.toNat) (t.toNat - l.toNat))) w := by
        have hb0 : ∀ code, (Instr.sliceBound (.int km t) cap code).run P w = .ok t.toNat w := fun code => run_sliceBound (P := P) w km t cap code (by omega) (by omega)
        have hb1 : ∀ code, (Instr.sliceBound (.int kt t) t.toNat code).run P w = .ok t.toNat w := fun code => run_sliceBound (P := P) w kt t t.toNat code (by omega) (by omega)
        have hb2 : ∀ code, (Instr.sliceBound (.int kl l) t.toNat code).run P w = .ok l.toNat w := fun code => run_sliceBound (P := P) w kl l t.toNat code (by omega) (by omega)
        cases hi with
        | none => simp at g5
        | some oh =>
          simp only [Option.map_some, Option.getD_some] at ht
          cases lo with
          | none =>
            simp only [Option.map_none, Option.getD_none, Value.int.injEq] at hl
            obtain ⟨rfl, rfl⟩ := hl
            simp [execOp, hop, Instr.sliceAt, Instr.slice, Instr.sliceBounds, run_underlying h1, hp, sizeOf, typeInfo, h2, ht, hb1, hm, hb0]
          | some ol =>
            simp only [Option.map_some, Option.getD_some] at hl
            simp [execOp, hop, Instr.sliceAt, Instr.slice, Instr.sliceBounds, run_underlying h1, hp, sizeOf, typeInfo, h2, hl, ht, hb1, hb2, hm, hb0]
      exact Out.pure hs hn (hrep2 true _ _ g1 g2 g4 (Nat.le_refl _) (by omega) (fun _ => rfl) (fun hlt => by rw [if_neg (by omega)])) hk hrun
  · rename_i id g len e'
    rw [e'] at hx
    obtain ⟨r, ao, cap, _, _, hp, hle, hmx, _⟩ := hx.ownI
    obtain ⟨v, hv, hk⟩ := hk
    obtain ⟨rfl, hrun⟩ := zero (lim := len) (cap := cap) hv hle hp
    exact Out.pure hs hn (.d _ _ (.sl true 0 0 [] ao 0 0 (fun _ => undef) (Nat.le_refl _) (Nat.zero_le _) (fun _ => rfl) (.inl rfl) (fun k hk => by simp at hk) (fun k c hk => by simp at hk))) hk hrun
  · rename_i e'
    rw [e'] at hx
    have hp : ρ x = .slice none 0 0 := by generalize ρ x = u at hx; cases hx with | d _ _ h => cases h; rfl
    obtain ⟨v, hv, hk⟩ := hk
    obtain ⟨rfl, hrun⟩ := zero (lim := 0) (cap := 0) hv (Nat.le_refl _) hp
    exact Out.pure hs hn (.d _ _ .nils) hk hrun
  · exact hk.elim

theorem bind_some' {α β : Type} {x : Option α} {f : α → Option β} {b : β} (h : x.bind f = some b) : ∃ a, x = some a ∧ f a = some b := by
  cases x with
  | none => cases h
  | some a => exact ⟨a, rfl, h⟩
theorem map_some' {α β : Type} {x : Option α} {f : α → β} {b : β} (h : x.map f = some b) : ∃ a, x = some a ∧ f a = b := by
  cases x with
  | none => cases h
  | some a => exact ⟨a, rfl, by cases h; rfl⟩

theorem appOf_spec {ts : Array TypeId} {args : Array Operand} {e sz bytes : Nat} {x y : Operand} (h : appOf P ts.toList args.toList = some (e, sz, bytes, x, y)) :
    ∃ (t : TypeId) (i : TypeInfo), ts = #[t, t] ∧ args = #[x, y] ∧ P.underlying t = some (.slice e) ∧ P.info? e = some i ∧ 0 < i.size ∧ (i.zero.map fun z => z.cells.size) = some i.size ∧ sz = i.size ∧ bytes = i.bytes := by
  unfold appOf at h
  split at h
  · rename_i t t' x' y' h1 h2
    split at h
    · rename_i he
      subst he
      split at h
      · rename_i e' hu
        obtain ⟨i, hi, hc⟩ := bind_some' h
        split at hc
        · rename_i hcond
          cases hc
          exact ⟨t, i, by cases ts; simp_all, by cases args; simp_all, hu, hi, hcond.1, hcond.2, rfl, rfl⟩
        · cases hc
      · cases h
    · cases h
  · cases h

/-- EVERY OPERATION BUT A CALL, A PANIC, AN APPEND TO AN OWN ROW. -/
theorem step_sound {own : Bool} {c : COp} (hc : compOp P own o.op = some c) (hcst : ∀ v, ρ (.const v) = v) (hρ : ∀ x, RepV M (ρV x) (ρ x)) (hs : Sim M h w) (hn : n ≤ h.length)
    (hk : step c ρV h K) : Out n M h w K ((execOp ρ o).run P w) := by
  cases hop : o.op with
  | move x => rw [hop] at hc; cases hc; exact snd_move x (.inl hop) (hρ x) hs hn hk
  | assign x => rw [hop] at hc; cases hc; exact snd_move x (.inr hop) (hρ x) hs hn hk
  | pick c a b => rw [hop] at hc; cases hc; exact snd_pick c a b hop (hρ _) (hρ _) (hρ _) hs hn hk
  | alloc T => rw [hop] at hc; obtain ⟨z, hz, rfl⟩ := map_some' hc; exact snd_alloc T z hop hz hs hn hk
  | box T x => rw [hop] at hc; cases hc; exact snd_box T x own hop (hρ x) hs hn hk
  | build T ps =>
    rw [hop] at hc
    simp only [compOp] at hc
    split at hc
    · rename_i pl z hpl hz
      obtain ⟨qs, hq, rfl⟩ := map_some' hc
      exact snd_build T ps pl z qs hop hpl hz hq hρ hs hn hk
    · cases hc
  | buildSlice T len ps =>
    rw [hop] at hc
    simp only [compOp] at hc
    split at hc
    · rename_i e hu
      obtain ⟨i, hi, hc⟩ := bind_some' hc
      obtain ⟨z, hz, hc⟩ := bind_some' hc
      split at hc
      · rename_i hcond
        cases hc
        exact snd_bslice T e len ps own i z hop hu hi hz hcond.1 hcond.2.1 hcond.2.2 hρ hs hn hk
      · cases hc
    · cases hc
  | load T x => rw [hop] at hc; obtain ⟨g, hg, rfl⟩ := map_some' hc; exact snd_load T x g hop hg (hρ x) hs hn hk
  | store T x v => rw [hop] at hc; obtain ⟨i, hi, rfl⟩ := map_some' hc; exact snd_store T x v i hop hi (hρ x) (hρ v) hs hn hk
  | binOp op T x y T' =>
    rw [hop] at hc
    simp only [compOp] at hc
    split at hc
    · rename_i ha; exact snd_eqA op T T' x y c hop ha hc (hρ x) (hρ y) hs hn hk
    · split at hc
      · rename_i c' hc'; cases hc; exact snd_nil op T T' x y c hop hc' (hρ x) (hρ y) (fun v e => by rw [e]; exact hcst v) hs hn hk
      · cases hc; exact snd_bin op T T' x y hop (hρ x) (hρ y) hs hn hk
  | makeMap t r =>
    rw [hop] at hc
    cases r with
    | some r => cases hc
    | none => cases hc; exact snd_mkmap t hop hs hn hk
  | lookup t x k ok =>
    rw [hop] at hc
    simp only [compOp] at hc
    split at hc
    · rename_i kt et hu
      obtain ⟨sh, hsh, hc⟩ := bind_some' hc
      obtain ⟨z, hz, rfl⟩ := map_some' hc
      exact snd_lookup t kt et x k ok sh z hop hu hsh hz (hρ x) (hρ k) hs hn hk
    · cases hc
  | mapUpdate t x k v =>
    rw [hop] at hc
    simp only [compOp] at hc
    split at hc
    · rename_i kt et hu
      obtain ⟨sh, hsh, rfl⟩ := map_some' hc
      exact snd_mupd t kt et x k v sh (.inl hop) hu hsh (hρ x) (hρ k) (hρ v) hs hn hk
    · cases hc
  | insert t x k v =>
    rw [hop] at hc
    simp only [compOp] at hc
    split at hc
    · rename_i kt et hu
      obtain ⟨sh, hsh, rfl⟩ := map_some' hc
      exact snd_mupd t kt et x k v sh (.inr hop) hu hsh (hρ x) (hρ k) (hρ v) hs hn hk
    · cases hc
  | makeSlice t l c' =>
    rw [hop] at hc
    simp only [compOp] at hc
    split at hc
    · rename_i e hu
      obtain ⟨i, hi, hc⟩ := bind_some' hc
      obtain ⟨z, hz, hc⟩ := bind_some' hc
      split at hc
      · rename_i hcnd
        cases hc
        exact snd_mkslice t e l c' i z hop hu hi hz hcnd.1 hcnd.2 (hρ l) (hρ c') hs hn hk
      · cases hc
    · cases hc
  | unOp op T x => rw [hop] at hc; cases hc; exact snd_un op T x hop (hρ x) hs hn hk
  | convert S T x =>
    rw [hop] at hc
    simp only [compOp] at hc
    split at hc
    · rename_i k0 k h1 h2; cases hc; exact snd_conv S T k k0 x hop h1 h2 (hρ x) hs hn hk
    · cases hc
  | fieldAddr S x f =>
    rw [hop] at hc
    simp only [compOp] at hc
    split at hc
    · rename_i fs hu
      obtain ⟨fl, hfl, hc⟩ := bind_some' hc
      obtain ⟨i, hi, hc⟩ := bind_some' hc
      split at hc
      · cases hc
      · rename_i h0; cases hc; exact snd_fieldAddr S x f fs fl i hop hu hfl hi h0 (hρ x) hs hn hk
    · cases hc
  | field S x f =>
    rw [hop] at hc
    simp only [compOp] at hc
    split at hc
    · rename_i fs hu
      obtain ⟨fl, hfl, hc⟩ := bind_some' hc
      obtain ⟨g, hg, rfl⟩ := map_some' hc
      exact snd_field S x f fs fl g hop hu hfl hg (hρ x) hs hn hk
    · cases hc
  | indexAddr T x i =>
    rw [hop] at hc
    simp only [compOp] at hc
    split at hc
    · rename_i e hu
      obtain ⟨inf, hi, hc⟩ := bind_some' hc
      split at hc
      · cases hc
      · rename_i h0; cases hc; exact snd_indexS T e x i inf hop hu hi h0 (hρ x) (hρ i) hs hn hk
    · rename_i m e hu
      obtain ⟨inf, hi, hc⟩ := bind_some' hc
      split at hc
      · cases hc
      · rename_i h0; cases hc; exact snd_indexA T e m x i inf hop hu hi (hρ x) (hρ i) hs hn hk
    · cases hc
  | extract x k => rw [hop] at hc; cases hc; exact snd_extract x k hop (hρ x) hs hn hk
  | nilCheck x => rw [hop] at hc; cases hc; exact snd_nilCheck x hop (hρ x) hs hn hk
  | makeFunc f a c => rw [hop] at hc; cases hc; exact snd_mkfn f a c hop (fun x _ => hρ x) (fun x _ => hρ x) hs hn hk
  | slice T x lo hi mx =>
    rw [hop] at hc
    simp only [compOp] at hc
    split at hc
    · rename_i e hu
      obtain ⟨inf, hi', hc⟩ := bind_some' hc
      split at hc
      · cases hc
      · rename_i h0; cases hc; exact snd_sliceS T e x lo hi mx inf hop hu hi' h0 hρ hs hn hk
    · rename_i m e hu
      split at hc
      · cases hc
      · rename_i hmx
        obtain rfl : mx = none := by cases mx with | none => rfl | some q => simp at hmx
        obtain ⟨inf, hi', hc⟩ := bind_some' hc
        split at hc
        · cases hc
        · rename_i h0; cases hc; exact snd_sliceA T T e m x lo hi inf hop (.inl hu) hi' (by omega) hρ hs hn hk
    · rename_i arr hu
      split at hc
      · rename_i m e hu2
        split at hc
        · cases hc
        · rename_i hmx
          obtain rfl : mx = none := by cases mx with | none => rfl | some q => simp at hmx
          obtain ⟨inf, hi', hc⟩ := bind_some' hc
          split at hc
          · cases hc
          · rename_i h0; cases hc; exact snd_sliceA T arr e m x lo hi inf hop (.inr ⟨hu, hu2⟩) hi' (by omega) hρ hs hn hk
      · cases hc
    · cases hc
  | panic x => rw [hop] at hc; cases hc; exact hk.elim
  | call cl =>
    obtain ⟨callee, args, ts⟩ := cl
    rw [hop] at hc
    cases callee with
    | value f => cases hc
    | invoke r m => cases hc
    | builtin b =>
      cases b with
      | len =>
        simp only [compOp] at hc
        split at hc
        · rename_i e x hu ha
          cases hc
          obtain ⟨T, hT, hu⟩ := bind_some' hu
          obtain rfl : args = #[x] := by cases args; simp_all
          exact snd_len T e x ts hop hT hu (hρ x) hs hn hk
        · rename_i x hu ha
          cases hc
          obtain ⟨T, hT, hu⟩ := bind_some' hu
          obtain rfl : args = #[x] := by cases args; simp_all
          exact snd_lenStr T x ts hop hT hu (hρ x) hs hn hk
        · rename_i m e x hu ha
          cases hc
          obtain ⟨T, hT, hu⟩ := bind_some' hu
          obtain rfl : args = #[x] := by cases args; simp_all
          exact snd_lenArr T e m x ts hop hT hu hs hn hk
        · cases hc
      | min => cases hc; exact snd_min args ts hop hρ hs hn hk
      | max => cases hc; exact snd_max args ts hop hρ hs hn hk
      | append =>
        simp only [compOp] at hc
        split at hc
        · rename_i e sz bytes x y ha
          cases hc
          obtain ⟨t, i, rfl, rfl, hu, hi, h1, h2, rfl, rfl⟩ := appOf_spec ha
          cases own with
          | false => exact snd_append_ro t e i x y hop hu hi h2 h1 (hρ x) (hρ y) hs hn hk
          | true => exact snd_append_nil t e i x y hop hu hi h2 h1 (hρ x) (hρ y) hs hn hk
        · cases hc
      | _ => cases hc
  | _ => rw [hop] at hc; cases hc

end
end Go.Proofs.Ytdnefcjbcieecaa
