/- Equality of structs and arrays of numbers, bools and strings. -/
import Derived.Test.YtdnefcjbcieecaaCoreB
import Derived.Laws.StructEq
import Derived.ChangeKeysEq
import Derived.MapKept
set_option linter.unusedVariables false
set_option linter.unusedSimpArgs false
namespace Go.Proofs.Ytdnefcjbcieecaa
open Go

def shapeFs (sh : TypeId → Option (List SK)) (sz : TypeId → Option Nat) : List Field → Nat → Option (List SK)
  | [], _ => some []
  | f :: fs, off => if f.name ≠ "_" ∧ f.offset = off then
      match sh f.type, sz f.type with
      | some s, some n => if s.length = n then (shapeFs sh sz fs (off + n)).map (s ++ ·) else none
      | _, _ => none
    else none
def shapeOf (P : Program) : Nat → TypeId → Option (List SK)
  | 0, _ => none
  | m + 1, T => match P.underlying T with
    | some .bool => some [.bool]
    | some (.int k) => some [.int k]
    | some .string => some [.str]
    | some (.array n e) => match shapeOf P m e, P.info? e with
      | some s, some i => if s.length = i.size ∧ 0 < i.size then some ((List.replicate n s).flatten) else none
      | _, _ => none
    | some (.struct fs) => if P.stoodInHeld T then none else shapeFs (shapeOf P m) (fun t => (P.info? t).map (·.size)) fs.toList 0
    | _ => none

def matchS : SK → D → Bool
  | .int k, .int k' _ => k == k'
  | .bool, .bool _ => true
  | .str, .str _ => true
  | _, _ => false
def matchSs : List SK → List D → Bool
  | [], [] => true
  | s :: ss, d :: ds => matchS s d && matchSs ss ds
  | _, _ => false
def eqD : D → D → Bool
  | .int _ a, .int _ b => a == b
  | .bool a, .bool b => a == b
  | .str a, .str b => a == b
  | _, _ => false
def eqDs : List D → List D → Bool
  | [], [] => true
  | a :: as, b :: bs => eqD a b && eqDs as bs
  | _, _ => false
def valD : D → Value
  | .int k n => .int k n
  | .bool b => .bool b
  | .str l => .string ⟨l.toArray⟩
  | _ => undef

theorem matchSs_len : ∀ {sh : List SK} {ds : List D}, matchSs sh ds = true → sh.length = ds.length
  | [], [], _ => rfl
  | s :: ss, d :: ds, h => by
    simp only [matchSs, Bool.and_eq_true] at h
    simp [matchSs_len h.2]
  | [], _ :: _, h => by cases h
  | _ :: _, [], h => by cases h
theorem matchSs_append : ∀ {a b : List SK} {ds : List D}, matchSs (a ++ b) ds = true → matchSs a (ds.take a.length) = true ∧ matchSs b (ds.drop a.length) = true
  | [], b, ds, h => ⟨rfl, by simpa using h⟩
  | s :: a, b, d :: ds, h => by
    simp only [List.cons_append, matchSs, Bool.and_eq_true] at h
    obtain ⟨h1, h2⟩ := matchSs_append h.2
    exact ⟨by simp [matchSs, h.1, h1], by simpa using h2⟩
  | s :: a, b, [], h => by cases h
theorem eqDs_append : ∀ {a b c d : List D}, a.length = b.length → eqDs (a ++ c) (b ++ d) = (eqDs a b && eqDs c d)
  | [], [], c, d, _ => by simp [eqDs]
  | x :: a, y :: b, c, d, h => by simp [eqDs, eqDs_append (a := a) (b := b) (c := c) (d := d) (by simpa using h), Bool.and_assoc]
  | [], _ :: _, _, _, h => by simp at h
  | _ :: _, [], _, _, h => by simp at h

section
variable {P : Program} (w : World)
def aggT (P : Program) (T : TypeId) : Bool := match P.underlying T with
  | some (.struct _) => true
  | some (.array _ _) => true
  | _ => false
/-- A value of a type, from its cells. -/
def wrapT (P : Program) (T : TypeId) (xs : List Value) : Value := if aggT P T then .agg xs.toArray else xs.headD undef

theorem run_part_wrap {T : TypeId} {i : TypeInfo} {xs : Array Value} {off : Nat} {ys : List Value} (hi : P.info? T = some i) (hu : ∃ d, P.underlying T = some d) (hs : ys.length = i.size) (hne : aggT P T = false → ys.length = 1)
    (hx : (xs.toList.drop off).take ys.length = ys) : (part T xs off).run P w = .ok (wrapT P T ys) w := by
  obtain ⟨d, hu⟩ := hu
  have hag : (isAgg T).run P w = .ok (aggT P T) w := by
    simp only [isAgg, Sem.run_bind, run_underlying hu, Result.andThen_ok, aggT, hu]
    cases d <;> rfl
  unfold part wrapT
  simp only [Sem.run_bind, hag, Result.andThen_ok]
  cases ha : aggT P T with
  | true =>
    simp only [if_true, Sem.run_bind, sizeOf, typeInfo, hi]
    have : (xs.extract off (off + i.size)) = ys.toArray := by
      apply Array.ext'
      rw [Array.toList_extract, List.extract_eq_take_drop, ← hx, hs]
      simp
    simp [hi, this]
  | false =>
    have h1 := hne ha
    obtain ⟨y, rfl⟩ : ∃ y, ys = [y] := by
      cases ys with
      | nil => simp at h1
      | cons y ys => exact ⟨y, by simp at h1; rw [h1]⟩
    have : xs[off]? = some y := by
      have h2 := congrArg (fun l => l[0]?) hx
      simpa [List.getElem?_take] using h2
    simp [this]

theorem run_eqS : ∀ (m d : Nat) (T : TypeId) (sh : List SK), shapeOf P m T = some sh → ∀ (ds es : List D), matchSs sh ds = true → matchSs sh es = true →
    (aggT P T = false → sh.length = 1) ∧ (∃ dd, P.underlying T = some dd) ∧ (Op.equalIn (d + m) T (wrapT P T (ds.map valD)) (wrapT P T (es.map valD))).run P w = .ok (eqDs ds es) w
  | 0, _, _, _, h => by cases h
  | m + 1, d, T, sh, h => by
    intro ds es h1 h2
    unfold shapeOf at h
    have scal : ∀ k, matchSs [k] ds = true → matchSs [k] es = true → ∃ a b, ds = [a] ∧ es = [b] ∧ matchS k a = true ∧ matchS k b = true := by
      intro k h1 h2
      cases ds with
      | nil => cases h1
      | cons a ds =>
        cases ds with
        | cons _ _ => simp [matchSs] at h1
        | nil =>
          cases es with
          | nil => cases h2
          | cons b es =>
            cases es with
            | cons _ _ => simp [matchSs] at h2
            | nil => exact ⟨a, b, rfl, rfl, by simpa [matchSs] using h1, by simpa [matchSs] using h2⟩
    split at h
    · rename_i hu
      cases h
      obtain ⟨a, b, rfl, rfl, k1, k2⟩ := scal _ h1 h2
      have hag : aggT P T = false := by simp [aggT, hu]
      refine ⟨fun _ => rfl, ⟨_, hu⟩, ?_⟩
      cases a <;> simp [matchS] at k1
      cases b <;> simp [matchS] at k2
      simp only [wrapT, hag, List.map_cons, List.map_nil, valD]
      exact (run_equalIn_bool w _ T _ _ hu).trans (by simp [eqDs, eqD])
    · rename_i k hu
      cases h
      obtain ⟨a, b, rfl, rfl, k1, k2⟩ := scal _ h1 h2
      have hag : aggT P T = false := by simp [aggT, hu]
      refine ⟨fun _ => rfl, ⟨_, hu⟩, ?_⟩
      cases a <;> simp [matchS] at k1
      cases b <;> simp [matchS] at k2
      subst k1 k2
      simp only [wrapT, hag, List.map_cons, List.map_nil, valD]
      exact (run_equalIn_int w _ T _ _ _ _ hu).trans (by simp [eqDs, eqD])
    · rename_i hu
      cases h
      obtain ⟨a, b, rfl, rfl, k1, k2⟩ := scal _ h1 h2
      have hag : aggT P T = false := by simp [aggT, hu]
      refine ⟨fun _ => rfl, ⟨_, hu⟩, ?_⟩
      cases a <;> simp [matchS] at k1
      cases b <;> simp [matchS] at k2
      simp only [wrapT, hag, List.map_cons, List.map_nil, valD]
      exact (run_equalIn_string w _ T _ _ hu).trans (by simp [eqDs, eqD, ByteArray.toList_eq])
    · rename_i n e hu
      have hag : aggT P T = true := by simp [aggT, hu]
      split at h
      · rename_i s i hs hi
        split at h
        · rename_i hsz
          cases h
          refine ⟨fun hf => (by rw [hag] at hf; cases hf), ⟨_, hu⟩, ?_⟩
          have hc : P.cellsOf e = i.size := by simp [Program.cellsOf, hi]
          simp only [wrapT, hag, if_true]
          rw [show d + (m + 1) = (d + m) + 1 from rfl, run_equalIn_array w (d + m) _ _ hu hi, List.range_eq_range', hc]
          -- the elements, from one on
          have key : ∀ (n k : Nat) (xs ys : List D), matchSs ((List.replicate n s).flatten) (xs.drop (k * i.size)) = true → matchSs ((List.replicate n s).flatten) (ys.drop (k * i.size)) = true →
              (Op.eqItems (d + m) e i.size (xs.map valD).toArray (ys.map valD).toArray (List.range' k n)).run P w = .ok (eqDs (xs.drop (k * i.size)) (ys.drop (k * i.size))) w := by
            intro n
            induction n with
            | zero =>
              intro k xs ys hx hy
              have e1 : xs.drop (k * i.size) = [] := List.eq_nil_of_length_eq_zero (by simpa using (matchSs_len hx).symm)
              have e2 : ys.drop (k * i.size) = [] := List.eq_nil_of_length_eq_zero (by simpa using (matchSs_len hy).symm)
              rw [e1, e2]
              simp [Op.eqItems, eqDs]
            | succ n ih =>
              intro k xs ys hx hy
              rw [List.replicate_succ, List.flatten_cons] at hx hy
              obtain ⟨hx1, hx2⟩ := matchSs_append hx
              obtain ⟨hy1, hy2⟩ := matchSs_append hy
              rw [hsz.1] at hx1 hx2 hy1 hy2
              rw [List.drop_drop, show k * i.size + i.size = (k + 1) * i.size by rw [Nat.add_mul]; omega] at hx2 hy2
              obtain ⟨c1, c2, c3⟩ := run_eqS m d e s hs _ _ hx1 hy1
              have l1 : ((xs.drop (k * i.size)).take i.size).length = i.size := by rw [← matchSs_len hx1]; exact hsz.1
              have l2 : ((ys.drop (k * i.size)).take i.size).length = i.size := by rw [← matchSs_len hy1]; exact hsz.1
              have p1 := run_part_wrap w (T := e) (xs := (xs.map valD).toArray) (off := k * i.size) (ys := ((xs.drop (k * i.size)).take i.size).map valD) hi c2 (by simpa using l1) (fun hf => by
                have := c1 hf; simp only [List.length_map]; omega) (by
                simp only [List.length_map, l1]; rw [← List.map_drop, ← List.map_take])
              have p2 := run_part_wrap w (T := e) (xs := (ys.map valD).toArray) (off := k * i.size) (ys := ((ys.drop (k * i.size)).take i.size).map valD) hi c2 (by simpa using l2) (fun hf => by
                have := c1 hf; simp only [List.length_map]; omega) (by
                simp only [List.length_map, l2]; rw [← List.map_drop, ← List.map_take])
              rw [List.range'_succ]
              simp only [Op.eqItems, Sem.run_bind, p1, p2, c3, Result.andThen_ok]
              have hsp : eqDs (xs.drop (k * i.size)) (ys.drop (k * i.size)) = (eqDs ((xs.drop (k * i.size)).take i.size) ((ys.drop (k * i.size)).take i.size) && eqDs (xs.drop ((k + 1) * i.size)) (ys.drop ((k + 1) * i.size))) := by
                have e1 := List.take_append_drop i.size (xs.drop (k * i.size))
                have e2 := List.take_append_drop i.size (ys.drop (k * i.size))
                rw [List.drop_drop, show k * i.size + i.size = (k + 1) * i.size by rw [Nat.add_mul]; omega] at e1 e2
                rw [← eqDs_append (by rw [l1, l2]), e1, e2]
              rw [hsp]
              cases eqDs ((xs.drop (k * i.size)).take i.size) ((ys.drop (k * i.size)).take i.size) with
              | false => simp
              | true => simpa using ih (k + 1) xs ys hx2 hy2
          have := key n 0 ds es (by simpa using h1) (by simpa using h2)
          simpa using this
        · cases h
      · cases h
    · rename_i fs hu
      have hag : aggT P T = true := by simp [aggT, hu]
      split at h
      · cases h
      · rename_i hst
        refine ⟨fun hf => (by rw [hag] at hf; cases hf), ⟨_, hu⟩, ?_⟩
        have hfs : P.fieldsOf T = fs := by simp [Program.fieldsOf, hu]
        simp only [wrapT, hag, if_true]
        rw [show d + (m + 1) = (d + m) + 1 from rfl, run_equalIn_struct w (d + m) T _ _ (by rw [hfs]; exact hu) (by simpa using hst), hfs]
        have key : ∀ (fs : List Field) (off : Nat) (sh : List SK), shapeFs (shapeOf P m) (fun t => (P.info? t).map (·.size)) fs off = some sh → ∀ (xs ys : List D), matchSs sh (xs.drop off) = true → matchSs sh (ys.drop off) = true →
            (Op.eqFields (d + m) (xs.map valD).toArray (ys.map valD).toArray fs).run P w = .ok (eqDs (xs.drop off) (ys.drop off)) w := by
          intro fs
          induction fs with
          | nil =>
            intro off sh hsh xs ys hx hy
            cases hsh
            have e1 : xs.drop off = [] := List.eq_nil_of_length_eq_zero (by simpa using (matchSs_len hx).symm)
            have e2 : ys.drop off = [] := List.eq_nil_of_length_eq_zero (by simpa using (matchSs_len hy).symm)
            rw [e1, e2]
            simp [Op.eqFields, eqDs]
          | cons f fs ih =>
            intro off sh hsh xs ys hx hy
            unfold shapeFs at hsh
            split at hsh
            · rename_i hf
              split at hsh
              · rename_i s n hs hn
                split at hsh
                · rename_i hsz
                  cases hr : shapeFs (shapeOf P m) (fun t => (P.info? t).map (·.size)) fs (off + n) with
                  | none => rw [hr] at hsh; cases hsh
                  | some sh' =>
                    rw [hr] at hsh
                    cases hsh
                    cases hi : P.info? f.type with
                    | none => rw [hi] at hn; cases hn
                    | some i =>
                      rw [hi] at hn
                      simp only [Option.map_some, Option.some.injEq] at hn
                      obtain ⟨hx1, hx2⟩ := matchSs_append hx
                      obtain ⟨hy1, hy2⟩ := matchSs_append hy
                      rw [hsz] at hx1 hx2 hy1 hy2
                      rw [List.drop_drop] at hx2 hy2
                      obtain ⟨c1, c2, c3⟩ := run_eqS m d f.type s hs _ _ hx1 hy1
                      have l1 : ((xs.drop off).take n).length = n := by rw [← matchSs_len hx1]; exact hsz
                      have l2 : ((ys.drop off).take n).length = n := by rw [← matchSs_len hy1]; exact hsz
                      have p1 := run_part_wrap w (T := f.type) (xs := (xs.map valD).toArray) (off := off) (ys := ((xs.drop off).take n).map valD) hi c2 (by simp only [List.length_map]; omega) (fun hf => by
                        have := c1 hf; simp only [List.length_map]; omega) (by
                        simp only [List.length_map, l1]; rw [← List.map_drop, ← List.map_take])
                      have p2 := run_part_wrap w (T := f.type) (xs := (ys.map valD).toArray) (off := off) (ys := ((ys.drop off).take n).map valD) hi c2 (by simp only [List.length_map]; omega) (fun hf => by
                        have := c1 hf; simp only [List.length_map]; omega) (by
                        simp only [List.length_map, l2]; rw [← List.map_drop, ← List.map_take])
                      simp only [Op.eqFields, hf.1, ne_eq, not_false_eq_true, if_true, hf.2, Sem.run_bind, p1, p2, c3, Result.andThen_ok]
                      have hsp : eqDs (xs.drop off) (ys.drop off) = (eqDs ((xs.drop off).take n) ((ys.drop off).take n) && eqDs (xs.drop (off + n)) (ys.drop (off + n))) := by
                        have e1 := List.take_append_drop n (xs.drop off)
                        have e2 := List.take_append_drop n (ys.drop off)
                        rw [List.drop_drop] at e1 e2
                        rw [← eqDs_append (by rw [l1, l2]), e1, e2]
                      rw [hsp]
                      cases eqDs ((xs.drop off).take n) ((ys.drop off).take n) with
                      | false => simp
                      | true => simpa using ih (off + n) sh' hr xs ys hx2 hy2
                · cases hsh
              · cases hsh
            · cases hsh
        have := key fs.toList 0 sh h ds es (by simpa using h1) (by simpa using h2)
        simpa using this
    · cases h

theorem run_checkS (em : Bool) : ∀ (m d : Nat) (T : TypeId) (sh : List SK), shapeOf P m T = some sh → ∀ (ds : List D), matchSs sh ds = true → (Instr.checkKey em (d + m) T (wrapT P T (ds.map valD))).run P w = .ok () w
  | 0, _, _, _, h => by cases h
  | m + 1, d, T, sh, h => by
    intro ds h1
    have h0 := run_eqS w (m + 1) d T sh h ds ds h1 h1
    unfold shapeOf at h
    rw [show d + (m + 1) = (d + m) + 1 from rfl]
    have scal : ∀ k, matchSs [k] ds = true → ∃ a, ds = [a] ∧ matchS k a = true := by
      intro k h1
      cases ds with
      | nil => cases h1
      | cons a ds =>
        cases ds with
        | cons _ _ => simp [matchSs] at h1
        | nil => exact ⟨a, rfl, by simpa [matchSs] using h1⟩
    split at h
    · rename_i hu
      cases h
      obtain ⟨a, rfl, k1⟩ := scal _ h1
      have hag : aggT P T = false := by simp [aggT, hu]
      cases a <;> simp [matchS] at k1
      simp [wrapT, hag, valD, Instr.checkKey, run_underlying hu]
    · rename_i k hu
      cases h
      obtain ⟨a, rfl, k1⟩ := scal _ h1
      have hag : aggT P T = false := by simp [aggT, hu]
      cases a <;> simp [matchS] at k1
      simp [wrapT, hag, valD, Instr.checkKey, run_underlying hu]
    · rename_i hu
      cases h
      obtain ⟨a, rfl, k1⟩ := scal _ h1
      have hag : aggT P T = false := by simp [aggT, hu]
      cases a <;> simp [matchS] at k1
      simp [wrapT, hag, valD, Instr.checkKey, run_underlying hu]
    · rename_i n e hu
      have hag : aggT P T = true := by simp [aggT, hu]
      split at h
      · rename_i s i hs hi
        split at h
        · rename_i hsz
          cases h
          have hc : P.cellsOf e = i.size := by simp [Program.cellsOf, hi]
          simp only [wrapT, hag, if_true, Instr.checkKey, Sem.run_bind, run_underlying hu, Result.andThen_ok, run_sizeOf w hi, hc]
          simp only [Std.Legacy.Range.forIn_eq_forIn_range', Std.Legacy.Range.size, Nat.sub_zero, Nat.add_one_sub_one, Nat.div_one]
          have key : ∀ (n k : Nat) (xs : List D), matchSs ((List.replicate n s).flatten) (xs.drop (k * i.size)) = true →
              (forIn (List.range' k n) PUnit.unit fun j r => do
                let c ← sizeOf e
                let __do_lift ← part e (xs.map valD).toArray (j * c)
                let _ ← Instr.checkKey em (d + m) e __do_lift
                pure (ForInStep.yield PUnit.unit) : Sem PUnit).run P w = .ok PUnit.unit w := by
            intro n
            induction n with
            | zero => intro k xs _; simp
            | succ n ih =>
              intro k xs hx
              rw [List.replicate_succ, List.flatten_cons] at hx
              obtain ⟨hx1, hx2⟩ := matchSs_append hx
              rw [hsz.1] at hx1 hx2
              rw [List.drop_drop, show k * i.size + i.size = (k + 1) * i.size by rw [Nat.add_mul]; omega] at hx2
              obtain ⟨c1, c2, _⟩ := run_eqS w m d e s hs _ _ hx1 hx1
              have c3 := run_checkS em m d e s hs _ hx1
              have l1 : ((xs.drop (k * i.size)).take i.size).length = i.size := by rw [← matchSs_len hx1]; exact hsz.1
              have p1 := run_part_wrap w (T := e) (xs := (xs.map valD).toArray) (off := k * i.size) (ys := ((xs.drop (k * i.size)).take i.size).map valD) hi c2 (by simpa using l1) (fun hf => by
                have := c1 hf; simp only [List.length_map]; omega) (by
                simp only [List.length_map, l1]; rw [← List.map_drop, ← List.map_take])
              rw [List.range'_succ]
              simp only [List.forIn_cons, Sem.run_bind, run_sizeOf w hi, hc, p1, c3, Result.andThen_ok, Sem.run_pure]
              exact ih (k + 1) xs hx2
          have := key n 0 ds (by simpa using h1)
          simp at this ⊢
          rw [this]
          rfl
        · cases h
      · cases h
    · rename_i fs hu
      have hag : aggT P T = true := by simp [aggT, hu]
      split at h
      · cases h
      · rename_i hst
        simp only [wrapT, hag, if_true, Instr.checkKey, Sem.run_bind, run_underlying hu, Result.andThen_ok]
        rw [← Array.forIn_toList]
        have key : ∀ (fs : List Field) (off : Nat) (sh : List SK), shapeFs (shapeOf P m) (fun t => (P.info? t).map (·.size)) fs off = some sh → ∀ (xs : List D), matchSs sh (xs.drop off) = true →
            (forIn fs PUnit.unit fun f r => if f.name ≠ "_" then do
                let __do_lift ← part f.type (xs.map valD).toArray f.offset
                let _ ← Instr.checkKey em (d + m) f.type __do_lift
                pure (ForInStep.yield PUnit.unit)
              else do
                pure PUnit.unit
                pure (ForInStep.yield PUnit.unit) : Sem PUnit).run P w = .ok PUnit.unit w := by
          intro fs
          induction fs with
          | nil => intro off sh _ xs _; simp
          | cons f fs ih =>
            intro off sh hsh xs hx
            unfold shapeFs at hsh
            split at hsh
            · rename_i hf
              split at hsh
              · rename_i s n hs hn
                split at hsh
                · rename_i hsz
                  cases hr : shapeFs (shapeOf P m) (fun t => (P.info? t).map (·.size)) fs (off + n) with
                  | none => rw [hr] at hsh; cases hsh
                  | some sh' =>
                    rw [hr] at hsh
                    cases hsh
                    cases hi : P.info? f.type with
                    | none => rw [hi] at hn; cases hn
                    | some i =>
                      rw [hi] at hn
                      simp only [Option.map_some, Option.some.injEq] at hn
                      obtain ⟨hx1, hx2⟩ := matchSs_append hx
                      rw [hsz] at hx1 hx2
                      rw [List.drop_drop] at hx2
                      obtain ⟨c1, c2, _⟩ := run_eqS w m d f.type s hs _ _ hx1 hx1
                      have c3 := run_checkS em m d f.type s hs _ hx1
                      have l1 : ((xs.drop off).take n).length = n := by rw [← matchSs_len hx1]; exact hsz
                      have p1 := run_part_wrap w (T := f.type) (xs := (xs.map valD).toArray) (off := off) (ys := ((xs.drop off).take n).map valD) hi c2 (by simp only [List.length_map]; omega) (fun hf => by
                        have := c1 hf; simp only [List.length_map]; omega) (by
                        simp only [List.length_map, l1]; rw [← List.map_drop, ← List.map_take])
                      simp only [List.forIn_cons, hf.1, ne_eq, not_false_eq_true, if_true, hf.2, Sem.run_bind, p1, c3, Result.andThen_ok, Sem.run_pure]
                      exact ih (off + n) sh' hr xs hx2
                · cases hsh
              · cases hsh
            · cases hsh
        have := key fs.toList 0 sh h ds (by simpa using h1)
        simp at this ⊢
        rw [this]
        rfl
    · cases h
end
end Go.Proofs.Ytdnefcjbcieecaa
