/- A part of the proof. -/
import Derived.Test.YtdnefcjbcieecaaPart4
set_option linter.unusedVariables false
set_option linter.unusedSimpArgs false
namespace Go.Proofs.Ytdnefcjbcieecaa
noncomputable section
open Go
inductive Tr where
 | leaf (e:CExit) (env:Env) (h:Heap)
 | done (v:V) (h:Heap)
 | fail
 | br (b:Bool) (t f:Tr)
 | need (p:Prop) (t:Tr)
 | two (a b:Tr)
 | lp (c:CCode) (s:List Fr) (env:Env) (h:Heap)
 | clB (x:Bool) (f:V) (args:List V) (h:Heap) (k:Bool → Heap → Tr)
 | clI (x:Bool) (f:V) (args:List V) (h:Heap) (k:Int → Heap → Tr)
 | alt (x:Bool) (f:FuncId) (args:List V) (h:Heap) (v1:V) (h1:Heap) (v2:V) (h2:Heap) (t u:Tr)
def holds (P:Program) (G:Cfg) (n:Nat) (Q:CExit → Env → Heap → Prop) (R:V → Heap → Prop):Tr → Prop
 | .leaf e env h => Q e env h
 | .done v h => R v h
 | .fail => False
 | .br b t f => (b = true → holds P G n Q R t) ∧ (b = false → holds P G n Q R f)
 | .need p t => p ∧ holds P G n Q R t
 | .two a b => holds P G n Q R a ∧ holds P G n Q R b
 | .lp c s env h => lpS P G n c s Q env h
 | .clB x f args h k => callV P f args h fun v h' => ∃ b,v = .d (.bool b) ∧ (x = true → HLe h h') ∧ holds P G n Q R (k b h')
 | .clI x f args h k => callV P f args h fun v h' => ∃ b,v = .d (.int .i64 b) ∧ (x = true → HLe h h') ∧ holds P G n Q R (k b h')
 | .alt x f args h v1 h1 v2 h2 t u => ACalls P f args h fun v h' => (v = v1 ∧ h' = h1 ∧ (x = true → HLe h h') ∧ holds P G n Q R t) ∨ (v = v2 ∧ h' = h2 ∧ (x = true → HLe h h') ∧ holds P G n Q R u)
abbrev Tags := List (Nat × Option Bool)
def tagAt (tg:Tags) (t:Nat):Option Bool := List.rec (motive := fun _ => Option Bool) none (fun p _ ih => Bool.rec (motive := fun _ => Option Bool) ih p.2 (Nat.beq t p.1)) tg
def tagO (tg:Tags):Operand → Option Bool
 | .tmp t => tagAt tg t
 | .const (.bool b) => some b
 | _ => none
def tagPut (tg:Tags) (o:Option Nat) (b:Option Bool):Tags := match o with | none => tg | some t => (t,b) :: tg
def tagKeep (tg:Tags):Option (List Nat) → Tags
 | none => tg
 | some l => mapZ (fun t => (t,tagAt tg t)) l
def TagOk (env:Env) (tg:Tags):Prop := ∀ t b,tagAt tg t = some b → env.get t = .d (.bool b)
structure Sx where
 sp:FuncId → List V → Heap → Option (Prop × V × Option Heap)
 md:Nat → Nat
 sh:Nat → List Nat
 sym:Bool := false
 mrg:Bool := true
 sfz:Bool := false
 alt:FuncId → List V → Heap → Option ((V × Heap) × (V × Heap)) := fun _ _ _ => none
def heapO (h:Heap):Option Heap → Heap
 | none => h
 | some h' => h'
def SpOk (P:Program) (sp:FuncId → List V → Heap → Option (Prop × V × Option Heap)):Prop := ∀ f args h p v ho,sp f args h = some (p,v,ho) → p → ACalls P f args h fun v1 h1 => v1 = v ∧ h1 = heapO h ho
def forceV (v:V) (k:V → Tr):Tr := match v with
 | .any => k .any
 | .d x => k (.d x)
 | .agg cs => k (.agg cs)
 | .tup vs => k (.tup vs)
 | .own a b c => k (.own a b c)
 | .ptr a b c => k (.ptr a b c)
 | .rptr a b => k (.rptr a b)
 | .fn f a b => k (.fn f a b)
 | .mp a => k (.mp a)
 | .yl a => k (.yl a)
theorem forceV_eq (v:V) (k:V → Tr):forceV v k = k v := by cases v <;> rfl
def pV (o:Option (DP × V × Heap)) (k:V → Heap → Tr):Tr := match o with
 | some (p,v,h') => .need p.P (k v h')
 | none => .fail
def arP (ka:IntKind) (r:Int) (k:V → Tr):Tr := match ka with
 | .i64 => .need (-9223372036854775808 ≤ r ∧ r ≤ 9223372036854775807) (k (.d (.int .i64 r)))
 | ka => k (.d (.int ka (ka.wrap r)))
def pBin (op:BinOp) (x y:V) (h:Heap) (k:V → Heap → Tr):Tr := match x,y with
 | .d (.int ka a),.d (.int kb b) => bif Nat.beq (kn ka) (kn kb) then match op with
   | .add => arP ka (a + b) fun v => k v h
   | .sub => arP ka (a - b) fun v => k v h
   | .mul => arP ka (a * b) fun v => k v h
   | .quo => .need (b ≠ 0) (arP ka (a.tdiv b) fun v => k v h)
   | .rem => .need (b ≠ 0) (k (.d (.int ka (a.tmod b))) h)
   | .eql => k (.d (.bool (a == b))) h
   | .neq => k (.d (.bool (a != b))) h
   | .lss => k (.d (.bool (decide (a < b)))) h
   | .leq => k (.d (.bool (decide (a ≤ b)))) h
   | .gtr => k (.d (.bool (decide (b < a)))) h
   | .geq => k (.d (.bool (decide (b ≤ a)))) h
   | op => pV (inH h (evBin op (.d (.int ka a)) (.d (.int kb b)))) k
  else pV (inH h (evBin op (.d (.int ka a)) (.d (.int kb b)))) k
 | _,_ => .fail
def vI (cs:List V) (off:Nat):Int := match cs[off]? with | some (.d (.int _ n)) => n | _ => 0
def dI (ds:List D) (off:Nat):Int := match ds[off]? with | some (.int _ n) => n | _ => 0
def pLoad (m:Nat) (g:Option Nat) (x:V) (h:Heap) (k:V → Tr):Tr := match g,x with
 | none,.ptr id ge off => match nthZ h id with
  | some (some (.box cs)) => bif Nat.beq ge 0 then (bif Nat.beq m 1 then .need (cs[off]? = some (.d (.int .i64 (vI cs off)))) (k (.d (.int .i64 (vI cs off)))) else match nthZ cs off with
    | some v => forceV v k
    | none => .fail) else .fail
  | some (some (.row _ _ g' ds)) => .need (ge = g' ∧ ds[off]? = some (.int .i64 (dI ds off))) (k (.d (.int .i64 (dI ds off))))
  | _ => .fail
 | none,.rptr ds off => match nthZ ds off with
  | some d => k (.d d)
  | none => .fail
 | some n,.ptr id ge off => match nthZ h id with
  | some (some (.box cs)) => bif Nat.beq ge 0 then (bif Nat.ble (Nat.add off n) (lenZ cs) then k (.agg (takeZ (dropZ cs off) n)) else .fail) else .fail
  | _ => .fail
 | some n,.rptr ds off => bif Nat.ble (Nat.add off n) (lenZ ds) then k (.agg (mapZ V.d (takeZ (dropZ ds off) n))) else .fail
 | _,_ => .fail
def pStore (sym:Bool) (n:Nat) (x v:V) (h:Heap) (k:V → Heap → Tr):Tr := match x,cellsV v with
 | .ptr id ge off,some vs => match nthZ h id with
  | some (some (.box cs)) => bif Nat.beq ge 0 then (bif sym then .need (off + vs.length ≤ cs.length ∧ vs.length = n) (k .any (setZ h id (some (.box (putAt cs off vs)))))
    else bif Nat.ble (Nat.add off (lenZ vs)) (lenZ cs) then (bif Nat.beq (lenZ vs) n then k .any (setZ h id (some (.box (putAtZ cs off vs)))) else .fail) else .fail) else .fail
  | some (some (.row e sz g' ds)) => match toDs vs with
   | some xs => .need (ge = g' ∧ off + vs.length ≤ ds.length ∧ vs.length = n) (k .any (setZ h id (some (.row e sz g' (putAt ds off xs)))))
   | none => .fail
  | _ => .fail
 | _,_ => .fail
def cI (cs:List D) (sz:Nat) (i:Int) (j:Nat):Int := match cs[i.toNat * sz + j]? with | some (.int _ n) => n | _ => 0
def cL (cs:List D) (sz:Nat) (i:Int) (j:Nat):Nat := match cs[i.toNat * sz + j]? with | some (.sl _ n _) => n | _ => 0
def cC (cs:List D) (sz:Nat) (i:Int) (j:Nat):List D := match cs[i.toNat * sz + j]? with | some (.sl _ _ x) => x | _ => []
def elD (kd:Nat) (cs:List D) (sz:Nat) (i:Int) (j:Nat):D := match kd with
 | 0 => .int .i64 (cI cs sz i j)
 | 1 => .sl false (cL cs sz i j) (cC cs sz i j)
 | _ => .int .u16 (cI cs sz i j)
def elDs (ks:List Nat) (cs:List D) (sz:Nat) (i:Int) (j:Nat):List D := match ks with
 | [] => []
 | kd :: ks => elD kd cs sz i j :: elDs ks cs sz i (Nat.succ j)
def okEl (ks:List Nat) (cs:List D) (sz:Nat) (i:Int):Prop := elemAt cs sz i.toNat = some (elDs ks cs sz i 0)
def pIdx (ks:List Nat) (sz:Nat) (x i:V) (h:Heap) (k:V → Tr):Tr := match i,x with
 | .d (.int _ i),.d (.sl _ len cs) => .need (0 ≤ i ∧ i < len ∧ okEl ks cs sz i) (k (.rptr (elDs ks cs sz i 0) 0))
 | .d (.int _ i),.own id ge len => match nthZ h id with
  | some (some (.row _ _ g' ds)) => .need ((0 ≤ i ∧ i < len) ∧ ge = g' ∧ i.toNat * sz + sz ≤ ds.length) (k (.ptr id ge (i.toNat * sz)))
  | _ => .fail
 | _,_ => .fail
def pIdxA (len sz:Nat) (x i:V) (k:V → Tr):Tr := match i,x with
 | .d (.int _ i),.ptr id ge o => .need (0 ≤ i ∧ i < len) (k (.ptr id ge (o + i.toNat * sz)))
 | .d (.int _ i),.rptr ds o => .need (0 ≤ i ∧ i < len) (k (.rptr ds (o + i.toNat * sz)))
 | _,_ => .fail
def pSliceA (len sz:Nat) (x l t:V) (k:V → Tr):Tr := match x,l,t with
 | .rptr ds off,.d (.int _ l),.d (.int _ t) => .need (0 ≤ l ∧ l ≤ t ∧ t ≤ len ∧ off + len * sz ≤ ds.length) (k (.d (.sl false (t.toNat - l.toNat) ((ds.drop (off + l.toNat * sz)).take ((t.toNat - l.toNat) * sz)))))
 | _,_,_ => .fail
def lkN:Option V → Int
 | some (.tup [.d (.int _ n),_]) => n
 | _ => 0
def lkB:Option V → Bool
 | some (.tup [_,.d (.bool b)]) => b
 | _ => false
def mapIn (o:Option Heap) (id:Nat):List (V × V) := match o with
 | some h => match h[id]? with
  | some (some (.map es)) => es
  | _ => []
 | none => []
def pMax2 (x y:V) (g:Int → Int → Int) (k:V → Tr):Tr := match x,y with
 | .d (.int .i64 a),.d (.int .i64 b) => k (.d (.int .i64 (g a b)))
 | _,_ => .fail
def min2 (a b:Int):Int := if b < a then b else a
def max2 (a b:Int):Int := if b > a then b else a
def sOp (X:Sx) (m:Nat) (c:COp) (env:Env) (h:Heap) (k:V → Heap → Tr):Tr := match c with
 | .move x => forceV (opndZ env x) fun v => k v h
 | .alloc z => k (.ptr (lenZ h) 0 0) (appZ h [some (.box z)])
 | .box true x => match cellsV (opndZ env x) with
  | some cs => k (.ptr (lenZ h) 0 0) (appZ h [some (.box cs)])
  | none => .fail
 | .box false x => match cellsV (opndZ env x) with
  | some cs => match toDs cs with
   | some ds => k (.rptr ds 0) h
   | none => k (.ptr (lenZ h) 0 0) (appZ h [some (.box cs)])
  | none => .fail
 | .load g x => pLoad m g (opndZ env x) h fun v => k v h
 | .store n x v => pStore X.sym n (opndZ env x) (opndZ env v) h k
 | .build z ps => match partsV (opndZ env) ps with
  | some qs => bif fitL z.length qs then k (.agg (fillL z qs)) h else .fail
  | none => .fail
 | .bslice own e sz len z ps => match partsD (opndZ env) sz ps with
  | some qs => bif fitL z.length qs then (bif own then k (.own (lenZ h) 0 len) (appZ h [some (.row e sz 0 (fillL z qs))]) else k (.d (.sl true len (fillL z qs))) h) else .fail
  | none => .fail
 | .bin op x y => pBin op (opndZ env x) (opndZ env y) h k
 | .un .not x => match opndZ env x with
  | .d (.bool b) => k (.d (.bool (!b))) h
  | _ => .fail
 | .conv kd x => match opndZ env x with
  | .d (.int _ n) => k (.d (.int kd (kd.wrap n))) h
  | _ => .fail
 | .fieldAddr off x => match opndZ env x with
  | .ptr id g o => k (.ptr id g (Nat.add o off)) h
  | .rptr ds o => k (.rptr ds (Nat.add o off)) h
  | _ => .fail
 | .nilCheck x => match opndZ env x with
  | .ptr id g o => k (.ptr id g o) h
  | .rptr ds o => k (.rptr ds o) h
  | _ => .fail
 | .field none off x => match opndZ env x with
  | .agg cs => match nthZ cs off with
   | some v => forceV v fun v => k v h
   | none => .fail
  | _ => .fail
 | .field (some n) off x => match opndZ env x with
  | .agg cs => bif Nat.ble (Nat.add off n) (lenZ cs) then k (.agg (takeZ (dropZ cs off) n)) h else .fail
  | _ => .fail
 | .indexS sz x i => bif Nat.beq m 5 then pIdx [1,1] sz (opndZ env x) (opndZ env i) h fun v => k v h else pIdx (X.sh sz) sz (opndZ env x) (opndZ env i) h fun v => k v h
 | .indexA len sz x i => pIdxA len sz (opndZ env x) (opndZ env i) fun v => k v h
 | .extract x i => match opndZ env x with
  | .tup vs => match nthZ vs i with
   | some v => forceV v fun v => k v h
   | none => .fail
  | _ => .fail
 | .mkfn f a c => k (.fn f (mapZ (opndZ env) a) (mapZ (opndZ env) c)) h
 | .len x => match opndZ env x with
  | .d (.sl _ len _) => k (.d (.int .i64 len)) h
  | .own _ _ len => k (.d (.int .i64 len)) h
  | .d .nils => k (.d (.int .i64 0)) h
  | _ => .fail
 | .min [x,y] => pMax2 (opndZ env x) (opndZ env y) min2 fun v => k v h
 | .max [x,y] => pMax2 (opndZ env x) (opndZ env y) max2 fun v => k v h
 | .sliceA len sz x lo hi => pSliceA len sz (opndZ env x) ((lo.map (opndZ env)).getD (.d (.int .i64 0))) ((hi.map (opndZ env)).getD (.d (.int .i64 len))) fun v => k v h
 | .lookup agg sh z ok x y => bif Nat.beq m 3 then
   .need (evLk agg sh z ok (opndZ env x) (opndZ env y) h = some (.tup [.d (.int .i64 (lkN (evLk agg sh z ok (opndZ env x) (opndZ env y) h))),.d (.bool (lkB (evLk agg sh z ok (opndZ env x) (opndZ env y) h)))]))
    (k (.tup [.d (.int .i64 (lkN (evLk agg sh z ok (opndZ env x) (opndZ env y) h))),.d (.bool (lkB (evLk agg sh z ok (opndZ env x) (opndZ env y) h)))]) h)
  else pV ((evLk agg sh z ok (opndZ env x) (opndZ env y) h).map fun v => (dp True,v,h)) k
 | .mupd agg sh x y v => match opndZ env x with
  | .mp id => .need (evUp agg sh (.mp id) (opndZ env y) (opndZ env v) h = some (h.set id (some (.map (mapIn (evUp agg sh (.mp id) (opndZ env y) (opndZ env v) h) id)))))
    (k .any (setZ h id (some (.map (mapIn (evUp agg sh (.mp id) (opndZ env y) (opndZ env v) h) id)))))
  | _ => .fail
 | c => pV (evOp c (opndZ env) h) k
def canonD:D → D
 | .nils => .sl false 0 []
 | .sl _ n cs => .sl false n cs
 | d => d
def canon0:V → V
 | .d x => .d (canonD x)
 | v => v
def canon:V → V
 | .d x => .d (canonD x)
 | .agg cs => .agg (mapZ canon0 cs)
 | v => v
def pTab (x:Bool) (h:Heap) (o:Option (Prop × V × Option Heap)) (k:V → Heap → Tr):Tr := match o with
 | some (p,v,none) => .need p (forceV v fun v => k v h)
 | some (p,v,some h') => .need p (bif x then .need (HLe h h') (forceV v fun v => k v h') else forceV v fun v => k v h')
 | none => .fail
def pCall (X:Sx) (m:Nat) (x:Bool) (f:V) (args:List V) (h:Heap) (k:V → Heap → Tr):Tr := match m with
 | 1 => .clB x f args h fun b h' => k (.d (.bool b)) h'
 | 2 => .clI x f args h fun b h' => k (.d (.int .i64 b)) h'
 | 4 => match f with
  | .d (.fn (.func g)) => match X.alt g (mapZ canon args) h with
   | some ((v1,h1),(v2,h2)) => .alt x g (mapZ canon args) h v1 h1 v2 h2 (forceV v1 fun v => k v h1) (forceV v2 fun v => k v h2)
   | none => .fail
  | _ => .fail
 | 6 => match f with
  | .d (.fn (.func g)) => pTab x h (X.sp g args h) k
  | _ => .fail
 | _ => match f with
  | .d (.fn (.func g)) => pTab x h (X.sp g (mapZ canon args) h) k
  | .fn (.func g) first caps => pTab x h (X.sp g (mapZ canon (appZ first (appZ args caps))) h) k
  | _ => .fail
def pApp (e sz bytes:Nat) (x:V) (env:Env) (y:Operand) (h:Heap) (k:V → Heap → Tr):Tr := match x with
 | .own id ge len => match nthZ h id,conts h (opndZ env y) with
  | some (some (.row e' sz' g' ds)),some p => .need (ge = g' ∧ e' = e ∧ sz' = sz ∧ ds.length = len * sz ∧ p.2.length = p.1 * sz ∧ len + p.1 ≤ 140737488355328 ∧ (len + p.1) * bytes ≤ 140737488355328)
    (k (.own id (Nat.add ge 1) (len + p.1)) (setZ h id (some (.row e sz (Nat.add ge 1) (ds ++ p.2)))))
  | _,_ => .fail
 | .d x => pV (evApp true e sz bytes (.d x) (opndZ env y) h) k
 | _ => .fail
def pCase (tg:Tags) (o:Operand) (v:V) (yes no:Tags → Tr):Tr := match tagO tg o with
 | some true => yes tg
 | some false => no tg
 | none => match v with
  | .d (.bool b) => match o with
   | .tmp t => .br b (yes ((t,some true) :: tg)) (no ((t,some false) :: tg))
   | _ => .br b (yes tg) (no tg)
  | _ => .fail
def tagOp (tg:Tags):COp → Option Bool
 | .move x => tagO tg x
 | .un .not x => match tagO tg x with
  | some b => some (!b)
  | none => none
 | _ => none
def sR (X:Sx) (r:ROp) (env:Env) (tg:Tags) (h:Heap) (K:Env → Tags → Heap → Tr):Tr := match r.op with
 | .simple (.pick c a b) => pCase tg c (opndZ env c) (fun tg => forceV (opndZ env a) fun v => K (putZ env r.dst v) (tagPut tg r.dst (tagO tg a)) h) (fun tg => forceV (opndZ env b) fun v => K (putZ env r.dst v) (tagPut tg r.dst (tagO tg b)) h)
 | .simple c => sOp X (match r.dst with | some t => X.md t | none => 0) c env h fun v h' => K (putZ env r.dst v) (tagPut tg r.dst (tagOp tg c)) h'
 | .call f args => pCall X (match r.dst with | some t => X.md t | none => 0) false (opndZ env f) (mapZ (opndZ env) args) h fun v h' => K (putZ env r.dst v) (tagPut tg r.dst none) h'
 | .callx f args => pCall X (match r.dst with | some t => X.md t | none => 0) true (opndZ env f) (mapZ (opndZ env) args) h fun v h' => K (putZ env r.dst v) (tagPut tg r.dst none) h'
 | .app e sz bytes x y => pApp e sz bytes (opndZ env x) env y h fun v h' => K (putZ env r.dst v) (tagPut tg r.dst none) h'
def sOps (X:Sx) (rs:List ROp):Env → Tags → Heap → (Env → Tags → Heap → Tr) → Tr := List.rec (motive := fun _ => Env → Tags → Heap → (Env → Tags → Heap → Tr) → Tr) (fun env tg h K => K env tg h)
 (fun r _ ih env tg h K => match r.guard with
  | none => sR X r env tg h fun env tg h => ih env tg h K
  | some (t,w) => match tagAt tg t,getZ env t with
   | none,.tup [] => ih (putZ env r.dst (.tup [])) (tagPut tg r.dst none) h K
   | _,v => pCase tg (.tmp t) v
     (fun tg => bif w then sR X r env tg h fun env tg h => ih env tg h K else ih (putZ env r.dst (.tup [])) (tagPut tg r.dst none) h K)
     (fun tg => bif w then ih (putZ env r.dst (.tup [])) (tagPut tg r.dst none) h K else sR X r env tg h fun env tg h => ih env tg h K)) rs
def gs1 (id:Nat):V → List Nat
 | .own i g _ => bif Nat.beq i id then [g] else []
 | .ptr i g _ => bif Nat.beq i id then [g] else []
 | _ => []
def fs1 (id:Nat) (ds:List D):V → V
 | .own i g len => bif Nat.beq i id then .d (.sl false len ds) else .own i g len
 | .ptr i g off => bif Nat.beq i id then .rptr ds off else .ptr i g off
 | v => v
def catZ {α:Type} (f:α → List Nat) (l:List α):List Nat := List.rec (motive := fun _ => List Nat) [] (fun a _ ih => appZ (f a) ih) l
def gs2 (id:Nat):V → List Nat
 | .agg cs => catZ (gs1 id) cs
 | .fn _ a c => appZ (catZ (gs1 id) a) (catZ (gs1 id) c)
 | v => gs1 id v
def fs2 (id:Nat) (ds:List D):V → V
 | .agg cs => .agg (mapZ (fs1 id ds) cs)
 | .fn f a c => .fn f (mapZ (fs1 id ds) a) (mapZ (fs1 id ds) c)
 | v => fs1 id ds v
def gsV (id:Nat):V → List Nat
 | .tup cs => catZ (gs2 id) cs
 | v => gs2 id v
def fsV (id:Nat) (ds:List D):V → V
 | .tup cs => .tup (mapZ (fs2 id ds) cs)
 | v => fs2 id ds v
def gsB (id:Nat):Option Blk → List Nat
 | some (.box cs) => catZ (gs1 id) cs
 | _ => []
def fsB (id g:Nat) (ds:List D):Option Blk → Option Blk
 | some (.box cs) => some (.box (mapZ (fs1 id ds) cs))
 | b => fzB id g ds b
def needL (g:Nat) (gs:List Nat) (t:Tr):Tr := List.rec (motive := fun _ => Tr) t (fun x _ ih => .need (x = g) ih) gs
def sFrz (env:Env) (h:Heap) (x:Nat × Option Nat) (k:Env → Heap → Tr) (k0:Tr):Tr := match frzV env h x with
 | .own id g len => match nthZ h id with
  | some (some (.row e sz g' ds)) => .need (g = g') (needL g (appZ (catZ (fun p => gsV id p.2) env) (catZ (gsB id) h)) (k (mapZ (fun p => (p.1,fsV id ds p.2)) env) (setZ (mapZ (fsB id g ds) h) id none)))
  | _ => .fail
 | v => match frzB h v with
  | some (id,g,ds) => k (fzE id g ds env) (fzH id g ds h)
  | none => k0
abbrev CT := CExit → Env → Tags → Heap → Tr
def leafK:CT := fun e env _ h => .leaf e env h
def mrgB (t:Tr) (env:Env) (h:Heap) (k:Tr):Tr := match t with
 | .leaf .normal env' h' => .need (env' = env ∧ h' = h) k
 | .need p t => .need p (mrgB t env h k)
 | _ => .fail
def mrgA (t u:Tr) (k:Env → Heap → Tr):Tr := match t with
 | .leaf .normal env h => mrgB u env h (k env h)
 | .need p t => .need p (mrgA t u k)
 | _ => .fail
def shV:V → List Nat
 | .own i _ _ => [i]
 | .ptr i _ _ => [i]
 | _ => []
def shB:Option Blk → List Nat
 | some (.box cs) => appZ [1,lenZ cs] (catZ shV cs)
 | some (.row _ _ _ _) => [2]
 | some (.map _) => [3]
 | some _ => [4]
 | none => [0]
def shS (env:Env) (h:Heap):List Nat := appZ (catZ (fun p:Nat × V => shV p.2) env) (catZ shB h)
def leafOf (t:Tr):List Nat := Tr.rec (motive := fun _ => List Nat) (fun _ env h => 1 :: shS env h) (fun _ _ => []) [] (fun _ _ _ _ _ => []) (fun _ _ ih => ih) (fun _ _ _ _ => []) (fun _ _ _ _ => []) (fun _ _ _ _ _ _ => []) (fun _ _ _ _ _ _ => []) (fun _ _ _ _ _ _ _ _ _ _ _ _ => []) t
def eqN (a b:List Nat):Bool := List.rec (motive := fun _ => List Nat → Bool) (fun b => match b with
 | [] => true
 | _ => false) (fun x _ ih b => match b with
 | [] => false
 | y :: b => bif Nat.beq x y then ih b else false) a b
def sameN (a b:List Nat):Bool := match a with
 | [] => false
 | _ => eqN a b
def seqT (e:CExit) (a b:Tr):Tr := match e with
 | .normal => a
 | _ => b
def blkT (e:CExit) (id:Nat) (k:CExit → Tr):Tr := match e with
 | .normal => k .normal
 | .exit i => bif Nat.beq i id then k .normal else k (.exit i)
 | .ret => k .ret
def sx (X:Sx) (c:CCode):List Fr → CT → Env → Tags → Heap → Tr := match c with
 | .skip => fun _ k env tg h => k .normal env tg h
 | .region ops live => fun _ k env tg h => sOps X ops env tg h fun env tg h => k .normal (keepZ env live) (tagKeep tg live) h
 | .both a b => fun s k env tg h => bif X.mrg && sameN (leafOf (sx X a [] leafK env tg h)) (leafOf (sx X b [] leafK env tg h)) then mrgA (sx X a [] leafK env tg h) (sx X b [] leafK env tg h) (fun env h => k .normal env [] h)
   else .two (sx X a s k env tg h) (sx X b s k env tg h)
 | .frz x => fun _ k env tg h => bif X.sfz then sFrz env h x (fun env h => k .normal env [] h) (k .normal env tg h) else match frzB h (frzV env h x) with
  | some (id,g,ds) => k .normal (fzE id g ds env) [] (fzH id g ds h)
  | none => k .normal env tg h
 | .seq a b => fun s k env tg h => sx X a (.seq b :: s) (fun e env tg h => seqT e (sx X b s k env tg h) (k e env tg h)) env tg h
 | .cond c a b => fun s k env tg h => pCase tg c (opndZ env c) (fun tg => sx X a s k env tg h) (fun tg => sx X b s k env tg h)
 | .block id c => fun s k env tg h => sx X c (.blk id :: s) (fun e env tg h => blkT e id fun e => k e env tg h) env tg h
 | .loop c => fun s _ env _ h => .lp c s env h
 | .exit id => fun _ k env tg h => k (.exit id) env tg h
 | .ret => fun _ k env tg h => k .ret env tg h
 | .rangeF .. => fun _ _ _ _ _ => .fail
def sS (X:Sx) (k:CT) (s:List Fr):CT := List.rec (motive := fun _ => CT) k (fun fr s ih => match fr with
 | .seq c => fun e env tg h => seqT e (sx X c s ih env tg h) (ih e env tg h)
 | .blk id => fun e env tg h => blkT e id fun e => ih e env tg h) s
def oneT (l:List V):V := match l with
 | [v] => v
 | vs => .tup vs
def resT (m:Nat → Nat) (env:Env) (h:Heap) (l:List CRes) (K:List V → Tr):Tr := match l with
 | [] => K []
 | .tmp t :: r => forceV (getZ env t) fun v => resT m env h r fun vs => K (v :: vs)
 | .cell a g :: r => pLoad 0 g (getZ env a) h fun v => resT m env h r fun vs => K (v :: vs)
def doneK (cr:List CRes):CT := fun e env _ h => match e with
 | .exit _ => .fail
 | _ => resT (fun _ => 0) env h cr fun vs => .done (oneT vs) h
def doneP (cr:List CRes):CT := fun e env _ h => match e with
 | .exit _ => .fail
 | _ => resT (fun _ => 0) env h cr fun vs => .done (oneT vs) []
def doneF (n:Nat) (cr:List CRes):CT := fun e env _ h => match e with
 | .exit _ => .fail
 | _ => resT (fun _ => 0) env h cr fun vs => match finX n (oneT vs) h with
  | (v,h') => .done v h'
def CCode.kid (c:CCode) (i:Nat):CCode := match c with
 | .seq a b => bif Nat.beq i 0 then a else b
 | .both a b => bif Nat.beq i 0 then a else b
 | .cond _ a b => bif Nat.beq i 0 then a else b
 | .block _ a => a
 | .loop a => a
 | .rangeF _ _ a b => bif Nat.beq i 0 then a else b
 | _ => .skip
def CCode.at (c:CCode) (p:List Nat):CCode := List.rec (motive := fun _ => CCode → CCode) (fun c => c) (fun i _ ih c => ih (c.kid i)) p c
end
end Go.Proofs.Ytdnefcjbcieecaa
