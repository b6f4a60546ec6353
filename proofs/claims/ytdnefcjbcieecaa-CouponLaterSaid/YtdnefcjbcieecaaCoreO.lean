/- The stack of the code: what comes behind. -/
import Derived.Test.YtdnefcjbcieecaaCoreW
set_option linter.unusedVariables false
set_option linter.unusedSimpArgs false
namespace Go.Proofs.Ytdnefcjbcieecaa
open Go

inductive Fr where
  | seq (c : CCode)
  | blk (id : Nat)

section
variable (P : Program) (G : Cfg) (n : Nat)

/-- What the stack of code owes. -/
def stkQ : List Fr → (CExit → Env → Heap → Prop) → CExit → Env → Heap → Prop
  | [], Q, e, env, h => Q e env h
  | .seq c :: s, Q, e, env, h => match e with
    | .normal => wpc P G n c (stkQ s Q) env h
    | e => stkQ s Q e env h
  | .blk id :: s, Q, e, env, h => match e with
    | .normal => stkQ s Q .normal env h
    | .exit i => if i = id then stkQ s Q .normal env h else stkQ s Q (.exit i) env h
    | .ret => stkQ s Q .ret env h

def runC (c : CCode) (s : List Fr) (Q : CExit → Env → Heap → Prop) (env : Env) (h : Heap) : Prop := wpc P G n c (stkQ P G n s Q) env h
def retS (e : CExit) (s : List Fr) (Q : CExit → Env → Heap → Prop) (env : Env) (h : Heap) : Prop := stkQ P G n s Q e env h
/-- a loop -/
def lpS (c : CCode) (s : List Fr) (Q : CExit → Env → Heap → Prop) (env : Env) (h : Heap) : Prop := LoopP P G n c (stkQ P G n s Q) env h
variable {s : List Fr} {Q : CExit → Env → Heap → Prop} {env : Env} {h : Heap} {P G n}

theorem runC_seq (a b : CCode) : runC P G n (.seq a b) s Q env h = runC P G n a (.seq b :: s) Q env h := by
  have : stkQ P G n (.seq b :: s) Q = fun e env h => match e with
    | .normal => wpc P G n b (stkQ P G n s Q) env h
    | .exit id => stkQ P G n s Q (.exit id) env h
    | .ret => stkQ P G n s Q .ret env h := by
    funext e env h; cases e <;> rfl
  unfold runC
  rw [this]
  rfl
theorem runC_block (id : Nat) (c : CCode) : runC P G n (.block id c) s Q env h = runC P G n c (.blk id :: s) Q env h := by
  have : stkQ P G n (.blk id :: s) Q = fun e env h => match e with
    | .normal => stkQ P G n s Q .normal env h
    | .exit i => if i = id then stkQ P G n s Q .normal env h else stkQ P G n s Q (.exit i) env h
    | .ret => stkQ P G n s Q .ret env h := by
    funext e env h; cases e <;> rfl
  unfold runC
  rw [this]
  rfl
theorem runC_frz (x : Nat × Option Nat) : runC P G n (.frz x) s Q env h = match frzB h (frzV env h x) with
    | some (id, g, ds) => retS P G n .normal s Q (fzE id g ds env) (fzH id g ds h)
    | none => retS P G n .normal s Q env h := rfl
theorem runC_skip : runC P G n .skip s Q env h = retS P G n .normal s Q env h := rfl
theorem runC_both (a b : CCode) : runC P G n (.both a b) s Q env h = (runC P G n a s Q env h ∧ runC P G n b s Q env h) := rfl
/-- A loop, on the machine. -/
theorem lpS_rule {c : CCode} (I : Nat → Env → Heap → Prop) {m0 : Nat} (h0 : I m0 env h)
    (hstep : ∀ m env h, I m env h → ∀ Q', (∀ env' h' m', m' < m → I m' env' h' → Q' .normal env' h') → (∀ id env' h', retS P G n (.exit id) s Q env' h' → Q' (.exit id) env' h') → (∀ env' h', retS P G n .ret s Q env' h' → Q' .ret env' h') →
      runC P G n c [] Q' env h) : lpS P G n c s Q env h := by
  refine loop_rule I h0 (fun m env h hI => ?_)
  exact hstep m env h hI (fun e env' h' => match e with
      | .normal => ∃ m', m' < m ∧ I m' env' h'
      | .exit id => stkQ P G n s Q (.exit id) env' h'
      | .ret => stkQ P G n s Q .ret env' h') (fun env' h' m' hlt hI' => ⟨m', hlt, hI'⟩) (fun id env' h' hr => hr) (fun env' h' hr => hr)

end
end Go.Proofs.Ytdnefcjbcieecaa
