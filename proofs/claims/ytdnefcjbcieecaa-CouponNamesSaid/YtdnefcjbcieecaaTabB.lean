import Derived.Test.YtdnefcjbcieecaaTab
import Derived.KernelRfl
namespace Go.Proofs.Ytdnefcjbcieecaa
open Go Go.Proofs

def G53b : Cfg := ⟨[(nat_lit 2), (nat_lit 2), (nat_lit 8), (nat_lit 10), (nat_lit 12), (nat_lit 14)], [((nat_lit 0), [(nat_lit 0), (nat_lit 2)]), ((nat_lit 1), [(nat_lit 2)])], (nat_lit 16), []⟩
def r53b : List CRes := [.cell (nat_lit 2) (some (nat_lit 6))]
def c53b : CCode :=
(.seq (.region [
  ⟨(some (nat_lit 2)), none, .simple (.alloc [(.d (.int .i64 (.ofNat (nat_lit 0)))), (.d .nils), (.d .nils), (.d .nils), (.d .nils), (.d .nils)])⟩] (some [(nat_lit 0), (nat_lit 2)]))
(.seq (.region [
  ⟨(some (nat_lit 3)), none, .simple (.bslice false (nat_lit 3) (nat_lit 1) (nat_lit 2) [(.int .i64 (.ofNat (nat_lit 0))), (.int .i64 (.ofNat (nat_lit 0)))] [((nat_lit 0), (.const (.int .i64 (.ofNat (nat_lit 10))))), ((nat_lit 1), (.const (.int .i64 (.ofNat (nat_lit 0)))))])⟩,
  ⟨(some (nat_lit 4)), none, .simple (.move (.tmp (nat_lit 0)))⟩,
  ⟨(some (nat_lit 5)), none, .call (.func (nat_lit 55)) [(.const (.int .i64 (.ofNat (nat_lit 2)))), (.const (.int .i64 (.ofNat (nat_lit 3))))]⟩,
  ⟨(some (nat_lit 6)), none, .call (.func (nat_lit 55)) [(.const (.int .i64 (.ofNat (nat_lit 4)))), (.const (.int .i64 (.ofNat (nat_lit 5))))]⟩,
  ⟨(some (nat_lit 7)), none, .simple (.build [(.d (.int .i64 (.ofNat (nat_lit 0)))), (.d (.int .i64 (.ofNat (nat_lit 0)))), (.d (.int .i64 (.ofNat (nat_lit 0)))), (.d (.int .i64 (.ofNat (nat_lit 0)))), (.d (.int .i64 (.ofNat (nat_lit 0)))), (.d (.int .i64 (.ofNat (nat_lit 0)))), (.d (.int .i64 (.ofNat (nat_lit 0))))] [((nat_lit 1), (nat_lit 1), (.const (.int .i64 (.ofNat (nat_lit 1))))), ((nat_lit 2), (nat_lit 1), (.tmp (nat_lit 4))), ((nat_lit 3), (nat_lit 2), (.tmp (nat_lit 5))), ((nat_lit 5), (nat_lit 2), (.tmp (nat_lit 6)))])⟩,
  ⟨(some (nat_lit 8)), none, .simple (.bslice true (nat_lit 93) (nat_lit 7) (nat_lit 1) [(.int .i64 (.ofNat (nat_lit 0))), (.int .i64 (.ofNat (nat_lit 0))), (.int .i64 (.ofNat (nat_lit 0))), (.int .i64 (.ofNat (nat_lit 0))), (.int .i64 (.ofNat (nat_lit 0))), (.int .i64 (.ofNat (nat_lit 0))), (.int .i64 (.ofNat (nat_lit 0)))] [((nat_lit 0), (.tmp (nat_lit 7)))])⟩,
  ⟨(some (nat_lit 9)), none, .simple (.build [(.d (.int .i64 (.ofNat (nat_lit 0)))), (.d (.int .i64 (.ofNat (nat_lit 0)))), (.d (.int .i64 (.ofNat (nat_lit 0))))] [((nat_lit 0), (nat_lit 1), (.const (.int .i64 (.ofNat (nat_lit 3))))), ((nat_lit 1), (nat_lit 1), (.const (.int .i64 (.ofNat (nat_lit 4))))), ((nat_lit 2), (nat_lit 1), (.const (.int .i64 (.ofNat (nat_lit 5)))))])⟩,
  ⟨(some (nat_lit 10)), none, .simple (.bslice true (nat_lit 95) (nat_lit 3) (nat_lit 1) [(.int .i64 (.ofNat (nat_lit 0))), (.int .i64 (.ofNat (nat_lit 0))), (.int .i64 (.ofNat (nat_lit 0)))] [((nat_lit 0), (.tmp (nat_lit 9)))])⟩,
  ⟨(some (nat_lit 11)), none, .simple (.build [(.d (.int .i64 (.ofNat (nat_lit 0)))), (.d (.int .i64 (.ofNat (nat_lit 0)))), (.d (.int .i64 (.ofNat (nat_lit 0))))] [((nat_lit 0), (nat_lit 1), (.const (.int .i64 (.ofNat (nat_lit 4))))), ((nat_lit 1), (nat_lit 1), (.const (.int .i64 (.ofNat (nat_lit 3))))), ((nat_lit 2), (nat_lit 1), (.const (.int .i64 (.ofNat (nat_lit 2)))))])⟩,
  ⟨(some (nat_lit 12)), none, .simple (.bslice true (nat_lit 96) (nat_lit 3) (nat_lit 1) [(.int .i64 (.ofNat (nat_lit 0))), (.int .i64 (.ofNat (nat_lit 0))), (.int .i64 (.ofNat (nat_lit 0)))] [((nat_lit 0), (.tmp (nat_lit 11)))])⟩,
  ⟨(some (nat_lit 13)), none, .call (.func (nat_lit 55)) [(.const (.int .i64 (.ofNat (nat_lit 5)))), (.const (.int .i64 (.ofNat (nat_lit 6))))]⟩,
  ⟨(some (nat_lit 14)), none, .simple (.bslice true (nat_lit 71) (nat_lit 2) (nat_lit 1) [(.int .i64 (.ofNat (nat_lit 0))), (.int .i64 (.ofNat (nat_lit 0)))] [((nat_lit 0), (.tmp (nat_lit 13)))])⟩,
  ⟨(some (nat_lit 15)), none, .simple (.build [(.d (.int .i64 (.ofNat (nat_lit 0)))), (.d .nils), (.d .nils), (.d .nils), (.d .nils), (.d .nils)] [((nat_lit 0), (nat_lit 1), (.const (.int .i64 (.ofNat (nat_lit 2))))), ((nat_lit 1), (nat_lit 1), (.tmp (nat_lit 3))), ((nat_lit 2), (nat_lit 1), (.tmp (nat_lit 8))), ((nat_lit 3), (nat_lit 1), (.tmp (nat_lit 10))), ((nat_lit 4), (nat_lit 1), (.tmp (nat_lit 12))), ((nat_lit 5), (nat_lit 1), (.tmp (nat_lit 14)))])⟩,
  ⟨none, none, .simple (.store (nat_lit 6) (.tmp (nat_lit 2)) (.tmp (nat_lit 15)))⟩] (some [(nat_lit 2)]))
.ret))
theorem k53b : Try.f53.body.bind (compC Try.prog G53b) = some c53b := by kernel_rfl
theorem e53b : compRes Try.prog Try.f53.results.toList = some r53b := by kernel_rfl
def F53b : FunX := ⟨true, G53b, c53b, r53b⟩
theorem o53b : FunOk Try.prog 53 F53b := ⟨Try.f53, by kernel_rfl, k53b, e53b, by kernel_rfl, by kernel_rfl⟩
def tabB : TabX := fun n => bif Nat.beq n (nat_lit 53) then some F53b else tab n
theorem tabB_ok : TabOk Try.prog tabB := by
  intro f F' he
  unfold tabB at he
  cases hb : Nat.beq f (nat_lit 53) with
  | true => rw [hb] at he; cases he; rw [Nat.eq_of_beq_eq_true hb]; exact o53b
  | false => rw [hb] at he; exact tab_ok f F' he
end Go.Proofs.Ytdnefcjbcieecaa
