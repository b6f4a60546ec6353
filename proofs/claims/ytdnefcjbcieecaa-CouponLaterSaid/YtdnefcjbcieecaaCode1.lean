import Derived.Test.YtdnefcjbcieecaaCoreX
import Derived.Test.YtdnefcjbcieecaaProg
import Derived.KernelRfl
namespace Go.Proofs.Ytdnefcjbcieecaa
open Go Go.Proofs

/-! 27: contango/coupon.Rights; parameters 3, captured 0 -/
def G27 : Cfg := ⟨[], [((nat_lit 0), [(nat_lit 2), (nat_lit 3), (nat_lit 4)]), ((nat_lit 1), [(nat_lit 6), (nat_lit 7)])], (nat_lit 15), []⟩
def r27 : List CRes := [.tmp (nat_lit 6), .tmp (nat_lit 7)]
def c27 : CCode :=
(.seq (.region [
  ⟨(some (nat_lit 3)), none, .simple (.box false (.tmp (nat_lit 0)))⟩,
  ⟨(some (nat_lit 4)), none, .simple (.box false (.tmp (nat_lit 1)))⟩,
  ⟨(some (nat_lit 6)), none, .simple (.move (.const (.slice none (nat_lit 0) (nat_lit 0))))⟩,
  ⟨(some (nat_lit 7)), none, .simple (.move (.const (.int .i64 (.ofNat (nat_lit 0)))))⟩] (some [(nat_lit 2), (nat_lit 3), (nat_lit 4)]))
(.seq (.region [
  ⟨(some (nat_lit 8)), none, .simple (.build [(.d .nilf)] [((nat_lit 0), (nat_lit 1), (.func (nat_lit 67)))])⟩,
  ⟨(some (nat_lit 9)), none, .simple (.load (some (nat_lit 6)) (.tmp (nat_lit 3)))⟩,
  ⟨(some (nat_lit 10)), none, .simple (.load (some (nat_lit 2)) (.tmp (nat_lit 4)))⟩,
  ⟨(some (nat_lit 11)), none, .simple (.move (.tmp (nat_lit 2)))⟩,
  ⟨(some (nat_lit 12)), none, .call (.func (nat_lit 65)) [(.tmp (nat_lit 8)), (.tmp (nat_lit 9)), (.tmp (nat_lit 10)), (.tmp (nat_lit 11))]⟩,
  ⟨(some (nat_lit 13)), none, .simple (.extract (.tmp (nat_lit 12)) (nat_lit 0))⟩,
  ⟨(some (nat_lit 14)), none, .simple (.extract (.tmp (nat_lit 12)) (nat_lit 1))⟩,
  ⟨(some (nat_lit 6)), none, .simple (.move (.tmp (nat_lit 13)))⟩,
  ⟨(some (nat_lit 7)), none, .simple (.move (.tmp (nat_lit 14)))⟩] (some [(nat_lit 6), (nat_lit 7)]))
.ret))
theorem k27 : Try.f27.body.bind (compC Try.prog G27) = some c27 := by kernel_rfl
theorem e27 : compRes Try.prog Try.f27.results.toList = some r27 := by kernel_rfl
def F27 : FunX := ⟨false, G27, c27, r27⟩
theorem o27 : FunOk Try.prog 27 F27 := ⟨Try.f27, by kernel_rfl, k27, e27, by kernel_rfl, by kernel_rfl⟩

/-! 28: contango/contangoref07.Same; parameters 2, captured 0 -/
def G28 : Cfg := ⟨[], [((nat_lit 0), [(nat_lit 0), (nat_lit 1)]), ((nat_lit 1), [(nat_lit 4)])], (nat_lit 22), []⟩
def r28 : List CRes := [.tmp (nat_lit 4)]
def c28 : CCode :=
(.seq (.region [
  ⟨(some (nat_lit 4)), none, .simple (.move (.const (.bool false)))⟩] (some [(nat_lit 0), (nat_lit 1)]))
(.seq (.region [
  ⟨(some (nat_lit 5)), none, .simple (.move (.tmp (nat_lit 0)))⟩,
  ⟨(some (nat_lit 6)), none, .simple (.len (.tmp (nat_lit 5)))⟩,
  ⟨(some (nat_lit 7)), none, .simple (.move (.tmp (nat_lit 1)))⟩,
  ⟨(some (nat_lit 8)), none, .simple (.len (.tmp (nat_lit 7)))⟩,
  ⟨(some (nat_lit 9)), none, .simple (.bin .eql (.tmp (nat_lit 6)) (.tmp (nat_lit 8)))⟩,
  ⟨(some (nat_lit 10)), none, .simple (.move (.tmp (nat_lit 9)))⟩,
  ⟨(some (nat_lit 11)), (some ((nat_lit 10), true)), .simple (.move (.tmp (nat_lit 0)))⟩,
  ⟨(some (nat_lit 12)), (some ((nat_lit 10), true)), .simple (.move (.tmp (nat_lit 1)))⟩,
  ⟨(some (nat_lit 13)), (some ((nat_lit 10), true)), .call (.func (nat_lit 68)) [(.tmp (nat_lit 11)), (.tmp (nat_lit 12))]⟩,
  ⟨(some (nat_lit 14)), (some ((nat_lit 10), true)), .simple (.un .not (.tmp (nat_lit 13)))⟩,
  ⟨(some (nat_lit 15)), none, .simple (.pick (.tmp (nat_lit 10)) (.tmp (nat_lit 14)) (.const (.bool false)))⟩,
  ⟨(some (nat_lit 16)), none, .simple (.move (.tmp (nat_lit 15)))⟩,
  ⟨(some (nat_lit 17)), (some ((nat_lit 16), true)), .simple (.move (.tmp (nat_lit 1)))⟩,
  ⟨(some (nat_lit 18)), (some ((nat_lit 16), true)), .simple (.move (.tmp (nat_lit 0)))⟩,
  ⟨(some (nat_lit 19)), (some ((nat_lit 16), true)), .call (.func (nat_lit 68)) [(.tmp (nat_lit 17)), (.tmp (nat_lit 18))]⟩,
  ⟨(some (nat_lit 20)), (some ((nat_lit 16), true)), .simple (.un .not (.tmp (nat_lit 19)))⟩,
  ⟨(some (nat_lit 21)), none, .simple (.pick (.tmp (nat_lit 16)) (.tmp (nat_lit 20)) (.const (.bool false)))⟩,
  ⟨(some (nat_lit 4)), none, .simple (.move (.tmp (nat_lit 21)))⟩] (some [(nat_lit 4)]))
.ret))
theorem k28 : Try.f28.body.bind (compC Try.prog G28) = some c28 := by kernel_rfl
theorem e28 : compRes Try.prog Try.f28.results.toList = some r28 := by kernel_rfl
def F28 : FunX := ⟨false, G28, c28, r28⟩
theorem o28 : FunOk Try.prog 28 F28 := ⟨Try.f28, by kernel_rfl, k28, e28, by kernel_rfl, by kernel_rfl⟩

/-! 33: contango/coupon.Bounds; parameters 2, captured 0 -/
def G33 : Cfg := ⟨[(nat_lit 10)], [((nat_lit 0), [(nat_lit 1), (nat_lit 2)]), ((nat_lit 1), [(nat_lit 1), (nat_lit 2), (nat_lit 8)]), ((nat_lit 2), [(nat_lit 1), (nat_lit 2), (nat_lit 8), (nat_lit 15)]), ((nat_lit 3), [(nat_lit 4), (nat_lit 5), (nat_lit 6), (nat_lit 7)]), ((nat_lit 4), [(nat_lit 1), (nat_lit 2), (nat_lit 23)]), ((nat_lit 5), [(nat_lit 4), (nat_lit 5), (nat_lit 6), (nat_lit 7)]), ((nat_lit 6), [(nat_lit 9), (nat_lit 10)]), ((nat_lit 7), [(nat_lit 4), (nat_lit 9), (nat_lit 10), (nat_lit 11)]), ((nat_lit 8), [(nat_lit 4), (nat_lit 9), (nat_lit 10), (nat_lit 39)]), ((nat_lit 9), [(nat_lit 4), (nat_lit 5), (nat_lit 6), (nat_lit 7)]), ((nat_lit 10), [(nat_lit 4), (nat_lit 5), (nat_lit 9), (nat_lit 10)]), ((nat_lit 11), [(nat_lit 4), (nat_lit 5), (nat_lit 6)]), ((nat_lit 12), [(nat_lit 4), (nat_lit 5), (nat_lit 6), (nat_lit 7)])], (nat_lit 57), []⟩
def r33 : List CRes := [.tmp (nat_lit 4), .tmp (nat_lit 5), .tmp (nat_lit 6), .tmp (nat_lit 7)]
def c33 : CCode :=
(.seq (.region [
  ⟨(some (nat_lit 2)), none, .simple (.box false (.tmp (nat_lit 0)))⟩,
  ⟨(some (nat_lit 4)), none, .simple (.move (.const (.slice none (nat_lit 0) (nat_lit 0))))⟩,
  ⟨(some (nat_lit 5)), none, .simple (.move (.const (.slice none (nat_lit 0) (nat_lit 0))))⟩,
  ⟨(some (nat_lit 6)), none, .simple (.move (.const (.slice none (nat_lit 0) (nat_lit 0))))⟩,
  ⟨(some (nat_lit 7)), none, .simple (.move (.const (.int .i64 (.ofNat (nat_lit 0)))))⟩] (some [(nat_lit 1), (nat_lit 2)]))
(.seq (.seq (.region [
  ⟨(some (nat_lit 12)), none, .simple (.load (some (nat_lit 6)) (.tmp (nat_lit 2)))⟩,
  ⟨(some (nat_lit 13)), none, .call (.func (nat_lit 52)) [(.tmp (nat_lit 12))]⟩,
  ⟨(some (nat_lit 8)), none, .simple (.move (.tmp (nat_lit 13)))⟩] (some [(nat_lit 1), (nat_lit 2), (nat_lit 8)]))
(.seq (.region [
  ⟨(some (nat_lit 14)), none, .simple (.move (.tmp (nat_lit 8)))⟩,
  ⟨(some (nat_lit 15)), none, .simple (.bin .neq (.tmp (nat_lit 14)) (.const (.int .i64 (.ofNat (nat_lit 0)))))⟩] (some [(nat_lit 1), (nat_lit 2), (nat_lit 8), (nat_lit 15)]))
(.cond (.tmp (nat_lit 15))
 (.seq (.region [
   ⟨(some (nat_lit 16)), none, .simple (.move (.tmp (nat_lit 8)))⟩,
   ⟨(some (nat_lit 4)), none, .simple (.move (.const (.slice none (nat_lit 0) (nat_lit 0))))⟩,
   ⟨(some (nat_lit 5)), none, .simple (.move (.const (.slice none (nat_lit 0) (nat_lit 0))))⟩,
   ⟨(some (nat_lit 6)), none, .simple (.move (.const (.slice none (nat_lit 0) (nat_lit 0))))⟩,
   ⟨(some (nat_lit 7)), none, .simple (.move (.tmp (nat_lit 16)))⟩] (some [(nat_lit 4), (nat_lit 5), (nat_lit 6), (nat_lit 7)]))
 .ret)
 .skip)))
(.seq (.seq (.region [
  ⟨(some (nat_lit 17)), none, .simple (.move (.tmp (nat_lit 1)))⟩,
  ⟨(some (nat_lit 18)), none, .simple (.fieldAddr (nat_lit 3) (.tmp (nat_lit 2)))⟩,
  ⟨(some (nat_lit 19)), none, .simple (.load none (.tmp (nat_lit 18)))⟩,
  ⟨(some (nat_lit 20)), none, .simple (.len (.tmp (nat_lit 19)))⟩,
  ⟨(some (nat_lit 21)), none, .simple (.bin .sub (.tmp (nat_lit 20)) (.const (.int .i64 (.ofNat (nat_lit 1)))))⟩,
  ⟨(some (nat_lit 22)), none, .call (.func (nat_lit 71)) [(.tmp (nat_lit 17)), (.const (.int .i64 (.ofNat (nat_lit 0)))), (.tmp (nat_lit 21))]⟩,
  ⟨(some (nat_lit 23)), none, .simple (.un .not (.tmp (nat_lit 22)))⟩] (some [(nat_lit 1), (nat_lit 2), (nat_lit 23)]))
(.cond (.tmp (nat_lit 23))
 (.seq (.region [
   ⟨(some (nat_lit 4)), none, .simple (.move (.const (.slice none (nat_lit 0) (nat_lit 0))))⟩,
   ⟨(some (nat_lit 5)), none, .simple (.move (.const (.slice none (nat_lit 0) (nat_lit 0))))⟩,
   ⟨(some (nat_lit 6)), none, .simple (.move (.const (.slice none (nat_lit 0) (nat_lit 0))))⟩,
   ⟨(some (nat_lit 7)), none, .simple (.move (.const (.int .i64 (.ofNat (nat_lit 2)))))⟩] (some [(nat_lit 4), (nat_lit 5), (nat_lit 6), (nat_lit 7)]))
 .ret)
 .skip))
(.seq (.seq (.region [
  ⟨(some (nat_lit 24)), none, .simple (.load (some (nat_lit 6)) (.tmp (nat_lit 2)))⟩,
  ⟨(some (nat_lit 26)), none, .simple (.fieldAddr (nat_lit 3) (.tmp (nat_lit 2)))⟩,
  ⟨(some (nat_lit 27)), none, .simple (.load none (.tmp (nat_lit 26)))⟩,
  ⟨(some (nat_lit 28)), none, .simple (.move (.tmp (nat_lit 1)))⟩,
  ⟨(some (nat_lit 29)), none, .simple (.indexS (nat_lit 3) (.tmp (nat_lit 27)) (.tmp (nat_lit 28)))⟩,
  ⟨(some (nat_lit 30)), none, .simple (.load (some (nat_lit 3)) (.tmp (nat_lit 29)))⟩] none)
(.both (.region [
   ⟨(some (nat_lit 25)), none, .callx (.func (nat_lit 72)) [(.tmp (nat_lit 24))]⟩,
   ⟨(some (nat_lit 10)), none, .simple (.alloc [(.d (.int .i64 (.ofNat (nat_lit 0)))), (.d (.int .i64 (.ofNat (nat_lit 0)))), (.d (.int .i64 (.ofNat (nat_lit 0))))])⟩,
   ⟨(some (nat_lit 9)), none, .simple (.move (.tmp (nat_lit 25)))⟩,
   ⟨none, none, .simple (.store (nat_lit 3) (.tmp (nat_lit 10)) (.tmp (nat_lit 30)))⟩] (some [(nat_lit 9), (nat_lit 10)]))
 (.region [
   ⟨(some (nat_lit 10)), none, .simple (.alloc [(.d (.int .i64 (.ofNat (nat_lit 0)))), (.d (.int .i64 (.ofNat (nat_lit 0)))), (.d (.int .i64 (.ofNat (nat_lit 0))))])⟩,
   ⟨(some (nat_lit 25)), none, .callx (.func (nat_lit 72)) [(.tmp (nat_lit 24))]⟩,
   ⟨(some (nat_lit 9)), none, .simple (.move (.tmp (nat_lit 25)))⟩,
   ⟨none, none, .simple (.store (nat_lit 3) (.tmp (nat_lit 10)) (.tmp (nat_lit 30)))⟩] (some [(nat_lit 9), (nat_lit 10)]))))
(.seq (.region [
  ⟨(some (nat_lit 32)), none, .simple (.move (.tmp (nat_lit 9)))⟩,
  ⟨(some (nat_lit 33)), none, .simple (.build [(.d .nilf)] [((nat_lit 0), (nat_lit 1), (.func (nat_lit 64)))])⟩,
  ⟨(some (nat_lit 34)), none, .simple (.load (some (nat_lit 3)) (.tmp (nat_lit 10)))⟩,
  ⟨(some (nat_lit 35)), none, .call (.func (nat_lit 73)) [(.tmp (nat_lit 32)), (.tmp (nat_lit 33)), (.tmp (nat_lit 34))]⟩,
  ⟨(some (nat_lit 31)), none, .simple (.move (.tmp (nat_lit 35)))⟩,
  ⟨(some (nat_lit 36)), none, .simple (.extract (.tmp (nat_lit 31)) (nat_lit 0))⟩,
  ⟨(some (nat_lit 37)), none, .simple (.extract (.tmp (nat_lit 31)) (nat_lit 1))⟩,
  ⟨(some (nat_lit 4)), none, .simple (.move (.tmp (nat_lit 36)))⟩,
  ⟨(some (nat_lit 11)), none, .simple (.move (.tmp (nat_lit 37)))⟩] (some [(nat_lit 4), (nat_lit 9), (nat_lit 10), (nat_lit 11)]))
(.seq (.seq (.region [
  ⟨(some (nat_lit 38)), none, .simple (.move (.tmp (nat_lit 11)))⟩,
  ⟨(some (nat_lit 39)), none, .simple (.un .not (.tmp (nat_lit 38)))⟩] (some [(nat_lit 4), (nat_lit 9), (nat_lit 10), (nat_lit 39)]))
(.cond (.tmp (nat_lit 39))
 (.seq (.region [
   ⟨(some (nat_lit 4)), none, .simple (.move (.const (.slice none (nat_lit 0) (nat_lit 0))))⟩,
   ⟨(some (nat_lit 5)), none, .simple (.move (.const (.slice none (nat_lit 0) (nat_lit 0))))⟩,
   ⟨(some (nat_lit 6)), none, .simple (.move (.const (.slice none (nat_lit 0) (nat_lit 0))))⟩,
   ⟨(some (nat_lit 7)), none, .simple (.move (.const (.int .i64 (.ofNat (nat_lit 9)))))⟩] (some [(nat_lit 4), (nat_lit 5), (nat_lit 6), (nat_lit 7)]))
 .ret)
 .skip))
(.seq (.region [
  ⟨(some (nat_lit 41)), none, .simple (.move (.tmp (nat_lit 9)))⟩,
  ⟨(some (nat_lit 42)), none, .simple (.build [(.d .nilf)] [((nat_lit 0), (nat_lit 1), (.func (nat_lit 66)))])⟩,
  ⟨(some (nat_lit 43)), none, .simple (.load (some (nat_lit 3)) (.tmp (nat_lit 10)))⟩,
  ⟨(some (nat_lit 44)), none, .call (.func (nat_lit 73)) [(.tmp (nat_lit 41)), (.tmp (nat_lit 42)), (.tmp (nat_lit 43))]⟩,
  ⟨(some (nat_lit 40)), none, .simple (.move (.tmp (nat_lit 44)))⟩,
  ⟨(some (nat_lit 45)), none, .simple (.extract (.tmp (nat_lit 40)) (nat_lit 0))⟩,
  ⟨(some (nat_lit 46)), none, .simple (.extract (.tmp (nat_lit 40)) (nat_lit 1))⟩,
  ⟨(some (nat_lit 5)), none, .simple (.move (.tmp (nat_lit 45)))⟩] (some [(nat_lit 4), (nat_lit 5), (nat_lit 9), (nat_lit 10)]))
(.seq (.region [
  ⟨(some (nat_lit 48)), none, .simple (.move (.tmp (nat_lit 9)))⟩,
  ⟨(some (nat_lit 49)), none, .simple (.build [(.d .nilf)] [((nat_lit 0), (nat_lit 1), (.func (nat_lit 67)))])⟩,
  ⟨(some (nat_lit 50)), none, .simple (.load (some (nat_lit 3)) (.tmp (nat_lit 10)))⟩,
  ⟨(some (nat_lit 51)), none, .call (.func (nat_lit 73)) [(.tmp (nat_lit 48)), (.tmp (nat_lit 49)), (.tmp (nat_lit 50))]⟩,
  ⟨(some (nat_lit 47)), none, .simple (.move (.tmp (nat_lit 51)))⟩,
  ⟨(some (nat_lit 52)), none, .simple (.extract (.tmp (nat_lit 47)) (nat_lit 0))⟩,
  ⟨(some (nat_lit 53)), none, .simple (.extract (.tmp (nat_lit 47)) (nat_lit 1))⟩,
  ⟨(some (nat_lit 6)), none, .simple (.move (.tmp (nat_lit 52)))⟩] (some [(nat_lit 4), (nat_lit 5), (nat_lit 6)]))
(.seq (.region [
  ⟨(some (nat_lit 54)), none, .simple (.move (.tmp (nat_lit 4)))⟩,
  ⟨(some (nat_lit 55)), none, .simple (.move (.tmp (nat_lit 5)))⟩,
  ⟨(some (nat_lit 56)), none, .simple (.move (.tmp (nat_lit 6)))⟩,
  ⟨(some (nat_lit 4)), none, .simple (.move (.tmp (nat_lit 54)))⟩,
  ⟨(some (nat_lit 5)), none, .simple (.move (.tmp (nat_lit 55)))⟩,
  ⟨(some (nat_lit 6)), none, .simple (.move (.tmp (nat_lit 56)))⟩,
  ⟨(some (nat_lit 7)), none, .simple (.move (.const (.int .i64 (.ofNat (nat_lit 0)))))⟩] (some [(nat_lit 4), (nat_lit 5), (nat_lit 6), (nat_lit 7)]))
.ret)))))))))
theorem k33 : Try.f33.body.bind (compC Try.prog G33) = some c33 := by kernel_rfl
theorem e33 : compRes Try.prog Try.f33.results.toList = some r33 := by kernel_rfl
def F33 : FunX := ⟨false, G33, c33, r33⟩
theorem o33 : FunOk Try.prog 33 F33 := ⟨Try.f33, by kernel_rfl, k33, e33, by kernel_rfl, by kernel_rfl⟩

/-! 38: contango/coupon.Leave; parameters 1, captured 0 -/
def G38 : Cfg := ⟨[(nat_lit 1), (nat_lit 5), (nat_lit 6)], [((nat_lit 0), [(nat_lit 1)]), ((nat_lit 1), [(nat_lit 1), (nat_lit 4)]), ((nat_lit 2), [(nat_lit 1), (nat_lit 4), (nat_lit 11)]), ((nat_lit 3), [(nat_lit 2), (nat_lit 3)]), ((nat_lit 4), [(nat_lit 1), (nat_lit 5)]), ((nat_lit 5), [(nat_lit 1), (nat_lit 5), (nat_lit 6)]), ((nat_lit 6), [(nat_lit 1), (nat_lit 5), (nat_lit 6)]), ((nat_lit 7), [(nat_lit 5), (nat_lit 6), (nat_lit 17), (nat_lit 18)]), ((nat_lit 8), [(nat_lit 5), (nat_lit 6), (nat_lit 17), (nat_lit 18), (nat_lit 19)]), ((nat_lit 9), [(nat_lit 5), (nat_lit 6), (nat_lit 7), (nat_lit 17), (nat_lit 18)]), ((nat_lit 10), [(nat_lit 5), (nat_lit 6), (nat_lit 17), (nat_lit 18), (nat_lit 23)]), ((nat_lit 11), [(nat_lit 5), (nat_lit 6), (nat_lit 17), (nat_lit 18)]), ((nat_lit 12), [(nat_lit 2), (nat_lit 3)])], (nat_lit 26), []⟩
def r38 : List CRes := [.tmp (nat_lit 2), .tmp (nat_lit 3)]
def c38 : CCode :=
(.seq (.region [
  ⟨(some (nat_lit 1)), none, .simple (.box true (.tmp (nat_lit 0)))⟩,
  ⟨(some (nat_lit 2)), none, .simple (.move (.const (.slice none (nat_lit 0) (nat_lit 0))))⟩,
  ⟨(some (nat_lit 3)), none, .simple (.move (.const (.int .i64 (.ofNat (nat_lit 0)))))⟩] (some [(nat_lit 1)]))
(.seq (.seq (.region [
  ⟨(some (nat_lit 8)), none, .simple (.load (some (nat_lit 6)) (.tmp (nat_lit 1)))⟩,
  ⟨(some (nat_lit 9)), none, .call (.func (nat_lit 52)) [(.tmp (nat_lit 8))]⟩,
  ⟨(some (nat_lit 4)), none, .simple (.move (.tmp (nat_lit 9)))⟩] (some [(nat_lit 1), (nat_lit 4)]))
(.seq (.region [
  ⟨(some (nat_lit 10)), none, .simple (.move (.tmp (nat_lit 4)))⟩,
  ⟨(some (nat_lit 11)), none, .simple (.bin .neq (.tmp (nat_lit 10)) (.const (.int .i64 (.ofNat (nat_lit 0)))))⟩] (some [(nat_lit 1), (nat_lit 4), (nat_lit 11)]))
(.cond (.tmp (nat_lit 11))
 (.seq (.region [
   ⟨(some (nat_lit 12)), none, .simple (.move (.tmp (nat_lit 4)))⟩,
   ⟨(some (nat_lit 2)), none, .simple (.move (.const (.slice none (nat_lit 0) (nat_lit 0))))⟩,
   ⟨(some (nat_lit 3)), none, .simple (.move (.tmp (nat_lit 12)))⟩] (some [(nat_lit 2), (nat_lit 3)]))
 .ret)
 .skip)))
(.seq (.region [
  ⟨(some (nat_lit 5)), none, .simple (.alloc [(.d .nils)])⟩] (some [(nat_lit 1), (nat_lit 5)]))
(.seq (.region [
  ⟨(some (nat_lit 6)), none, .simple (.alloc [(.d .nilf)])⟩] (some [(nat_lit 1), (nat_lit 5), (nat_lit 6)]))
(.seq (.region [
  ⟨(some (nat_lit 13)), none, .simple (.mkfn (.func (nat_lit 75)) [] [(.tmp (nat_lit 1)), (.tmp (nat_lit 5)), (.tmp (nat_lit 6))])⟩,
  ⟨none, none, .simple (.store (nat_lit 1) (.tmp (nat_lit 6)) (.tmp (nat_lit 13)))⟩] (some [(nat_lit 1), (nat_lit 5), (nat_lit 6)]))
(.seq .skip
(.seq (.seq (.region [
  ⟨(some (nat_lit 14)), none, .simple (.fieldAddr (nat_lit 2) (.tmp (nat_lit 1)))⟩,
  ⟨(some (nat_lit 15)), none, .simple (.load none (.tmp (nat_lit 14)))⟩,
  ⟨(some (nat_lit 16)), none, .simple (.len (.tmp (nat_lit 15)))⟩,
  ⟨(some (nat_lit 17)), none, .simple (.bin .add (.tmp (nat_lit 16)) (.const (.int .i64 (.ofNat (nat_lit 1)))))⟩,
  ⟨(some (nat_lit 18)), none, .simple (.move (.const (.int .i64 (.ofNat (nat_lit 0)))))⟩] (some [(nat_lit 5), (nat_lit 6), (nat_lit 17), (nat_lit 18)]))
(.block (nat_lit 0) (.loop (.seq (.region [
    ⟨(some (nat_lit 19)), none, .simple (.bin .lss (.tmp (nat_lit 18)) (.tmp (nat_lit 17)))⟩] (some [(nat_lit 5), (nat_lit 6), (nat_lit 17), (nat_lit 18), (nat_lit 19)]))
  (.seq (.cond (.tmp (nat_lit 19))
   .skip
   (.exit (nat_lit 0)))
  (.seq (.block (nat_lit 1) (.seq (.region [
     ⟨(some (nat_lit 20)), none, .simple (.move (.tmp (nat_lit 18)))⟩,
     ⟨(some (nat_lit 7)), none, .simple (.move (.tmp (nat_lit 20)))⟩] (some [(nat_lit 5), (nat_lit 6), (nat_lit 7), (nat_lit 17), (nat_lit 18)]))
   (.seq (.region [
     ⟨(some (nat_lit 21)), none, .simple (.load none (.tmp (nat_lit 6)))⟩,
     ⟨(some (nat_lit 22)), none, .simple (.move (.tmp (nat_lit 7)))⟩,
     ⟨(some (nat_lit 23)), none, .call (.tmp (nat_lit 21)) [(.const (.slice none (nat_lit 0) (nat_lit 0))), (.const (.int .i64 (.ofNat (nat_lit 0)))), (.tmp (nat_lit 22))]⟩] (some [(nat_lit 5), (nat_lit 6), (nat_lit 17), (nat_lit 18), (nat_lit 23)]))
   (.cond (.tmp (nat_lit 23))
    (.exit (nat_lit 0))
    .skip))))
  (.region [
    ⟨(some (nat_lit 24)), none, .simple (.bin .add (.tmp (nat_lit 18)) (.const (.int .i64 (.ofNat (nat_lit 1)))))⟩,
    ⟨(some (nat_lit 18)), none, .simple (.move (.tmp (nat_lit 24)))⟩] (some [(nat_lit 5), (nat_lit 6), (nat_lit 17), (nat_lit 18)]))))))))
(.seq (.region [
  ⟨(some (nat_lit 25)), none, .simple (.load none (.tmp (nat_lit 5)))⟩,
  ⟨(some (nat_lit 2)), none, .simple (.move (.tmp (nat_lit 25)))⟩,
  ⟨(some (nat_lit 3)), none, .simple (.move (.const (.int .i64 (.ofNat (nat_lit 0)))))⟩] (some [(nat_lit 2), (nat_lit 3)]))
.ret))))))))
theorem k38 : Try.f38.body.bind (compC Try.prog G38) = some c38 := by kernel_rfl
theorem e38 : compRes Try.prog Try.f38.results.toList = some r38 := by kernel_rfl
def F38 : FunX := ⟨false, G38, c38, r38⟩
theorem o38 : FunOk Try.prog 38 F38 := ⟨Try.f38, by kernel_rfl, k38, e38, by kernel_rfl, by kernel_rfl⟩

/-! 50: contango/coupon.Registered; parameters 2, captured 0 -/
def G50 : Cfg := ⟨[], [((nat_lit 0), [(nat_lit 1), (nat_lit 2)]), ((nat_lit 1), [(nat_lit 1), (nat_lit 2), (nat_lit 6)]), ((nat_lit 2), [(nat_lit 1), (nat_lit 2), (nat_lit 6), (nat_lit 10)]), ((nat_lit 3), [(nat_lit 4), (nat_lit 5)]), ((nat_lit 4), [(nat_lit 1), (nat_lit 2), (nat_lit 14)]), ((nat_lit 5), [(nat_lit 4), (nat_lit 5)]), ((nat_lit 6), [(nat_lit 4), (nat_lit 5)])], (nat_lit 18), []⟩
def r50 : List CRes := [.tmp (nat_lit 4), .tmp (nat_lit 5)]
def c50 : CCode :=
(.seq (.region [
  ⟨(some (nat_lit 2)), none, .simple (.box false (.tmp (nat_lit 0)))⟩,
  ⟨(some (nat_lit 4)), none, .simple (.move (.const (.int .i64 (.ofNat (nat_lit 0)))))⟩,
  ⟨(some (nat_lit 5)), none, .simple (.move (.const (.int .i64 (.ofNat (nat_lit 0)))))⟩] (some [(nat_lit 1), (nat_lit 2)]))
(.seq (.seq (.region [
  ⟨(some (nat_lit 7)), none, .simple (.load (some (nat_lit 6)) (.tmp (nat_lit 2)))⟩,
  ⟨(some (nat_lit 8)), none, .call (.func (nat_lit 52)) [(.tmp (nat_lit 7))]⟩,
  ⟨(some (nat_lit 6)), none, .simple (.move (.tmp (nat_lit 8)))⟩] (some [(nat_lit 1), (nat_lit 2), (nat_lit 6)]))
(.seq (.region [
  ⟨(some (nat_lit 9)), none, .simple (.move (.tmp (nat_lit 6)))⟩,
  ⟨(some (nat_lit 10)), none, .simple (.bin .neq (.tmp (nat_lit 9)) (.const (.int .i64 (.ofNat (nat_lit 0)))))⟩] (some [(nat_lit 1), (nat_lit 2), (nat_lit 6), (nat_lit 10)]))
(.cond (.tmp (nat_lit 10))
 (.seq (.region [
   ⟨(some (nat_lit 11)), none, .simple (.move (.tmp (nat_lit 6)))⟩,
   ⟨(some (nat_lit 4)), none, .simple (.move (.const (.int .i64 (.ofNat (nat_lit 0)))))⟩,
   ⟨(some (nat_lit 5)), none, .simple (.move (.tmp (nat_lit 11)))⟩] (some [(nat_lit 4), (nat_lit 5)]))
 .ret)
 .skip)))
(.seq (.seq (.region [
  ⟨(some (nat_lit 12)), none, .simple (.move (.tmp (nat_lit 1)))⟩,
  ⟨(some (nat_lit 13)), none, .call (.func (nat_lit 59)) [(.tmp (nat_lit 12))]⟩,
  ⟨(some (nat_lit 14)), none, .simple (.un .not (.tmp (nat_lit 13)))⟩] (some [(nat_lit 1), (nat_lit 2), (nat_lit 14)]))
(.cond (.tmp (nat_lit 14))
 (.seq (.region [
   ⟨(some (nat_lit 4)), none, .simple (.move (.const (.int .i64 (.ofNat (nat_lit 0)))))⟩,
   ⟨(some (nat_lit 5)), none, .simple (.move (.const (.int .i64 (.ofNat (nat_lit 2)))))⟩] (some [(nat_lit 4), (nat_lit 5)]))
 .ret)
 .skip))
(.seq (.region [
  ⟨(some (nat_lit 15)), none, .simple (.load (some (nat_lit 6)) (.tmp (nat_lit 2)))⟩,
  ⟨(some (nat_lit 16)), none, .simple (.move (.tmp (nat_lit 1)))⟩,
  ⟨(some (nat_lit 17)), none, .call (.func (nat_lit 82)) [(.tmp (nat_lit 15)), (.tmp (nat_lit 16))]⟩,
  ⟨(some (nat_lit 4)), none, .simple (.move (.tmp (nat_lit 17)))⟩,
  ⟨(some (nat_lit 5)), none, .simple (.move (.const (.int .i64 (.ofNat (nat_lit 0)))))⟩] (some [(nat_lit 4), (nat_lit 5)]))
.ret))))
theorem k50 : Try.f50.body.bind (compC Try.prog G50) = some c50 := by kernel_rfl
theorem e50 : compRes Try.prog Try.f50.results.toList = some r50 := by kernel_rfl
def F50 : FunX := ⟨false, G50, c50, r50⟩
theorem o50 : FunOk Try.prog 50 F50 := ⟨Try.f50, by kernel_rfl, k50, e50, by kernel_rfl, by kernel_rfl⟩

/-! 51: contango/coupon.ProveTruth; parameters 2, captured 0 -/
def G51 : Cfg := ⟨[], [((nat_lit 0), [(nat_lit 2), (nat_lit 3)]), ((nat_lit 1), [(nat_lit 6)]), ((nat_lit 2), [(nat_lit 4)])], (nat_lit 15), []⟩
def r51 : List CRes := [.tmp (nat_lit 4)]
def c51 : CCode :=
(.seq (.region [
  ⟨(some (nat_lit 2)), none, .simple (.box false (.tmp (nat_lit 0)))⟩,
  ⟨(some (nat_lit 3)), none, .simple (.box false (.tmp (nat_lit 1)))⟩,
  ⟨(some (nat_lit 4)), none, .simple (.move (.const (.bool false)))⟩] (some [(nat_lit 2), (nat_lit 3)]))
(.seq (.region [
  ⟨(some (nat_lit 8)), none, .simple (.load (some (nat_lit 6)) (.tmp (nat_lit 2)))⟩,
  ⟨(some (nat_lit 9)), none, .simple (.load (some (nat_lit 2)) (.tmp (nat_lit 3)))⟩,
  ⟨(some (nat_lit 10)), none, .call (.func (nat_lit 58)) [(.tmp (nat_lit 8)), (.tmp (nat_lit 9))]⟩,
  ⟨(some (nat_lit 7)), none, .simple (.move (.tmp (nat_lit 10)))⟩,
  ⟨(some (nat_lit 11)), none, .simple (.extract (.tmp (nat_lit 7)) (nat_lit 0))⟩,
  ⟨(some (nat_lit 12)), none, .simple (.extract (.tmp (nat_lit 7)) (nat_lit 1))⟩,
  ⟨(some (nat_lit 5)), none, .simple (.move (.tmp (nat_lit 11)))⟩,
  ⟨(some (nat_lit 6)), none, .simple (.move (.tmp (nat_lit 12)))⟩] (some [(nat_lit 6)]))
(.seq (.region [
  ⟨(some (nat_lit 13)), none, .simple (.move (.tmp (nat_lit 6)))⟩,
  ⟨(some (nat_lit 14)), none, .simple (.bin .eql (.tmp (nat_lit 13)) (.const (.int .i64 (.ofNat (nat_lit 0)))))⟩,
  ⟨(some (nat_lit 4)), none, .simple (.move (.tmp (nat_lit 14)))⟩] (some [(nat_lit 4)]))
.ret)))
theorem k51 : Try.f51.body.bind (compC Try.prog G51) = some c51 := by kernel_rfl
theorem e51 : compRes Try.prog Try.f51.results.toList = some r51 := by kernel_rfl
def F51 : FunX := ⟨false, G51, c51, r51⟩
theorem o51 : FunOk Try.prog 51 F51 := ⟨Try.f51, by kernel_rfl, k51, e51, by kernel_rfl, by kernel_rfl⟩

/-! 52: contango/coupon.CheckCompany; parameters 1, captured 0 -/
def G52 : Cfg := ⟨[], [((nat_lit 0), [(nat_lit 1)]), ((nat_lit 1), [(nat_lit 1), (nat_lit 3)]), ((nat_lit 2), [(nat_lit 1), (nat_lit 3), (nat_lit 6)]), ((nat_lit 4), [(nat_lit 34)]), ((nat_lit 5), [(nat_lit 2)]), ((nat_lit 3), [(nat_lit 2)]), ((nat_lit 6), [(nat_lit 2)])], (nat_lit 78), []⟩
def r52 : List CRes := [.tmp (nat_lit 2)]
def c52 : CCode :=
(.seq (.region [
  ⟨(some (nat_lit 1)), none, .simple (.box false (.tmp (nat_lit 0)))⟩,
  ⟨(some (nat_lit 2)), none, .simple (.move (.const (.int .i64 (.ofNat (nat_lit 0)))))⟩] (some [(nat_lit 1)]))
(.seq (.region [
  ⟨(some (nat_lit 4)), none, .simple (.load (some (nat_lit 6)) (.tmp (nat_lit 1)))⟩,
  ⟨(some (nat_lit 5)), none, .simple (.mkfn (.func (nat_lit 83)) [(.tmp (nat_lit 4))] [])⟩,
  ⟨(some (nat_lit 3)), none, .simple (.move (.tmp (nat_lit 5)))⟩] (some [(nat_lit 1), (nat_lit 3)]))
(.seq (.block (nat_lit 0) (.seq (.region [
   ⟨(some (nat_lit 7)), none, .simple (.fieldAddr (nat_lit 0) (.tmp (nat_lit 1)))⟩,
   ⟨(some (nat_lit 8)), none, .simple (.load none (.tmp (nat_lit 7)))⟩,
   ⟨(some (nat_lit 9)), none, .simple (.bin .gtr (.tmp (nat_lit 8)) (.const (.int .i64 (.ofNat (nat_lit 4)))))⟩,
   ⟨(some (nat_lit 10)), none, .simple (.move (.tmp (nat_lit 9)))⟩,
   ⟨(some (nat_lit 11)), (some ((nat_lit 10), false)), .simple (.fieldAddr (nat_lit 2) (.tmp (nat_lit 1)))⟩,
   ⟨(some (nat_lit 12)), (some ((nat_lit 10), false)), .simple (.load none (.tmp (nat_lit 11)))⟩,
   ⟨(some (nat_lit 13)), (some ((nat_lit 10), false)), .simple (.len (.tmp (nat_lit 12)))⟩,
   ⟨(some (nat_lit 14)), (some ((nat_lit 10), false)), .simple (.bin .gtr (.tmp (nat_lit 13)) (.const (.int .i64 (.ofNat (nat_lit 4)))))⟩,
   ⟨(some (nat_lit 15)), none, .simple (.pick (.tmp (nat_lit 10)) (.const (.bool true)) (.tmp (nat_lit 14)))⟩,
   ⟨(some (nat_lit 16)), none, .simple (.move (.tmp (nat_lit 15)))⟩,
   ⟨(some (nat_lit 17)), (some ((nat_lit 16), false)), .simple (.fieldAddr (nat_lit 3) (.tmp (nat_lit 1)))⟩,
   ⟨(some (nat_lit 18)), (some ((nat_lit 16), false)), .simple (.load none (.tmp (nat_lit 17)))⟩,
   ⟨(some (nat_lit 19)), (some ((nat_lit 16), false)), .simple (.len (.tmp (nat_lit 18)))⟩,
   ⟨(some (nat_lit 20)), (some ((nat_lit 16), false)), .simple (.bin .gtr (.tmp (nat_lit 19)) (.const (.int .i64 (.ofNat (nat_lit 3)))))⟩,
   ⟨(some (nat_lit 21)), none, .simple (.pick (.tmp (nat_lit 16)) (.const (.bool true)) (.tmp (nat_lit 20)))⟩,
   ⟨(some (nat_lit 22)), none, .simple (.move (.tmp (nat_lit 21)))⟩,
   ⟨(some (nat_lit 23)), (some ((nat_lit 22), false)), .simple (.fieldAddr (nat_lit 4) (.tmp (nat_lit 1)))⟩,
   ⟨(some (nat_lit 24)), (some ((nat_lit 22), false)), .simple (.load none (.tmp (nat_lit 23)))⟩,
   ⟨(some (nat_lit 25)), (some ((nat_lit 22), false)), .simple (.len (.tmp (nat_lit 24)))⟩,
   ⟨(some (nat_lit 26)), (some ((nat_lit 22), false)), .simple (.bin .gtr (.tmp (nat_lit 25)) (.const (.int .i64 (.ofNat (nat_lit 2)))))⟩,
   ⟨(some (nat_lit 27)), none, .simple (.pick (.tmp (nat_lit 22)) (.const (.bool true)) (.tmp (nat_lit 26)))⟩,
   ⟨(some (nat_lit 28)), none, .simple (.move (.tmp (nat_lit 27)))⟩,
   ⟨(some (nat_lit 29)), (some ((nat_lit 28), false)), .simple (.fieldAddr (nat_lit 5) (.tmp (nat_lit 1)))⟩,
   ⟨(some (nat_lit 30)), (some ((nat_lit 28), false)), .simple (.load none (.tmp (nat_lit 29)))⟩,
   ⟨(some (nat_lit 31)), (some ((nat_lit 28), false)), .simple (.len (.tmp (nat_lit 30)))⟩,
   ⟨(some (nat_lit 32)), (some ((nat_lit 28), false)), .simple (.bin .gtr (.tmp (nat_lit 31)) (.const (.int .i64 (.ofNat (nat_lit 2)))))⟩,
   ⟨(some (nat_lit 33)), none, .simple (.pick (.tmp (nat_lit 28)) (.const (.bool true)) (.tmp (nat_lit 32)))⟩,
   ⟨(some (nat_lit 6)), none, .simple (.move (.tmp (nat_lit 33)))⟩] (some [(nat_lit 1), (nat_lit 3), (nat_lit 6)]))
 (.cond (.tmp (nat_lit 6))
  (.seq (.region [
    ⟨(some (nat_lit 2)), none, .simple (.move (.const (.int .i64 (.ofNat (nat_lit 3)))))⟩] (some [(nat_lit 2)]))
  .ret)
  (.seq (.region [
    ⟨(some (nat_lit 35)), none, .simple (.fieldAddr (nat_lit 0) (.tmp (nat_lit 1)))⟩,
    ⟨(some (nat_lit 36)), none, .simple (.load none (.tmp (nat_lit 35)))⟩,
    ⟨(some (nat_lit 37)), none, .simple (.bin .lss (.tmp (nat_lit 36)) (.const (.int .i64 (.ofNat (nat_lit 1)))))⟩,
    ⟨(some (nat_lit 38)), none, .simple (.move (.tmp (nat_lit 37)))⟩,
    ⟨(some (nat_lit 39)), (some ((nat_lit 38), false)), .simple (.fieldAddr (nat_lit 1) (.tmp (nat_lit 1)))⟩,
    ⟨(some (nat_lit 40)), (some ((nat_lit 38), false)), .simple (.load none (.tmp (nat_lit 39)))⟩,
    ⟨(some (nat_lit 41)), (some ((nat_lit 38), false)), .simple (.len (.tmp (nat_lit 40)))⟩,
    ⟨(some (nat_lit 42)), (some ((nat_lit 38), false)), .simple (.fieldAddr (nat_lit 0) (.tmp (nat_lit 1)))⟩,
    ⟨(some (nat_lit 43)), (some ((nat_lit 38), false)), .simple (.load none (.tmp (nat_lit 42)))⟩,
    ⟨(some (nat_lit 44)), (some ((nat_lit 38), false)), .simple (.bin .neq (.tmp (nat_lit 41)) (.tmp (nat_lit 43)))⟩,
    ⟨(some (nat_lit 45)), none, .simple (.pick (.tmp (nat_lit 38)) (.const (.bool true)) (.tmp (nat_lit 44)))⟩,
    ⟨(some (nat_lit 46)), none, .simple (.move (.tmp (nat_lit 45)))⟩,
    ⟨(some (nat_lit 47)), (some ((nat_lit 46), false)), .simple (.fieldAddr (nat_lit 1) (.tmp (nat_lit 1)))⟩,
    ⟨(some (nat_lit 48)), (some ((nat_lit 46), false)), .simple (.load none (.tmp (nat_lit 47)))⟩,
    ⟨(some (nat_lit 49)), (some ((nat_lit 46), false)), .simple (.build [(.d (.int .i64 (.ofNat (nat_lit 0)))), (.d (.int .i64 (.ofNat (nat_lit 0))))] [((nat_lit 0), (nat_lit 1), (.const (.int .i64 (.ofNat (nat_lit 0))))), ((nat_lit 1), (nat_lit 1), (.const (.int .i64 (.ofNat (nat_lit 100)))))])⟩,
    ⟨(some (nat_lit 50)), (some ((nat_lit 46), false)), .simple (.mkfn (.func (nat_lit 85)) [(.tmp (nat_lit 49))] [])⟩,
    ⟨(some (nat_lit 51)), (some ((nat_lit 46), false)), .call (.func (nat_lit 84)) [(.tmp (nat_lit 48)), (.tmp (nat_lit 50))]⟩,
    ⟨(some (nat_lit 52)), (some ((nat_lit 46), false)), .simple (.un .not (.tmp (nat_lit 51)))⟩,
    ⟨(some (nat_lit 53)), none, .simple (.pick (.tmp (nat_lit 46)) (.const (.bool true)) (.tmp (nat_lit 52)))⟩,
    ⟨(some (nat_lit 54)), none, .simple (.move (.tmp (nat_lit 53)))⟩,
    ⟨(some (nat_lit 55)), (some ((nat_lit 54), false)), .simple (.fieldAddr (nat_lit 2) (.tmp (nat_lit 1)))⟩,
    ⟨(some (nat_lit 56)), (some ((nat_lit 54), false)), .simple (.load none (.tmp (nat_lit 55)))⟩,
    ⟨(some (nat_lit 57)), (some ((nat_lit 54), false)), .simple (.move (.tmp (nat_lit 3)))⟩,
    ⟨(some (nat_lit 58)), (some ((nat_lit 54), false)), .call (.func (nat_lit 86)) [(.tmp (nat_lit 56)), (.tmp (nat_lit 57))]⟩,
    ⟨(some (nat_lit 59)), (some ((nat_lit 54), false)), .simple (.un .not (.tmp (nat_lit 58)))⟩,
    ⟨(some (nat_lit 60)), none, .simple (.pick (.tmp (nat_lit 54)) (.const (.bool true)) (.tmp (nat_lit 59)))⟩,
    ⟨(some (nat_lit 61)), none, .simple (.move (.tmp (nat_lit 60)))⟩,
    ⟨(some (nat_lit 62)), (some ((nat_lit 61), false)), .simple (.fieldAddr (nat_lit 3) (.tmp (nat_lit 1)))⟩,
    ⟨(some (nat_lit 63)), (some ((nat_lit 61), false)), .simple (.load none (.tmp (nat_lit 62)))⟩,
    ⟨(some (nat_lit 64)), (some ((nat_lit 61), false)), .call (.func (nat_lit 87)) [(.tmp (nat_lit 63)), (.func (nat_lit 88))]⟩,
    ⟨(some (nat_lit 65)), (some ((nat_lit 61), false)), .simple (.un .not (.tmp (nat_lit 64)))⟩,
    ⟨(some (nat_lit 66)), none, .simple (.pick (.tmp (nat_lit 61)) (.const (.bool true)) (.tmp (nat_lit 65)))⟩,
    ⟨(some (nat_lit 67)), none, .simple (.move (.tmp (nat_lit 66)))⟩,
    ⟨(some (nat_lit 68)), (some ((nat_lit 67), false)), .simple (.load (some (nat_lit 6)) (.tmp (nat_lit 1)))⟩,
    ⟨(some (nat_lit 69)), (some ((nat_lit 67), false)), .call (.func (nat_lit 89)) [(.tmp (nat_lit 68))]⟩,
    ⟨(some (nat_lit 70)), (some ((nat_lit 67), false)), .simple (.un .not (.tmp (nat_lit 69)))⟩,
    ⟨(some (nat_lit 71)), none, .simple (.pick (.tmp (nat_lit 67)) (.const (.bool true)) (.tmp (nat_lit 70)))⟩,
    ⟨(some (nat_lit 72)), none, .simple (.move (.tmp (nat_lit 71)))⟩,
    ⟨(some (nat_lit 73)), (some ((nat_lit 72), false)), .simple (.fieldAddr (nat_lit 5) (.tmp (nat_lit 1)))⟩,
    ⟨(some (nat_lit 74)), (some ((nat_lit 72), false)), .simple (.load none (.tmp (nat_lit 73)))⟩,
    ⟨(some (nat_lit 75)), (some ((nat_lit 72), false)), .call (.func (nat_lit 90)) [(.tmp (nat_lit 74)), (.func (nat_lit 91))]⟩,
    ⟨(some (nat_lit 76)), (some ((nat_lit 72), false)), .simple (.un .not (.tmp (nat_lit 75)))⟩,
    ⟨(some (nat_lit 77)), none, .simple (.pick (.tmp (nat_lit 72)) (.const (.bool true)) (.tmp (nat_lit 76)))⟩,
    ⟨(some (nat_lit 34)), none, .simple (.move (.tmp (nat_lit 77)))⟩] (some [(nat_lit 34)]))
  (.cond (.tmp (nat_lit 34))
   (.seq (.region [
     ⟨(some (nat_lit 2)), none, .simple (.move (.const (.int .i64 (.ofNat (nat_lit 1)))))⟩] (some [(nat_lit 2)]))
   .ret)
   .skip)))))
(.seq (.region [
  ⟨(some (nat_lit 2)), none, .simple (.move (.const (.int .i64 (.ofNat (nat_lit 0)))))⟩] (some [(nat_lit 2)]))
.ret))))
theorem k52 : Try.f52.body.bind (compC Try.prog G52) = some c52 := by kernel_rfl
theorem e52 : compRes Try.prog Try.f52.results.toList = some r52 := by kernel_rfl
def F52 : FunX := ⟨false, G52, c52, r52⟩
theorem o52 : FunOk Try.prog 52 F52 := ⟨Try.f52, by kernel_rfl, k52, e52, by kernel_rfl, by kernel_rfl⟩

/-! 53: contango/contangolaw07.one; parameters 1, captured 0 -/
def G53 : Cfg := ⟨[(nat_lit 2)], [((nat_lit 0), [(nat_lit 0), (nat_lit 2)]), ((nat_lit 1), [(nat_lit 2)])], (nat_lit 16), []⟩
def r53 : List CRes := [.cell (nat_lit 2) (some (nat_lit 6))]
def c53 : CCode :=
(.seq (.region [
  ⟨(some (nat_lit 2)), none, .simple (.alloc [(.d (.int .i64 (.ofNat (nat_lit 0)))), (.d .nils), (.d .nils), (.d .nils), (.d .nils), (.d .nils)])⟩] (some [(nat_lit 0), (nat_lit 2)]))
(.seq (.region [
  ⟨(some (nat_lit 3)), none, .simple (.bslice false (nat_lit 3) (nat_lit 1) (nat_lit 2) [(.int .i64 (.ofNat (nat_lit 0))), (.int .i64 (.ofNat (nat_lit 0)))] [((nat_lit 0), (.const (.int .i64 (.ofNat (nat_lit 10))))), ((nat_lit 1), (.const (.int .i64 (.ofNat (nat_lit 0)))))])⟩,
  ⟨(some (nat_lit 4)), none, .simple (.move (.tmp (nat_lit 0)))⟩,
  ⟨(some (nat_lit 5)), none, .call (.func (nat_lit 55)) [(.const (.int .i64 (.ofNat (nat_lit 2)))), (.const (.int .i64 (.ofNat (nat_lit 3))))]⟩,
  ⟨(some (nat_lit 6)), none, .call (.func (nat_lit 55)) [(.const (.int .i64 (.ofNat (nat_lit 4)))), (.const (.int .i64 (.ofNat (nat_lit 5))))]⟩,
  ⟨(some (nat_lit 7)), none, .simple (.build [(.d (.int .i64 (.ofNat (nat_lit 0)))), (.d (.int .i64 (.ofNat (nat_lit 0)))), (.d (.int .i64 (.ofNat (nat_lit 0)))), (.d (.int .i64 (.ofNat (nat_lit 0)))), (.d (.int .i64 (.ofNat (nat_lit 0)))), (.d (.int .i64 (.ofNat (nat_lit 0)))), (.d (.int .i64 (.ofNat (nat_lit 0))))] [((nat_lit 1), (nat_lit 1), (.const (.int .i64 (.ofNat (nat_lit 1))))), ((nat_lit 2), (nat_lit 1), (.tmp (nat_lit 4))), ((nat_lit 3), (nat_lit 2), (.tmp (nat_lit 5))), ((nat_lit 5), (nat_lit 2), (.tmp (nat_lit 6)))])⟩,
  ⟨(some (nat_lit 8)), none, .simple (.bslice false (nat_lit 93) (nat_lit 7) (nat_lit 1) [(.int .i64 (.ofNat (nat_lit 0))), (.int .i64 (.ofNat (nat_lit 0))), (.int .i64 (.ofNat (nat_lit 0))), (.int .i64 (.ofNat (nat_lit 0))), (.int .i64 (.ofNat (nat_lit 0))), (.int .i64 (.ofNat (nat_lit 0))), (.int .i64 (.ofNat (nat_lit 0)))] [((nat_lit 0), (.tmp (nat_lit 7)))])⟩,
  ⟨(some (nat_lit 9)), none, .simple (.build [(.d (.int .i64 (.ofNat (nat_lit 0)))), (.d (.int .i64 (.ofNat (nat_lit 0)))), (.d (.int .i64 (.ofNat (nat_lit 0))))] [((nat_lit 0), (nat_lit 1), (.const (.int .i64 (.ofNat (nat_lit 3))))), ((nat_lit 1), (nat_lit 1), (.const (.int .i64 (.ofNat (nat_lit 4))))), ((nat_lit 2), (nat_lit 1), (.const (.int .i64 (.ofNat (nat_lit 5)))))])⟩,
  ⟨(some (nat_lit 10)), none, .simple (.bslice false (nat_lit 95) (nat_lit 3) (nat_lit 1) [(.int .i64 (.ofNat (nat_lit 0))), (.int .i64 (.ofNat (nat_lit 0))), (.int .i64 (.ofNat (nat_lit 0)))] [((nat_lit 0), (.tmp (nat_lit 9)))])⟩,
  ⟨(some (nat_lit 11)), none, .simple (.build [(.d (.int .i64 (.ofNat (nat_lit 0)))), (.d (.int .i64 (.ofNat (nat_lit 0)))), (.d (.int .i64 (.ofNat (nat_lit 0))))] [((nat_lit 0), (nat_lit 1), (.const (.int .i64 (.ofNat (nat_lit 4))))), ((nat_lit 1), (nat_lit 1), (.const (.int .i64 (.ofNat (nat_lit 3))))), ((nat_lit 2), (nat_lit 1), (.const (.int .i64 (.ofNat (nat_lit 2)))))])⟩,
  ⟨(some (nat_lit 12)), none, .simple (.bslice false (nat_lit 96) (nat_lit 3) (nat_lit 1) [(.int .i64 (.ofNat (nat_lit 0))), (.int .i64 (.ofNat (nat_lit 0))), (.int .i64 (.ofNat (nat_lit 0)))] [((nat_lit 0), (.tmp (nat_lit 11)))])⟩,
  ⟨(some (nat_lit 13)), none, .call (.func (nat_lit 55)) [(.const (.int .i64 (.ofNat (nat_lit 5)))), (.const (.int .i64 (.ofNat (nat_lit 6))))]⟩,
  ⟨(some (nat_lit 14)), none, .simple (.bslice false (nat_lit 71) (nat_lit 2) (nat_lit 1) [(.int .i64 (.ofNat (nat_lit 0))), (.int .i64 (.ofNat (nat_lit 0)))] [((nat_lit 0), (.tmp (nat_lit 13)))])⟩,
  ⟨(some (nat_lit 15)), none, .simple (.build [(.d (.int .i64 (.ofNat (nat_lit 0)))), (.d .nils), (.d .nils), (.d .nils), (.d .nils), (.d .nils)] [((nat_lit 0), (nat_lit 1), (.const (.int .i64 (.ofNat (nat_lit 2))))), ((nat_lit 1), (nat_lit 1), (.tmp (nat_lit 3))), ((nat_lit 2), (nat_lit 1), (.tmp (nat_lit 8))), ((nat_lit 3), (nat_lit 1), (.tmp (nat_lit 10))), ((nat_lit 4), (nat_lit 1), (.tmp (nat_lit 12))), ((nat_lit 5), (nat_lit 1), (.tmp (nat_lit 14)))])⟩,
  ⟨none, none, .simple (.store (nat_lit 6) (.tmp (nat_lit 2)) (.tmp (nat_lit 15)))⟩] (some [(nat_lit 2)]))
.ret))
theorem k53 : Try.f53.body.bind (compC Try.prog G53) = some c53 := by kernel_rfl
theorem e53 : compRes Try.prog Try.f53.results.toList = some r53 := by kernel_rfl
def F53 : FunX := ⟨false, G53, c53, r53⟩
theorem o53 : FunOk Try.prog 53 F53 := ⟨Try.f53, by kernel_rfl, k53, e53, by kernel_rfl, by kernel_rfl⟩

/-! 54: contango/contangolaw07.when; parameters 2, captured 0 -/
def G54 : Cfg := ⟨[(nat_lit 4)], [((nat_lit 0), [(nat_lit 0), (nat_lit 1), (nat_lit 4)]), ((nat_lit 1), [(nat_lit 4)])], (nat_lit 10), []⟩
def r54 : List CRes := [.cell (nat_lit 4) (some (nat_lit 2))]
def c54 : CCode :=
(.seq (.region [
  ⟨(some (nat_lit 4)), none, .simple (.alloc [(.d .nils), (.d .nils)])⟩] (some [(nat_lit 0), (nat_lit 1), (nat_lit 4)]))
(.seq (.region [
  ⟨(some (nat_lit 5)), none, .simple (.move (.tmp (nat_lit 0)))⟩,
  ⟨(some (nat_lit 6)), none, .simple (.bslice false (nat_lit 3) (nat_lit 1) (nat_lit 1) [(.int .i64 (.ofNat (nat_lit 0)))] [((nat_lit 0), (.tmp (nat_lit 5)))])⟩,
  ⟨(some (nat_lit 7)), none, .simple (.move (.tmp (nat_lit 1)))⟩,
  ⟨(some (nat_lit 8)), none, .simple (.bslice false (nat_lit 3) (nat_lit 1) (nat_lit 1) [(.int .i64 (.ofNat (nat_lit 0)))] [((nat_lit 0), (.tmp (nat_lit 7)))])⟩,
  ⟨(some (nat_lit 9)), none, .simple (.build [(.d .nils), (.d .nils)] [((nat_lit 0), (nat_lit 1), (.tmp (nat_lit 6))), ((nat_lit 1), (nat_lit 1), (.tmp (nat_lit 8)))])⟩,
  ⟨none, none, .simple (.store (nat_lit 2) (.tmp (nat_lit 4)) (.tmp (nat_lit 9)))⟩] (some [(nat_lit 4)]))
.ret))
theorem k54 : Try.f54.body.bind (compC Try.prog G54) = some c54 := by kernel_rfl
theorem e54 : compRes Try.prog Try.f54.results.toList = some r54 := by kernel_rfl
def F54 : FunX := ⟨false, G54, c54, r54⟩
theorem o54 : FunOk Try.prog 54 F54 := ⟨Try.f54, by kernel_rfl, k54, e54, by kernel_rfl, by kernel_rfl⟩

/-! 55: contango/contangolaw07.between; parameters 2, captured 0 -/
def G55 : Cfg := ⟨[(nat_lit 4)], [((nat_lit 0), [(nat_lit 0), (nat_lit 1), (nat_lit 4)]), ((nat_lit 1), [(nat_lit 4)])], (nat_lit 8), []⟩
def r55 : List CRes := [.cell (nat_lit 4) (some (nat_lit 2))]
def c55 : CCode :=
(.seq (.region [
  ⟨(some (nat_lit 4)), none, .simple (.alloc [(.d (.int .i64 (.ofNat (nat_lit 0)))), (.d (.int .i64 (.ofNat (nat_lit 0))))])⟩] (some [(nat_lit 0), (nat_lit 1), (nat_lit 4)]))
(.seq (.region [
  ⟨(some (nat_lit 5)), none, .simple (.move (.tmp (nat_lit 0)))⟩,
  ⟨(some (nat_lit 6)), none, .simple (.move (.tmp (nat_lit 1)))⟩,
  ⟨(some (nat_lit 7)), none, .simple (.build [(.d (.int .i64 (.ofNat (nat_lit 0)))), (.d (.int .i64 (.ofNat (nat_lit 0))))] [((nat_lit 0), (nat_lit 1), (.tmp (nat_lit 5))), ((nat_lit 1), (nat_lit 1), (.tmp (nat_lit 6)))])⟩,
  ⟨none, none, .simple (.store (nat_lit 2) (.tmp (nat_lit 4)) (.tmp (nat_lit 7)))⟩] (some [(nat_lit 4)]))
.ret))
theorem k55 : Try.f55.body.bind (compC Try.prog G55) = some c55 := by kernel_rfl
theorem e55 : compRes Try.prog Try.f55.results.toList = some r55 := by kernel_rfl
def F55 : FunX := ⟨false, G55, c55, r55⟩
theorem o55 : FunOk Try.prog 55 F55 := ⟨Try.f55, by kernel_rfl, k55, e55, by kernel_rfl, by kernel_rfl⟩

/-! 58: (contango/coupon.Company).asked; parameters 2, captured 0 -/
def G58 : Cfg := ⟨[], [((nat_lit 0), [(nat_lit 2), (nat_lit 3)]), ((nat_lit 1), [(nat_lit 2), (nat_lit 3), (nat_lit 6)]), ((nat_lit 2), [(nat_lit 2), (nat_lit 3), (nat_lit 6), (nat_lit 11)]), ((nat_lit 3), [(nat_lit 4), (nat_lit 5)]), ((nat_lit 4), [(nat_lit 2), (nat_lit 3), (nat_lit 7)]), ((nat_lit 5), [(nat_lit 3), (nat_lit 7), (nat_lit 15)]), ((nat_lit 7), [(nat_lit 7), (nat_lit 20)]), ((nat_lit 8), [(nat_lit 4), (nat_lit 5)]), ((nat_lit 6), [(nat_lit 4), (nat_lit 5)]), ((nat_lit 9), [(nat_lit 4), (nat_lit 5)])], (nat_lit 26), []⟩
def r58 : List CRes := [.tmp (nat_lit 4), .tmp (nat_lit 5)]
def c58 : CCode :=
(.seq (.region [
  ⟨(some (nat_lit 2)), none, .simple (.box false (.tmp (nat_lit 0)))⟩,
  ⟨(some (nat_lit 3)), none, .simple (.box false (.tmp (nat_lit 1)))⟩,
  ⟨(some (nat_lit 4)), none, .simple (.move (.const (.pointer none)))⟩,
  ⟨(some (nat_lit 5)), none, .simple (.move (.const (.int .i64 (.ofNat (nat_lit 0)))))⟩] (some [(nat_lit 2), (nat_lit 3)]))
(.seq (.seq (.region [
  ⟨(some (nat_lit 8)), none, .simple (.load (some (nat_lit 6)) (.tmp (nat_lit 2)))⟩,
  ⟨(some (nat_lit 9)), none, .call (.func (nat_lit 52)) [(.tmp (nat_lit 8))]⟩,
  ⟨(some (nat_lit 6)), none, .simple (.move (.tmp (nat_lit 9)))⟩] (some [(nat_lit 2), (nat_lit 3), (nat_lit 6)]))
(.seq (.region [
  ⟨(some (nat_lit 10)), none, .simple (.move (.tmp (nat_lit 6)))⟩,
  ⟨(some (nat_lit 11)), none, .simple (.bin .neq (.tmp (nat_lit 10)) (.const (.int .i64 (.ofNat (nat_lit 0)))))⟩] (some [(nat_lit 2), (nat_lit 3), (nat_lit 6), (nat_lit 11)]))
(.cond (.tmp (nat_lit 11))
 (.seq (.region [
   ⟨(some (nat_lit 12)), none, .simple (.move (.tmp (nat_lit 6)))⟩,
   ⟨(some (nat_lit 4)), none, .simple (.move (.const (.pointer none)))⟩,
   ⟨(some (nat_lit 5)), none, .simple (.move (.tmp (nat_lit 12)))⟩] (some [(nat_lit 4), (nat_lit 5)]))
 .ret)
 .skip)))
(.seq (.region [
  ⟨(some (nat_lit 13)), none, .simple (.load (some (nat_lit 6)) (.tmp (nat_lit 2)))⟩,
  ⟨(some (nat_lit 14)), none, .call (.func (nat_lit 72)) [(.tmp (nat_lit 13))]⟩,
  ⟨(some (nat_lit 7)), none, .simple (.move (.tmp (nat_lit 14)))⟩] (some [(nat_lit 2), (nat_lit 3), (nat_lit 7)]))
(.seq (.block (nat_lit 0) (.seq (.region [
   ⟨(some (nat_lit 16)), none, .simple (.load (some (nat_lit 6)) (.tmp (nat_lit 2)))⟩,
   ⟨(some (nat_lit 17)), none, .simple (.load (some (nat_lit 2)) (.tmp (nat_lit 3)))⟩,
   ⟨(some (nat_lit 18)), none, .call (.func (nat_lit 92)) [(.tmp (nat_lit 16)), (.tmp (nat_lit 17))]⟩,
   ⟨(some (nat_lit 19)), none, .simple (.un .not (.tmp (nat_lit 18)))⟩,
   ⟨(some (nat_lit 15)), none, .simple (.move (.tmp (nat_lit 19)))⟩] (some [(nat_lit 3), (nat_lit 7), (nat_lit 15)]))
 (.cond (.tmp (nat_lit 15))
  (.seq (.region [
    ⟨(some (nat_lit 4)), none, .simple (.move (.const (.pointer none)))⟩,
    ⟨(some (nat_lit 5)), none, .simple (.move (.const (.int .i64 (.ofNat (nat_lit 2)))))⟩] (some [(nat_lit 4), (nat_lit 5)]))
  .ret)
  (.seq (.region [
    ⟨(some (nat_lit 21)), none, .simple (.move (.tmp (nat_lit 7)))⟩,
    ⟨(some (nat_lit 22)), none, .simple (.load (some (nat_lit 2)) (.tmp (nat_lit 3)))⟩,
    ⟨(some (nat_lit 23)), none, .call (.func (nat_lit 93)) [(.tmp (nat_lit 21)), (.tmp (nat_lit 22))]⟩,
    ⟨(some (nat_lit 24)), none, .simple (.un .not (.tmp (nat_lit 23)))⟩,
    ⟨(some (nat_lit 20)), none, .simple (.move (.tmp (nat_lit 24)))⟩] (some [(nat_lit 7), (nat_lit 20)]))
  (.cond (.tmp (nat_lit 20))
   (.seq (.region [
     ⟨(some (nat_lit 4)), none, .simple (.move (.const (.pointer none)))⟩,
     ⟨(some (nat_lit 5)), none, .simple (.move (.const (.int .i64 (.ofNat (nat_lit 11)))))⟩] (some [(nat_lit 4), (nat_lit 5)]))
   .ret)
   .skip)))))
(.seq (.region [
  ⟨(some (nat_lit 25)), none, .simple (.move (.tmp (nat_lit 7)))⟩,
  ⟨(some (nat_lit 4)), none, .simple (.move (.tmp (nat_lit 25)))⟩,
  ⟨(some (nat_lit 5)), none, .simple (.move (.const (.int .i64 (.ofNat (nat_lit 0)))))⟩] (some [(nat_lit 4), (nat_lit 5)]))
.ret)))))
theorem k58 : Try.f58.body.bind (compC Try.prog G58) = some c58 := by kernel_rfl
theorem e58 : compRes Try.prog Try.f58.results.toList = some r58 := by kernel_rfl
def F58 : FunX := ⟨false, G58, c58, r58⟩
theorem o58 : FunOk Try.prog 58 F58 := ⟨Try.f58, by kernel_rfl, k58, e58, by kernel_rfl, by kernel_rfl⟩

/-! 59: contango/coupon.day; parameters 1, captured 0 -/
def G59 : Cfg := ⟨[], [((nat_lit 0), [(nat_lit 0)]), ((nat_lit 1), [(nat_lit 2)])], (nat_lit 5), []⟩
def r59 : List CRes := [.tmp (nat_lit 2)]
def c59 : CCode :=
(.seq (.region [
  ⟨(some (nat_lit 2)), none, .simple (.move (.const (.bool false)))⟩] (some [(nat_lit 0)]))
(.seq (.region [
  ⟨(some (nat_lit 3)), none, .simple (.move (.tmp (nat_lit 0)))⟩,
  ⟨(some (nat_lit 4)), none, .call (.func (nat_lit 71)) [(.tmp (nat_lit 3)), (.const (.int .i64 (.ofNat (nat_lit 0)))), (.const (.int .i64 (.ofNat (nat_lit 11))))]⟩,
  ⟨(some (nat_lit 2)), none, .simple (.move (.tmp (nat_lit 4)))⟩] (some [(nat_lit 2)]))
.ret))
theorem k59 : Try.f59.body.bind (compC Try.prog G59) = some c59 := by kernel_rfl
theorem e59 : compRes Try.prog Try.f59.results.toList = some r59 := by kernel_rfl
def F59 : FunX := ⟨false, G59, c59, r59⟩
theorem o59 : FunOk Try.prog 59 F59 := ⟨Try.f59, by kernel_rfl, k59, e59, by kernel_rfl, by kernel_rfl⟩

/-! 60: (*contango/coupon.work).held; parameters 3, captured 0 -/
def G60 : Cfg := ⟨[(nat_lit 6), (nat_lit 10)], [((nat_lit 0), [(nat_lit 0), (nat_lit 2), (nat_lit 4), (nat_lit 6)]), ((nat_lit 1), [(nat_lit 0), (nat_lit 2), (nat_lit 4), (nat_lit 6), (nat_lit 17), (nat_lit 18), (nat_lit 19)]), ((nat_lit 2), [(nat_lit 0), (nat_lit 2), (nat_lit 4), (nat_lit 6), (nat_lit 17), (nat_lit 18), (nat_lit 19), (nat_lit 20)]), ((nat_lit 3), [(nat_lit 0), (nat_lit 2), (nat_lit 4), (nat_lit 6), (nat_lit 7), (nat_lit 8), (nat_lit 17), (nat_lit 18), (nat_lit 19)]), ((nat_lit 4), [(nat_lit 0), (nat_lit 2), (nat_lit 4), (nat_lit 6), (nat_lit 17), (nat_lit 18), (nat_lit 19)]), ((nat_lit 5), [(nat_lit 0), (nat_lit 2), (nat_lit 4), (nat_lit 6), (nat_lit 17), (nat_lit 18), (nat_lit 19)]), ((nat_lit 6), [(nat_lit 0), (nat_lit 2), (nat_lit 4), (nat_lit 6), (nat_lit 36), (nat_lit 37), (nat_lit 38)]), ((nat_lit 7), [(nat_lit 0), (nat_lit 2), (nat_lit 4), (nat_lit 6), (nat_lit 36), (nat_lit 37), (nat_lit 38), (nat_lit 39)]), ((nat_lit 8), [(nat_lit 0), (nat_lit 2), (nat_lit 4), (nat_lit 6), (nat_lit 9), (nat_lit 10), (nat_lit 36), (nat_lit 37), (nat_lit 38)]), ((nat_lit 9), [(nat_lit 0), (nat_lit 2), (nat_lit 4), (nat_lit 6), (nat_lit 9), (nat_lit 10), (nat_lit 11), (nat_lit 36), (nat_lit 37), (nat_lit 38)]), ((nat_lit 10), [(nat_lit 0), (nat_lit 2), (nat_lit 4), (nat_lit 6), (nat_lit 9), (nat_lit 10), (nat_lit 36), (nat_lit 37), (nat_lit 38), (nat_lit 59)]), ((nat_lit 11), [(nat_lit 0), (nat_lit 2), (nat_lit 4), (nat_lit 6), (nat_lit 10), (nat_lit 12), (nat_lit 36), (nat_lit 37), (nat_lit 38)]), ((nat_lit 12), [(nat_lit 0), (nat_lit 2), (nat_lit 4), (nat_lit 6), (nat_lit 10), (nat_lit 12), (nat_lit 36), (nat_lit 37), (nat_lit 38)]), ((nat_lit 13), [(nat_lit 0), (nat_lit 2), (nat_lit 4), (nat_lit 6), (nat_lit 36), (nat_lit 37), (nat_lit 38)]), ((nat_lit 14), [(nat_lit 0), (nat_lit 2), (nat_lit 4), (nat_lit 6), (nat_lit 36), (nat_lit 37), (nat_lit 38)]), ((nat_lit 15), [(nat_lit 6)])], (nat_lit 87), []⟩
def r60 : List CRes := [.cell (nat_lit 6) (some (nat_lit 4))]
def c60 : CCode :=
(.seq (.region [
  ⟨(some (nat_lit 4)), none, .simple (.box false (.tmp (nat_lit 1)))⟩,
  ⟨(some (nat_lit 6)), none, .simple (.alloc [(.d (.int .i64 (.ofNat (nat_lit 0)))), (.d (.int .i64 (.ofNat (nat_lit 0)))), (.d (.int .i64 (.ofNat (nat_lit 0)))), (.d (.int .i64 (.ofNat (nat_lit 0))))])⟩] (some [(nat_lit 0), (nat_lit 2), (nat_lit 4), (nat_lit 6)]))
(.seq (.seq (.region [
  ⟨(some (nat_lit 13)), none, .simple (.move (.tmp (nat_lit 0)))⟩,
  ⟨(some (nat_lit 14)), none, .simple (.nilCheck (.tmp (nat_lit 13)))⟩,
  ⟨(some (nat_lit 15)), none, .simple (.fieldAddr (nat_lit 0) (.tmp (nat_lit 14)))⟩,
  ⟨(some (nat_lit 16)), none, .simple (.fieldAddr (nat_lit 1) (.tmp (nat_lit 15)))⟩,
  ⟨(some (nat_lit 17)), none, .simple (.load none (.tmp (nat_lit 16)))⟩,
  ⟨(some (nat_lit 18)), none, .simple (.len (.tmp (nat_lit 17)))⟩,
  ⟨(some (nat_lit 19)), none, .simple (.move (.const (.int .i64 (.ofNat (nat_lit 0)))))⟩] (some [(nat_lit 0), (nat_lit 2), (nat_lit 4), (nat_lit 6), (nat_lit 17), (nat_lit 18), (nat_lit 19)]))
(.block (nat_lit 0) (.loop (.seq (.region [
    ⟨(some (nat_lit 20)), none, .simple (.bin .lss (.tmp (nat_lit 19)) (.tmp (nat_lit 18)))⟩] (some [(nat_lit 0), (nat_lit 2), (nat_lit 4), (nat_lit 6), (nat_lit 17), (nat_lit 18), (nat_lit 19), (nat_lit 20)]))
  (.seq (.cond (.tmp (nat_lit 20))
   .skip
   (.exit (nat_lit 0)))
  (.seq (.block (nat_lit 1) (.seq (.region [
     ⟨(some (nat_lit 21)), none, .simple (.move (.tmp (nat_lit 19)))⟩,
     ⟨(some (nat_lit 22)), none, .simple (.indexS (nat_lit 1) (.tmp (nat_lit 17)) (.tmp (nat_lit 19)))⟩,
     ⟨(some (nat_lit 23)), none, .simple (.load none (.tmp (nat_lit 22)))⟩,
     ⟨(some (nat_lit 7)), none, .simple (.move (.tmp (nat_lit 21)))⟩,
     ⟨(some (nat_lit 8)), none, .simple (.move (.tmp (nat_lit 23)))⟩] (some [(nat_lit 0), (nat_lit 2), (nat_lit 4), (nat_lit 6), (nat_lit 7), (nat_lit 8), (nat_lit 17), (nat_lit 18), (nat_lit 19)]))
   (.region [
     ⟨(some (nat_lit 24)), none, .simple (.move (.tmp (nat_lit 7)))⟩,
     ⟨(some (nat_lit 25)), none, .simple (.move (.tmp (nat_lit 0)))⟩,
     ⟨(some (nat_lit 26)), none, .simple (.move (.tmp (nat_lit 8)))⟩,
     ⟨(some (nat_lit 27)), none, .simple (.move (.tmp (nat_lit 2)))⟩,
     ⟨(some (nat_lit 28)), none, .simple (.build [(.d (.int .i64 (.ofNat (nat_lit 0)))), (.d (.int .i64 (.ofNat (nat_lit 0))))] [((nat_lit 0), (nat_lit 1), (.const (.int .i64 (.negSucc (nat_lit 0))))), ((nat_lit 1), (nat_lit 1), (.tmp (nat_lit 27)))])⟩,
     ⟨(some (nat_lit 29)), none, .call (.func (nat_lit 94)) [(.tmp (nat_lit 25)), (.tmp (nat_lit 26)), (.tmp (nat_lit 28))]⟩,
     ⟨(some (nat_lit 30)), none, .simple (.indexA (nat_lit 4) (nat_lit 1) (.tmp (nat_lit 6)) (.tmp (nat_lit 24)))⟩,
     ⟨none, none, .simple (.store (nat_lit 1) (.tmp (nat_lit 30)) (.tmp (nat_lit 29)))⟩] (some [(nat_lit 0), (nat_lit 2), (nat_lit 4), (nat_lit 6), (nat_lit 17), (nat_lit 18), (nat_lit 19)]))))
  (.region [
    ⟨(some (nat_lit 31)), none, .simple (.bin .add (.tmp (nat_lit 19)) (.const (.int .i64 (.ofNat (nat_lit 1)))))⟩,
    ⟨(some (nat_lit 19)), none, .simple (.move (.tmp (nat_lit 31)))⟩] (some [(nat_lit 0), (nat_lit 2), (nat_lit 4), (nat_lit 6), (nat_lit 17), (nat_lit 18), (nat_lit 19)]))))))))
(.seq (.seq (.region [
  ⟨(some (nat_lit 32)), none, .simple (.move (.tmp (nat_lit 0)))⟩,
  ⟨(some (nat_lit 33)), none, .simple (.nilCheck (.tmp (nat_lit 32)))⟩,
  ⟨(some (nat_lit 34)), none, .simple (.fieldAddr (nat_lit 0) (.tmp (nat_lit 33)))⟩,
  ⟨(some (nat_lit 35)), none, .simple (.fieldAddr (nat_lit 2) (.tmp (nat_lit 34)))⟩,
  ⟨(some (nat_lit 36)), none, .simple (.load none (.tmp (nat_lit 35)))⟩,
  ⟨(some (nat_lit 37)), none, .simple (.len (.tmp (nat_lit 36)))⟩,
  ⟨(some (nat_lit 38)), none, .simple (.move (.const (.int .i64 (.ofNat (nat_lit 0)))))⟩] (some [(nat_lit 0), (nat_lit 2), (nat_lit 4), (nat_lit 6), (nat_lit 36), (nat_lit 37), (nat_lit 38)]))
(.block (nat_lit 2) (.loop (.seq (.region [
    ⟨(some (nat_lit 39)), none, .simple (.bin .lss (.tmp (nat_lit 38)) (.tmp (nat_lit 37)))⟩] (some [(nat_lit 0), (nat_lit 2), (nat_lit 4), (nat_lit 6), (nat_lit 36), (nat_lit 37), (nat_lit 38), (nat_lit 39)]))
  (.seq (.cond (.tmp (nat_lit 39))
   .skip
   (.exit (nat_lit 2)))
  (.seq (.block (nat_lit 3) (.seq (.region [
     ⟨(some (nat_lit 40)), none, .simple (.move (.tmp (nat_lit 38)))⟩,
     ⟨(some (nat_lit 41)), none, .simple (.indexS (nat_lit 7) (.tmp (nat_lit 36)) (.tmp (nat_lit 38)))⟩,
     ⟨(some (nat_lit 42)), none, .simple (.load (some (nat_lit 7)) (.tmp (nat_lit 41)))⟩,
     ⟨(some (nat_lit 10)), none, .simple (.alloc [(.d (.int .i64 (.ofNat (nat_lit 0)))), (.d (.int .i64 (.ofNat (nat_lit 0)))), (.d (.int .i64 (.ofNat (nat_lit 0)))), (.d (.int .i64 (.ofNat (nat_lit 0)))), (.d (.int .i64 (.ofNat (nat_lit 0)))), (.d (.int .i64 (.ofNat (nat_lit 0)))), (.d (.int .i64 (.ofNat (nat_lit 0))))])⟩,
     ⟨(some (nat_lit 9)), none, .simple (.move (.tmp (nat_lit 40)))⟩,
     ⟨none, none, .simple (.store (nat_lit 7) (.tmp (nat_lit 10)) (.tmp (nat_lit 42)))⟩] (some [(nat_lit 0), (nat_lit 2), (nat_lit 4), (nat_lit 6), (nat_lit 9), (nat_lit 10), (nat_lit 36), (nat_lit 37), (nat_lit 38)]))
   (.seq (.region [
     ⟨(some (nat_lit 43)), none, .simple (.move (.tmp (nat_lit 0)))⟩,
     ⟨(some (nat_lit 44)), none, .simple (.nilCheck (.tmp (nat_lit 43)))⟩,
     ⟨(some (nat_lit 45)), none, .simple (.fieldAddr (nat_lit 0) (.tmp (nat_lit 44)))⟩,
     ⟨(some (nat_lit 46)), none, .simple (.load (some (nat_lit 6)) (.tmp (nat_lit 45)))⟩,
     ⟨(some (nat_lit 47)), none, .simple (.fieldAddr (nat_lit 1) (.tmp (nat_lit 4)))⟩,
     ⟨(some (nat_lit 48)), none, .simple (.load none (.tmp (nat_lit 47)))⟩,
     ⟨(some (nat_lit 49)), none, .simple (.move (.tmp (nat_lit 9)))⟩,
     ⟨(some (nat_lit 50)), none, .simple (.indexS (nat_lit 1) (.tmp (nat_lit 48)) (.tmp (nat_lit 49)))⟩,
     ⟨(some (nat_lit 51)), none, .simple (.load none (.tmp (nat_lit 50)))⟩,
     ⟨(some (nat_lit 52)), none, .call (.func (nat_lit 82)) [(.tmp (nat_lit 46)), (.tmp (nat_lit 51))]⟩,
     ⟨(some (nat_lit 11)), none, .simple (.move (.tmp (nat_lit 52)))⟩] (some [(nat_lit 0), (nat_lit 2), (nat_lit 4), (nat_lit 6), (nat_lit 9), (nat_lit 10), (nat_lit 11), (nat_lit 36), (nat_lit 37), (nat_lit 38)]))
   (.seq (.region [
     ⟨(some (nat_lit 53)), none, .simple (.move (.tmp (nat_lit 11)))⟩,
     ⟨(some (nat_lit 54)), none, .simple (.bin .neq (.tmp (nat_lit 53)) (.const (.int .i64 (.negSucc (nat_lit 0)))))⟩,
     ⟨(some (nat_lit 55)), none, .simple (.move (.tmp (nat_lit 54)))⟩,
     ⟨(some (nat_lit 56)), (some ((nat_lit 55), true)), .simple (.move (.tmp (nat_lit 11)))⟩,
     ⟨(some (nat_lit 57)), (some ((nat_lit 55), true)), .simple (.move (.tmp (nat_lit 2)))⟩,
     ⟨(some (nat_lit 58)), (some ((nat_lit 55), true)), .simple (.bin .leq (.tmp (nat_lit 56)) (.tmp (nat_lit 57)))⟩,
     ⟨(some (nat_lit 59)), none, .simple (.pick (.tmp (nat_lit 55)) (.tmp (nat_lit 58)) (.const (.bool false)))⟩] (some [(nat_lit 0), (nat_lit 2), (nat_lit 4), (nat_lit 6), (nat_lit 9), (nat_lit 10), (nat_lit 36), (nat_lit 37), (nat_lit 38), (nat_lit 59)]))
   (.cond (.tmp (nat_lit 59))
    (.seq (.region [
      ⟨(some (nat_lit 60)), none, .simple (.move (.tmp (nat_lit 0)))⟩,
      ⟨(some (nat_lit 61)), none, .simple (.fieldAddr (nat_lit 2) (.tmp (nat_lit 10)))⟩,
      ⟨(some (nat_lit 62)), none, .simple (.load none (.tmp (nat_lit 61)))⟩,
      ⟨(some (nat_lit 63)), none, .simple (.fieldAddr (nat_lit 0) (.tmp (nat_lit 4)))⟩,
      ⟨(some (nat_lit 64)), none, .simple (.load none (.tmp (nat_lit 63)))⟩,
      ⟨(some (nat_lit 65)), none, .simple (.move (.tmp (nat_lit 9)))⟩,
      ⟨(some (nat_lit 66)), none, .simple (.indexS (nat_lit 1) (.tmp (nat_lit 64)) (.tmp (nat_lit 65)))⟩,
      ⟨(some (nat_lit 67)), none, .simple (.load none (.tmp (nat_lit 66)))⟩,
      ⟨(some (nat_lit 68)), none, .simple (.move (.tmp (nat_lit 2)))⟩,
      ⟨(some (nat_lit 69)), none, .simple (.build [(.d (.int .i64 (.ofNat (nat_lit 0)))), (.d (.int .i64 (.ofNat (nat_lit 0))))] [((nat_lit 0), (nat_lit 1), (.tmp (nat_lit 67))), ((nat_lit 1), (nat_lit 1), (.tmp (nat_lit 68)))])⟩,
      ⟨(some (nat_lit 70)), none, .call (.func (nat_lit 94)) [(.tmp (nat_lit 60)), (.tmp (nat_lit 62)), (.tmp (nat_lit 69))]⟩,
      ⟨(some (nat_lit 12)), none, .simple (.move (.tmp (nat_lit 70)))⟩] (some [(nat_lit 0), (nat_lit 2), (nat_lit 4), (nat_lit 6), (nat_lit 10), (nat_lit 12), (nat_lit 36), (nat_lit 37), (nat_lit 38)]))
    (.seq (.region [
      ⟨(some (nat_lit 71)), none, .simple (.fieldAddr (nat_lit 0) (.tmp (nat_lit 10)))⟩,
      ⟨(some (nat_lit 72)), none, .simple (.load none (.tmp (nat_lit 71)))⟩,
      ⟨(some (nat_lit 73)), none, .simple (.indexA (nat_lit 4) (nat_lit 1) (.tmp (nat_lit 6)) (.tmp (nat_lit 72)))⟩,
      ⟨(some (nat_lit 74)), none, .simple (.load none (.tmp (nat_lit 73)))⟩,
      ⟨(some (nat_lit 75)), none, .simple (.move (.tmp (nat_lit 12)))⟩,
      ⟨(some (nat_lit 76)), none, .simple (.bin .sub (.tmp (nat_lit 74)) (.tmp (nat_lit 75)))⟩,
      ⟨(some (nat_lit 77)), none, .simple (.indexA (nat_lit 4) (nat_lit 1) (.tmp (nat_lit 6)) (.tmp (nat_lit 72)))⟩,
      ⟨none, none, .simple (.store (nat_lit 1) (.tmp (nat_lit 77)) (.tmp (nat_lit 76)))⟩] (some [(nat_lit 0), (nat_lit 2), (nat_lit 4), (nat_lit 6), (nat_lit 10), (nat_lit 12), (nat_lit 36), (nat_lit 37), (nat_lit 38)]))
    (.region [
      ⟨(some (nat_lit 78)), none, .simple (.fieldAddr (nat_lit 1) (.tmp (nat_lit 10)))⟩,
      ⟨(some (nat_lit 79)), none, .simple (.load none (.tmp (nat_lit 78)))⟩,
      ⟨(some (nat_lit 80)), none, .simple (.indexA (nat_lit 4) (nat_lit 1) (.tmp (nat_lit 6)) (.tmp (nat_lit 79)))⟩,
      ⟨(some (nat_lit 81)), none, .simple (.load none (.tmp (nat_lit 80)))⟩,
      ⟨(some (nat_lit 82)), none, .simple (.move (.tmp (nat_lit 12)))⟩,
      ⟨(some (nat_lit 83)), none, .simple (.bin .add (.tmp (nat_lit 81)) (.tmp (nat_lit 82)))⟩,
      ⟨(some (nat_lit 84)), none, .simple (.indexA (nat_lit 4) (nat_lit 1) (.tmp (nat_lit 6)) (.tmp (nat_lit 79)))⟩,
      ⟨none, none, .simple (.store (nat_lit 1) (.tmp (nat_lit 84)) (.tmp (nat_lit 83)))⟩] (some [(nat_lit 0), (nat_lit 2), (nat_lit 4), (nat_lit 6), (nat_lit 36), (nat_lit 37), (nat_lit 38)]))))
    .skip)))))
  (.region [
    ⟨(some (nat_lit 85)), none, .simple (.bin .add (.tmp (nat_lit 38)) (.const (.int .i64 (.ofNat (nat_lit 1)))))⟩,
    ⟨(some (nat_lit 38)), none, .simple (.move (.tmp (nat_lit 85)))⟩] (some [(nat_lit 0), (nat_lit 2), (nat_lit 4), (nat_lit 6), (nat_lit 36), (nat_lit 37), (nat_lit 38)]))))))))
(.seq (.region [
  ⟨(some (nat_lit 86)), none, .simple (.load (some (nat_lit 4)) (.tmp (nat_lit 6)))⟩,
  ⟨none, none, .simple (.store (nat_lit 4) (.tmp (nat_lit 6)) (.tmp (nat_lit 86)))⟩] (some [(nat_lit 6)]))
.ret))))
theorem k60 : Try.f60.body.bind (compC Try.prog G60) = some c60 := by kernel_rfl
theorem e60 : compRes Try.prog Try.f60.results.toList = some r60 := by kernel_rfl
def F60 : FunX := ⟨false, G60, c60, r60⟩
theorem o60 : FunOk Try.prog 60 F60 := ⟨Try.f60, by kernel_rfl, k60, e60, by kernel_rfl, by kernel_rfl⟩

/-! 64: (*contango/coupon.work).paid; parameters 3, captured 0 -/
def G64 : Cfg := ⟨[(nat_lit 32), (nat_lit 7)], [((nat_lit 0), [(nat_lit 0), (nat_lit 4), (nat_lit 5), (nat_lit 6)]), ((nat_lit 1), [(nat_lit 0), (nat_lit 5), (nat_lit 6), (nat_lit 7)]), ((nat_lit 2), [(nat_lit 5), (nat_lit 6), (nat_lit 20), (nat_lit 21), (nat_lit 22)]), ((nat_lit 3), [(nat_lit 5), (nat_lit 6), (nat_lit 20), (nat_lit 21), (nat_lit 22), (nat_lit 23)]), ((nat_lit 4), [(nat_lit 5), (nat_lit 6), (nat_lit 9), (nat_lit 20), (nat_lit 21), (nat_lit 22)]), ((nat_lit 5), [(nat_lit 5), (nat_lit 6), (nat_lit 20), (nat_lit 21), (nat_lit 22)]), ((nat_lit 6), [(nat_lit 5), (nat_lit 6), (nat_lit 20), (nat_lit 21), (nat_lit 22)]), ((nat_lit 7), [(nat_lit 6)])], (nat_lit 35), [((nat_lit 2), [((nat_lit 7), none)])]⟩
def r64 : List CRes := [.tmp (nat_lit 6)]
def c64 : CCode :=
(.seq (.region [
  ⟨(some (nat_lit 4)), none, .simple (.box false (.tmp (nat_lit 1)))⟩,
  ⟨(some (nat_lit 5)), none, .simple (.box false (.tmp (nat_lit 2)))⟩,
  ⟨(some (nat_lit 6)), none, .simple (.move (.const (.slice none (nat_lit 0) (nat_lit 0))))⟩] (some [(nat_lit 0), (nat_lit 4), (nat_lit 5), (nat_lit 6)]))
(.seq (.region [
  ⟨(some (nat_lit 10)), none, .simple (.move (.tmp (nat_lit 0)))⟩,
  ⟨(some (nat_lit 11)), none, .simple (.load (some (nat_lit 2)) (.tmp (nat_lit 4)))⟩,
  ⟨(some (nat_lit 12)), none, .simple (.fieldAddr (nat_lit 1) (.tmp (nat_lit 5)))⟩,
  ⟨(some (nat_lit 13)), none, .simple (.load none (.tmp (nat_lit 12)))⟩,
  ⟨(some (nat_lit 14)), none, .call (.func (nat_lit 60)) [(.tmp (nat_lit 10)), (.tmp (nat_lit 11)), (.tmp (nat_lit 13))]⟩,
  ⟨(some (nat_lit 7)), none, .simple (.alloc [(.d (.int .i64 (.ofNat (nat_lit 0)))), (.d (.int .i64 (.ofNat (nat_lit 0)))), (.d (.int .i64 (.ofNat (nat_lit 0)))), (.d (.int .i64 (.ofNat (nat_lit 0))))])⟩,
  ⟨none, none, .simple (.store (nat_lit 4) (.tmp (nat_lit 7)) (.tmp (nat_lit 14)))⟩] (some [(nat_lit 0), (nat_lit 5), (nat_lit 6), (nat_lit 7)]))
(.seq (.seq (.seq (.frz ((nat_lit 7), none))
(.region [
  ⟨(some (nat_lit 15)), none, .simple (.move (.tmp (nat_lit 0)))⟩,
  ⟨(some (nat_lit 16)), none, .simple (.nilCheck (.tmp (nat_lit 15)))⟩,
  ⟨(some (nat_lit 17)), none, .simple (.fieldAddr (nat_lit 0) (.tmp (nat_lit 16)))⟩,
  ⟨(some (nat_lit 18)), none, .simple (.fieldAddr (nat_lit 0) (.tmp (nat_lit 17)))⟩,
  ⟨(some (nat_lit 19)), none, .simple (.load none (.tmp (nat_lit 18)))⟩,
  ⟨(some (nat_lit 20)), none, .simple (.sliceA (nat_lit 4) (nat_lit 1) (.tmp (nat_lit 7)) none (some (.tmp (nat_lit 19))))⟩,
  ⟨(some (nat_lit 21)), none, .simple (.len (.tmp (nat_lit 20)))⟩,
  ⟨(some (nat_lit 22)), none, .simple (.move (.const (.int .i64 (.ofNat (nat_lit 0)))))⟩] (some [(nat_lit 5), (nat_lit 6), (nat_lit 20), (nat_lit 21), (nat_lit 22)])))
(.block (nat_lit 0) (.loop (.seq (.region [
    ⟨(some (nat_lit 23)), none, .simple (.bin .lss (.tmp (nat_lit 22)) (.tmp (nat_lit 21)))⟩] (some [(nat_lit 5), (nat_lit 6), (nat_lit 20), (nat_lit 21), (nat_lit 22), (nat_lit 23)]))
  (.seq (.cond (.tmp (nat_lit 23))
   .skip
   (.exit (nat_lit 0)))
  (.seq (.block (nat_lit 1) (.seq (.region [
     ⟨(some (nat_lit 24)), none, .simple (.indexS (nat_lit 1) (.tmp (nat_lit 20)) (.tmp (nat_lit 22)))⟩,
     ⟨(some (nat_lit 25)), none, .simple (.load none (.tmp (nat_lit 24)))⟩,
     ⟨(some (nat_lit 9)), none, .simple (.move (.tmp (nat_lit 25)))⟩] (some [(nat_lit 5), (nat_lit 6), (nat_lit 9), (nat_lit 20), (nat_lit 21), (nat_lit 22)]))
   (.region [
     ⟨(some (nat_lit 26)), none, .simple (.move (.tmp (nat_lit 6)))⟩,
     ⟨(some (nat_lit 27)), none, .simple (.fieldAddr (nat_lit 2) (.tmp (nat_lit 5)))⟩,
     ⟨(some (nat_lit 28)), none, .simple (.load none (.tmp (nat_lit 27)))⟩,
     ⟨(some (nat_lit 29)), none, .simple (.move (.tmp (nat_lit 9)))⟩,
     ⟨(some (nat_lit 30)), none, .simple (.bin .mul (.tmp (nat_lit 28)) (.tmp (nat_lit 29)))⟩,
     ⟨(some (nat_lit 31)), none, .simple (.bslice false (nat_lit 3) (nat_lit 1) (nat_lit 1) [(.int .i64 (.ofNat (nat_lit 0)))] [((nat_lit 0), (.tmp (nat_lit 30)))])⟩,
     ⟨(some (nat_lit 32)), none, .app (nat_lit 3) (nat_lit 1) (nat_lit 8) (.tmp (nat_lit 26)) (.tmp (nat_lit 31))⟩,
     ⟨(some (nat_lit 6)), none, .simple (.move (.tmp (nat_lit 32)))⟩] (some [(nat_lit 5), (nat_lit 6), (nat_lit 20), (nat_lit 21), (nat_lit 22)]))))
  (.region [
    ⟨(some (nat_lit 33)), none, .simple (.bin .add (.tmp (nat_lit 22)) (.const (.int .i64 (.ofNat (nat_lit 1)))))⟩,
    ⟨(some (nat_lit 22)), none, .simple (.move (.tmp (nat_lit 33)))⟩] (some [(nat_lit 5), (nat_lit 6), (nat_lit 20), (nat_lit 21), (nat_lit 22)]))))))))
(.seq (.region [
  ⟨(some (nat_lit 34)), none, .simple (.move (.tmp (nat_lit 6)))⟩,
  ⟨(some (nat_lit 6)), none, .simple (.move (.tmp (nat_lit 34)))⟩] (some [(nat_lit 6)]))
.ret))))
theorem k64 : Try.f64.body.bind (compC Try.prog G64) = some c64 := by kernel_rfl
theorem e64 : compRes Try.prog Try.f64.results.toList = some r64 := by kernel_rfl
def F64 : FunX := ⟨true, G64, c64, r64⟩
theorem o64 : FunOk Try.prog 64 F64 := ⟨Try.f64, by kernel_rfl, k64, e64, by kernel_rfl, by kernel_rfl⟩

end Go.Proofs.Ytdnefcjbcieecaa
