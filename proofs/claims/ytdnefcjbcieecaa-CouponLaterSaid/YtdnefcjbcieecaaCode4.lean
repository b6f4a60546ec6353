import Derived.Test.YtdnefcjbcieecaaCoreX
import Derived.Test.YtdnefcjbcieecaaProg
import Derived.KernelRfl
namespace Go.Proofs.Ytdnefcjbcieecaa
open Go Go.Proofs

/-! 109: (contango/coupon.Company).split$1; parameters 1, captured 1 -/
def G109 : Cfg := ⟨[], [((nat_lit 0), [(nat_lit 1), (nat_lit 2)]), ((nat_lit 1), [(nat_lit 1), (nat_lit 2), (nat_lit 4)]), ((nat_lit 2), [(nat_lit 4)]), ((nat_lit 3), [(nat_lit 3)])], (nat_lit 23), []⟩
def r109 : List CRes := [.tmp (nat_lit 3)]
def c109 : CCode :=
(.seq (.region [
  ⟨(some (nat_lit 2)), none, .simple (.box false (.tmp (nat_lit 0)))⟩,
  ⟨(some (nat_lit 3)), none, .simple (.move (.const (.bool false)))⟩] (some [(nat_lit 1), (nat_lit 2)]))
(.seq (.region [
  ⟨(some (nat_lit 5)), none, .simple (.fieldAddr (nat_lit 0) (.tmp (nat_lit 2)))⟩,
  ⟨(some (nat_lit 6)), none, .simple (.load none (.tmp (nat_lit 5)))⟩,
  ⟨(some (nat_lit 7)), none, .simple (.load none (.tmp (nat_lit 1)))⟩,
  ⟨(some (nat_lit 8)), none, .simple (.bin .add (.tmp (nat_lit 7)) (.const (.int .i64 (.ofNat (nat_lit 1)))))⟩,
  ⟨(some (nat_lit 9)), none, .call (.func (nat_lit 71)) [(.tmp (nat_lit 6)), (.tmp (nat_lit 8)), (.const (.int .i64 (.ofNat (nat_lit 11))))]⟩,
  ⟨(some (nat_lit 10)), none, .simple (.move (.tmp (nat_lit 9)))⟩,
  ⟨(some (nat_lit 11)), (some ((nat_lit 10), true)), .simple (.fieldAddr (nat_lit 1) (.tmp (nat_lit 2)))⟩,
  ⟨(some (nat_lit 12)), (some ((nat_lit 10), true)), .simple (.load none (.tmp (nat_lit 11)))⟩,
  ⟨(some (nat_lit 13)), (some ((nat_lit 10), true)), .call (.func (nat_lit 71)) [(.tmp (nat_lit 12)), (.const (.int .i64 (.ofNat (nat_lit 1)))), (.const (.int .i64 (.ofNat (nat_lit 6))))]⟩,
  ⟨(some (nat_lit 14)), none, .simple (.pick (.tmp (nat_lit 10)) (.tmp (nat_lit 13)) (.const (.bool false)))⟩,
  ⟨(some (nat_lit 15)), none, .simple (.move (.tmp (nat_lit 14)))⟩,
  ⟨(some (nat_lit 16)), (some ((nat_lit 15), true)), .simple (.fieldAddr (nat_lit 2) (.tmp (nat_lit 2)))⟩,
  ⟨(some (nat_lit 17)), (some ((nat_lit 15), true)), .simple (.load none (.tmp (nat_lit 16)))⟩,
  ⟨(some (nat_lit 18)), (some ((nat_lit 15), true)), .call (.func (nat_lit 71)) [(.tmp (nat_lit 17)), (.const (.int .i64 (.ofNat (nat_lit 1)))), (.const (.int .i64 (.ofNat (nat_lit 4))))]⟩,
  ⟨(some (nat_lit 19)), none, .simple (.pick (.tmp (nat_lit 15)) (.tmp (nat_lit 18)) (.const (.bool false)))⟩,
  ⟨(some (nat_lit 4)), none, .simple (.move (.tmp (nat_lit 19)))⟩] (some [(nat_lit 1), (nat_lit 2), (nat_lit 4)]))
(.seq (.region [
  ⟨(some (nat_lit 20)), none, .simple (.fieldAddr (nat_lit 0) (.tmp (nat_lit 2)))⟩,
  ⟨(some (nat_lit 21)), none, .simple (.load none (.tmp (nat_lit 20)))⟩,
  ⟨none, none, .simple (.store (nat_lit 1) (.tmp (nat_lit 1)) (.tmp (nat_lit 21)))⟩] (some [(nat_lit 4)]))
(.seq (.region [
  ⟨(some (nat_lit 22)), none, .simple (.move (.tmp (nat_lit 4)))⟩,
  ⟨(some (nat_lit 3)), none, .simple (.move (.tmp (nat_lit 22)))⟩] (some [(nat_lit 3)]))
.ret))))
theorem k109 : Try.f109.body.bind (compC Try.prog G109) = some c109 := by kernel_rfl
theorem e109 : compRes Try.prog Try.f109.results.toList = some r109 := by kernel_rfl
def F109 : FunX := ⟨false, G109, c109, r109⟩
theorem o109 : FunOk Try.prog 109 F109 := ⟨Try.f109, by kernel_rfl, k109, e109, by kernel_rfl, by kernel_rfl⟩

/-! 110: contango/coupon.all[contango/coupon.Range]$1; parameters 1, captured 1 -/
def G110 : Cfg := ⟨[], [((nat_lit 0), [(nat_lit 1), (nat_lit 2)]), ((nat_lit 1), [(nat_lit 3)])], (nat_lit 8), []⟩
def r110 : List CRes := [.tmp (nat_lit 3)]
def c110 : CCode :=
(.seq (.region [
  ⟨(some (nat_lit 2)), none, .simple (.box false (.tmp (nat_lit 0)))⟩,
  ⟨(some (nat_lit 3)), none, .simple (.move (.const (.bool false)))⟩] (some [(nat_lit 1), (nat_lit 2)]))
(.seq (.region [
  ⟨(some (nat_lit 4)), none, .simple (.load none (.tmp (nat_lit 1)))⟩,
  ⟨(some (nat_lit 5)), none, .simple (.load (some (nat_lit 2)) (.tmp (nat_lit 2)))⟩,
  ⟨(some (nat_lit 6)), none, .call (.tmp (nat_lit 4)) [(.tmp (nat_lit 5))]⟩,
  ⟨(some (nat_lit 7)), none, .simple (.un .not (.tmp (nat_lit 6)))⟩,
  ⟨(some (nat_lit 3)), none, .simple (.move (.tmp (nat_lit 7)))⟩] (some [(nat_lit 3)]))
.ret))
theorem k110 : Try.f110.body.bind (compC Try.prog G110) = some c110 := by kernel_rfl
theorem e110 : compRes Try.prog Try.f110.results.toList = some r110 := by kernel_rfl
def F110 : FunX := ⟨false, G110, c110, r110⟩
theorem o110 : FunOk Try.prog 110 F110 := ⟨Try.f110, by kernel_rfl, k110, e110, by kernel_rfl, by kernel_rfl⟩

/-! 111: (*contango/coupon.work).truths$1; parameters 1, captured 1 -/
def G111 : Cfg := ⟨[(nat_lit 3), (nat_lit 2), (nat_lit 4)], [((nat_lit 0), [(nat_lit 1), (nat_lit 2)]), ((nat_lit 1), [(nat_lit 1), (nat_lit 2), (nat_lit 3)]), ((nat_lit 2), [(nat_lit 1), (nat_lit 2), (nat_lit 3), (nat_lit 4)]), ((nat_lit 3), [(nat_lit 4)]), ((nat_lit 4), [])], (nat_lit 8), []⟩
def r111 : List CRes := []
def c111 : CCode :=
(.seq (.region [
  ⟨(some (nat_lit 2)), none, .simple (.box true (.tmp (nat_lit 0)))⟩] (some [(nat_lit 1), (nat_lit 2)]))
(.seq (.region [
  ⟨(some (nat_lit 3)), none, .simple (.alloc [(.d .nils), (.d .nils)])⟩] (some [(nat_lit 1), (nat_lit 2), (nat_lit 3)]))
(.seq (.region [
  ⟨(some (nat_lit 4)), none, .simple (.alloc [(.d .nilf)])⟩] (some [(nat_lit 1), (nat_lit 2), (nat_lit 3), (nat_lit 4)]))
(.seq (.region [
  ⟨(some (nat_lit 5)), none, .simple (.mkfn (.func (nat_lit 112)) [] [(.tmp (nat_lit 1)), (.tmp (nat_lit 3)), (.tmp (nat_lit 2)), (.tmp (nat_lit 4))])⟩,
  ⟨none, none, .simple (.store (nat_lit 1) (.tmp (nat_lit 4)) (.tmp (nat_lit 5)))⟩] (some [(nat_lit 4)]))
(.region [
  ⟨(some (nat_lit 6)), none, .simple (.load none (.tmp (nat_lit 4)))⟩,
  ⟨(some (nat_lit 7)), none, .call (.tmp (nat_lit 6)) [(.const (.int .i64 (.ofNat (nat_lit 0))))]⟩] (some []))))))
theorem k111 : Try.f111.body.bind (compC Try.prog G111) = some c111 := by kernel_rfl
theorem e111 : compRes Try.prog Try.f111.results.toList = some r111 := by kernel_rfl
def F111 : FunX := ⟨false, G111, c111, r111⟩
theorem o111 : FunOk Try.prog 111 F111 := ⟨Try.f111, by kernel_rfl, k111, e111, by kernel_rfl, by kernel_rfl⟩

/-! 112: (*contango/coupon.work).truths$1$1; parameters 1, captured 4 -/
def G112 : Cfg := ⟨[(nat_lit 7)], [((nat_lit 0), [(nat_lit 0), (nat_lit 1), (nat_lit 2), (nat_lit 3), (nat_lit 4)]), ((nat_lit 1), [(nat_lit 0), (nat_lit 1), (nat_lit 2), (nat_lit 3), (nat_lit 4), (nat_lit 19)]), ((nat_lit 2), [(nat_lit 6)]), ((nat_lit 3), [(nat_lit 0), (nat_lit 2), (nat_lit 4), (nat_lit 7)]), ((nat_lit 4), [(nat_lit 0), (nat_lit 2), (nat_lit 4), (nat_lit 7), (nat_lit 8), (nat_lit 9)]), ((nat_lit 5), [(nat_lit 0), (nat_lit 2), (nat_lit 4), (nat_lit 7), (nat_lit 8), (nat_lit 9), (nat_lit 10)]), ((nat_lit 6), [(nat_lit 0), (nat_lit 2), (nat_lit 4), (nat_lit 7), (nat_lit 8), (nat_lit 9), (nat_lit 10), (nat_lit 48)]), ((nat_lit 8), [(nat_lit 0), (nat_lit 2), (nat_lit 4), (nat_lit 7), (nat_lit 8), (nat_lit 9), (nat_lit 10), (nat_lit 11)]), ((nat_lit 9), [(nat_lit 0), (nat_lit 2), (nat_lit 4), (nat_lit 7), (nat_lit 8), (nat_lit 9), (nat_lit 10), (nat_lit 11), (nat_lit 60)]), ((nat_lit 11), [(nat_lit 0), (nat_lit 2), (nat_lit 4), (nat_lit 7), (nat_lit 8), (nat_lit 9), (nat_lit 10), (nat_lit 11)]), ((nat_lit 12), [(nat_lit 0), (nat_lit 2), (nat_lit 4), (nat_lit 7), (nat_lit 8), (nat_lit 9), (nat_lit 10), (nat_lit 11), (nat_lit 83)]), ((nat_lit 13), [(nat_lit 6)]), ((nat_lit 10), [(nat_lit 0), (nat_lit 2), (nat_lit 4), (nat_lit 7), (nat_lit 8), (nat_lit 9), (nat_lit 10), (nat_lit 11)]), ((nat_lit 7), [(nat_lit 0), (nat_lit 2), (nat_lit 4), (nat_lit 7), (nat_lit 8), (nat_lit 9), (nat_lit 10)]), ((nat_lit 14), [(nat_lit 6)])], (nat_lit 84), []⟩
def r112 : List CRes := [.tmp (nat_lit 6)]
def c112 : CCode :=
(.seq (.region [
  ⟨(some (nat_lit 6)), none, .simple (.move (.const (.bool false)))⟩] (some [(nat_lit 0), (nat_lit 1), (nat_lit 2), (nat_lit 3), (nat_lit 4)]))
(.seq (.seq (.region [
  ⟨(some (nat_lit 12)), none, .simple (.move (.tmp (nat_lit 0)))⟩,
  ⟨(some (nat_lit 13)), none, .simple (.load none (.tmp (nat_lit 1)))⟩,
  ⟨(some (nat_lit 14)), none, .simple (.nilCheck (.tmp (nat_lit 13)))⟩,
  ⟨(some (nat_lit 15)), none, .simple (.fieldAddr (nat_lit 0) (.tmp (nat_lit 14)))⟩,
  ⟨(some (nat_lit 16)), none, .simple (.fieldAddr (nat_lit 2) (.tmp (nat_lit 15)))⟩,
  ⟨(some (nat_lit 17)), none, .simple (.load none (.tmp (nat_lit 16)))⟩,
  ⟨(some (nat_lit 18)), none, .simple (.len (.tmp (nat_lit 17)))⟩,
  ⟨(some (nat_lit 19)), none, .simple (.bin .eql (.tmp (nat_lit 12)) (.tmp (nat_lit 18)))⟩] (some [(nat_lit 0), (nat_lit 1), (nat_lit 2), (nat_lit 3), (nat_lit 4), (nat_lit 19)]))
(.cond (.tmp (nat_lit 19))
 (.seq (.region [
   ⟨(some (nat_lit 20)), none, .simple (.load none (.tmp (nat_lit 1)))⟩,
   ⟨(some (nat_lit 21)), none, .simple (.load (some (nat_lit 2)) (.tmp (nat_lit 2)))⟩,
   ⟨(some (nat_lit 22)), none, .call (.func (nat_lit 93)) [(.tmp (nat_lit 20)), (.tmp (nat_lit 21))]⟩,
   ⟨(some (nat_lit 23)), none, .simple (.un .not (.tmp (nat_lit 22)))⟩,
   ⟨(some (nat_lit 24)), none, .simple (.move (.tmp (nat_lit 23)))⟩,
   ⟨(some (nat_lit 25)), (some ((nat_lit 24), false)), .simple (.load none (.tmp (nat_lit 3)))⟩,
   ⟨(some (nat_lit 26)), (some ((nat_lit 24), false)), .simple (.load (some (nat_lit 2)) (.tmp (nat_lit 2)))⟩,
   ⟨(some (nat_lit 27)), (some ((nat_lit 24), false)), .call (.tmp (nat_lit 25)) [(.tmp (nat_lit 26))]⟩,
   ⟨(some (nat_lit 28)), none, .simple (.pick (.tmp (nat_lit 24)) (.const (.bool true)) (.tmp (nat_lit 27)))⟩,
   ⟨(some (nat_lit 6)), none, .simple (.move (.tmp (nat_lit 28)))⟩] (some [(nat_lit 6)]))
 .ret)
 .skip))
(.seq (.region [
  ⟨(some (nat_lit 29)), none, .simple (.load none (.tmp (nat_lit 1)))⟩,
  ⟨(some (nat_lit 30)), none, .simple (.nilCheck (.tmp (nat_lit 29)))⟩,
  ⟨(some (nat_lit 31)), none, .simple (.fieldAddr (nat_lit 0) (.tmp (nat_lit 30)))⟩,
  ⟨(some (nat_lit 32)), none, .simple (.fieldAddr (nat_lit 2) (.tmp (nat_lit 31)))⟩,
  ⟨(some (nat_lit 33)), none, .simple (.load none (.tmp (nat_lit 32)))⟩,
  ⟨(some (nat_lit 34)), none, .simple (.move (.tmp (nat_lit 0)))⟩,
  ⟨(some (nat_lit 35)), none, .simple (.indexS (nat_lit 7) (.tmp (nat_lit 33)) (.tmp (nat_lit 34)))⟩,
  ⟨(some (nat_lit 36)), none, .simple (.load (some (nat_lit 7)) (.tmp (nat_lit 35)))⟩,
  ⟨(some (nat_lit 7)), none, .simple (.alloc [(.d (.int .i64 (.ofNat (nat_lit 0)))), (.d (.int .i64 (.ofNat (nat_lit 0)))), (.d (.int .i64 (.ofNat (nat_lit 0)))), (.d (.int .i64 (.ofNat (nat_lit 0)))), (.d (.int .i64 (.ofNat (nat_lit 0)))), (.d (.int .i64 (.ofNat (nat_lit 0)))), (.d (.int .i64 (.ofNat (nat_lit 0))))])⟩,
  ⟨none, none, .simple (.store (nat_lit 7) (.tmp (nat_lit 7)) (.tmp (nat_lit 36)))⟩] (some [(nat_lit 0), (nat_lit 2), (nat_lit 4), (nat_lit 7)]))
(.seq (.region [
  ⟨(some (nat_lit 37)), none, .simple (.fieldAddr (nat_lit 0) (.tmp (nat_lit 2)))⟩,
  ⟨(some (nat_lit 38)), none, .simple (.load none (.tmp (nat_lit 37)))⟩,
  ⟨(some (nat_lit 39)), none, .simple (.fieldAddr (nat_lit 1) (.tmp (nat_lit 2)))⟩,
  ⟨(some (nat_lit 40)), none, .simple (.load none (.tmp (nat_lit 39)))⟩,
  ⟨(some (nat_lit 8)), none, .simple (.move (.tmp (nat_lit 38)))⟩,
  ⟨(some (nat_lit 9)), none, .simple (.move (.tmp (nat_lit 40)))⟩] (some [(nat_lit 0), (nat_lit 2), (nat_lit 4), (nat_lit 7), (nat_lit 8), (nat_lit 9)]))
(.seq (.seq (.region [
  ⟨(some (nat_lit 41)), none, .simple (.fieldAddr (nat_lit 3) (.tmp (nat_lit 7)))⟩,
  ⟨(some (nat_lit 42)), none, .simple (.fieldAddr (nat_lit 0) (.tmp (nat_lit 41)))⟩,
  ⟨(some (nat_lit 43)), none, .simple (.load none (.tmp (nat_lit 42)))⟩,
  ⟨(some (nat_lit 10)), none, .simple (.move (.tmp (nat_lit 43)))⟩] (some [(nat_lit 0), (nat_lit 2), (nat_lit 4), (nat_lit 7), (nat_lit 8), (nat_lit 9), (nat_lit 10)]))
(.block (nat_lit 0) (.loop (.seq (.seq (.region [
    ⟨(some (nat_lit 44)), none, .simple (.move (.tmp (nat_lit 10)))⟩,
    ⟨(some (nat_lit 45)), none, .simple (.fieldAddr (nat_lit 3) (.tmp (nat_lit 7)))⟩,
    ⟨(some (nat_lit 46)), none, .simple (.fieldAddr (nat_lit 1) (.tmp (nat_lit 45)))⟩,
    ⟨(some (nat_lit 47)), none, .simple (.load none (.tmp (nat_lit 46)))⟩,
    ⟨(some (nat_lit 48)), none, .simple (.bin .leq (.tmp (nat_lit 44)) (.tmp (nat_lit 47)))⟩] (some [(nat_lit 0), (nat_lit 2), (nat_lit 4), (nat_lit 7), (nat_lit 8), (nat_lit 9), (nat_lit 10), (nat_lit 48)]))
  (.cond (.tmp (nat_lit 48))
   .skip
   (.exit (nat_lit 0))))
  (.seq (.block (nat_lit 1) (.seq (.region [
     ⟨(some (nat_lit 51)), none, .simple (.move (.tmp (nat_lit 10)))⟩,
     ⟨(some (nat_lit 52)), none, .simple (.fieldAddr (nat_lit 5) (.tmp (nat_lit 7)))⟩,
     ⟨(some (nat_lit 53)), none, .simple (.fieldAddr (nat_lit 0) (.tmp (nat_lit 52)))⟩,
     ⟨(some (nat_lit 54)), none, .simple (.load none (.tmp (nat_lit 53)))⟩,
     ⟨(some (nat_lit 55)), none, .simple (.max [(.tmp (nat_lit 51)), (.tmp (nat_lit 54))])⟩,
     ⟨(some (nat_lit 11)), none, .simple (.move (.tmp (nat_lit 55)))⟩] (some [(nat_lit 0), (nat_lit 2), (nat_lit 4), (nat_lit 7), (nat_lit 8), (nat_lit 9), (nat_lit 10), (nat_lit 11)]))
   (.block (nat_lit 2) (.loop (.seq (.seq (.region [
       ⟨(some (nat_lit 56)), none, .simple (.move (.tmp (nat_lit 11)))⟩,
       ⟨(some (nat_lit 57)), none, .simple (.fieldAddr (nat_lit 5) (.tmp (nat_lit 7)))⟩,
       ⟨(some (nat_lit 58)), none, .simple (.fieldAddr (nat_lit 1) (.tmp (nat_lit 57)))⟩,
       ⟨(some (nat_lit 59)), none, .simple (.load none (.tmp (nat_lit 58)))⟩,
       ⟨(some (nat_lit 60)), none, .simple (.bin .leq (.tmp (nat_lit 56)) (.tmp (nat_lit 59)))⟩] (some [(nat_lit 0), (nat_lit 2), (nat_lit 4), (nat_lit 7), (nat_lit 8), (nat_lit 9), (nat_lit 10), (nat_lit 11), (nat_lit 60)]))
     (.cond (.tmp (nat_lit 60))
      .skip
      (.exit (nat_lit 2))))
     (.seq (.block (nat_lit 3) (.seq (.region [
        ⟨(some (nat_lit 63)), none, .simple (.move (.tmp (nat_lit 8)))⟩,
        ⟨(some (nat_lit 64)), none, .simple (.move (.tmp (nat_lit 0)))⟩,
        ⟨(some (nat_lit 65)), none, .simple (.move (.tmp (nat_lit 0)))⟩,
        ⟨(some (nat_lit 66)), none, .simple (.sliceS (nat_lit 1) (.tmp (nat_lit 63)) none (some (.tmp (nat_lit 64))) (some (.tmp (nat_lit 65))))⟩,
        ⟨(some (nat_lit 67)), none, .simple (.move (.tmp (nat_lit 10)))⟩,
        ⟨(some (nat_lit 68)), none, .simple (.bslice false (nat_lit 3) (nat_lit 1) (nat_lit 1) [(.int .i64 (.ofNat (nat_lit 0)))] [((nat_lit 0), (.tmp (nat_lit 67)))])⟩,
        ⟨(some (nat_lit 69)), none, .simple (.append false (nat_lit 3) (nat_lit 1) (nat_lit 8) (.tmp (nat_lit 66)) (.tmp (nat_lit 68)))⟩,
        ⟨(some (nat_lit 70)), none, .simple (.move (.tmp (nat_lit 9)))⟩,
        ⟨(some (nat_lit 71)), none, .simple (.move (.tmp (nat_lit 0)))⟩,
        ⟨(some (nat_lit 72)), none, .simple (.move (.tmp (nat_lit 0)))⟩,
        ⟨(some (nat_lit 73)), none, .simple (.sliceS (nat_lit 1) (.tmp (nat_lit 70)) none (some (.tmp (nat_lit 71))) (some (.tmp (nat_lit 72))))⟩,
        ⟨(some (nat_lit 74)), none, .simple (.move (.tmp (nat_lit 11)))⟩,
        ⟨(some (nat_lit 75)), none, .simple (.bslice false (nat_lit 3) (nat_lit 1) (nat_lit 1) [(.int .i64 (.ofNat (nat_lit 0)))] [((nat_lit 0), (.tmp (nat_lit 74)))])⟩,
        ⟨(some (nat_lit 76)), none, .simple (.append false (nat_lit 3) (nat_lit 1) (nat_lit 8) (.tmp (nat_lit 73)) (.tmp (nat_lit 75)))⟩,
        ⟨(some (nat_lit 77)), none, .simple (.fieldAddr (nat_lit 0) (.tmp (nat_lit 2)))⟩,
        ⟨none, none, .simple (.store (nat_lit 1) (.tmp (nat_lit 77)) (.tmp (nat_lit 69)))⟩,
        ⟨(some (nat_lit 78)), none, .simple (.fieldAddr (nat_lit 1) (.tmp (nat_lit 2)))⟩,
        ⟨none, none, .simple (.store (nat_lit 1) (.tmp (nat_lit 78)) (.tmp (nat_lit 76)))⟩] (some [(nat_lit 0), (nat_lit 2), (nat_lit 4), (nat_lit 7), (nat_lit 8), (nat_lit 9), (nat_lit 10), (nat_lit 11)]))
      (.seq (.region [
        ⟨(some (nat_lit 79)), none, .simple (.load none (.tmp (nat_lit 4)))⟩,
        ⟨(some (nat_lit 80)), none, .simple (.move (.tmp (nat_lit 0)))⟩,
        ⟨(some (nat_lit 81)), none, .simple (.bin .add (.tmp (nat_lit 80)) (.const (.int .i64 (.ofNat (nat_lit 1)))))⟩,
        ⟨(some (nat_lit 82)), none, .call (.tmp (nat_lit 79)) [(.tmp (nat_lit 81))]⟩,
        ⟨(some (nat_lit 83)), none, .simple (.un .not (.tmp (nat_lit 82)))⟩] (some [(nat_lit 0), (nat_lit 2), (nat_lit 4), (nat_lit 7), (nat_lit 8), (nat_lit 9), (nat_lit 10), (nat_lit 11), (nat_lit 83)]))
      (.cond (.tmp (nat_lit 83))
       (.seq (.region [
         ⟨(some (nat_lit 6)), none, .simple (.move (.const (.bool false)))⟩] (some [(nat_lit 6)]))
       .ret)
       .skip))))
     (.region [
       ⟨(some (nat_lit 61)), none, .simple (.move (.tmp (nat_lit 11)))⟩,
       ⟨(some (nat_lit 62)), none, .simple (.bin .add (.tmp (nat_lit 61)) (.const (.int .i64 (.ofNat (nat_lit 1)))))⟩,
       ⟨(some (nat_lit 11)), none, .simple (.move (.tmp (nat_lit 62)))⟩] (some [(nat_lit 0), (nat_lit 2), (nat_lit 4), (nat_lit 7), (nat_lit 8), (nat_lit 9), (nat_lit 10), (nat_lit 11)]))))))))
  (.region [
    ⟨(some (nat_lit 49)), none, .simple (.move (.tmp (nat_lit 10)))⟩,
    ⟨(some (nat_lit 50)), none, .simple (.bin .add (.tmp (nat_lit 49)) (.const (.int .i64 (.ofNat (nat_lit 1)))))⟩,
    ⟨(some (nat_lit 10)), none, .simple (.move (.tmp (nat_lit 50)))⟩] (some [(nat_lit 0), (nat_lit 2), (nat_lit 4), (nat_lit 7), (nat_lit 8), (nat_lit 9), (nat_lit 10)])))))))
(.seq (.region [
  ⟨(some (nat_lit 6)), none, .simple (.move (.const (.bool true)))⟩] (some [(nat_lit 6)]))
.ret))))))
theorem k112 : Try.f112.body.bind (compC Try.prog G112) = some c112 := by kernel_rfl
theorem e112 : compRes Try.prog Try.f112.results.toList = some r112 := by kernel_rfl
def F112 : FunX := ⟨false, G112, c112, r112⟩
theorem o112 : FunOk Try.prog 112 F112 := ⟨Try.f112, by kernel_rfl, k112, e112, by kernel_rfl, by kernel_rfl⟩

/-! 113: slices.Min[[]int,int]; parameters 1, captured 0 -/
def G113 : Cfg := ⟨[], [((nat_lit 0), [(nat_lit 0)]), ((nat_lit 1), [(nat_lit 0), (nat_lit 7)]), ((nat_lit 2), [(nat_lit 0)]), ((nat_lit 3), [(nat_lit 0), (nat_lit 3)]), ((nat_lit 4), [(nat_lit 0), (nat_lit 3), (nat_lit 4)]), ((nat_lit 5), [(nat_lit 0), (nat_lit 3), (nat_lit 4), (nat_lit 15)]), ((nat_lit 7), [(nat_lit 0), (nat_lit 3), (nat_lit 4)]), ((nat_lit 6), [(nat_lit 0), (nat_lit 3), (nat_lit 4)]), ((nat_lit 8), [(nat_lit 2)])], (nat_lit 25), []⟩
-- BAD 113 region 2 at sort.go:67: other op
def r113 : List CRes := [.tmp (nat_lit 2)]
def c113 : CCode :=
(.seq (.region [
  ⟨(some (nat_lit 2)), none, .simple (.move (.const (.int .i64 (.ofNat (nat_lit 0)))))⟩] (some [(nat_lit 0)]))
(.seq (.seq (.region [
  ⟨(some (nat_lit 5)), none, .simple (.move (.tmp (nat_lit 0)))⟩,
  ⟨(some (nat_lit 6)), none, .simple (.len (.tmp (nat_lit 5)))⟩,
  ⟨(some (nat_lit 7)), none, .simple (.bin .lss (.tmp (nat_lit 6)) (.const (.int .i64 (.ofNat (nat_lit 1)))))⟩] (some [(nat_lit 0), (nat_lit 7)]))
(.cond (.tmp (nat_lit 7))
 (.region [
   ⟨(some (nat_lit 8)), none, .simple (.bad)⟩,
   ⟨none, none, .simple (.panic (.tmp (nat_lit 8)))⟩] (some [(nat_lit 0)]))
 .skip))
(.seq (.region [
  ⟨(some (nat_lit 9)), none, .simple (.move (.tmp (nat_lit 0)))⟩,
  ⟨(some (nat_lit 10)), none, .simple (.indexS (nat_lit 1) (.tmp (nat_lit 9)) (.const (.int .i64 (.ofNat (nat_lit 0)))))⟩,
  ⟨(some (nat_lit 11)), none, .simple (.load none (.tmp (nat_lit 10)))⟩,
  ⟨(some (nat_lit 3)), none, .simple (.move (.tmp (nat_lit 11)))⟩] (some [(nat_lit 0), (nat_lit 3)]))
(.seq (.seq (.region [
  ⟨(some (nat_lit 4)), none, .simple (.move (.const (.int .i64 (.ofNat (nat_lit 1)))))⟩] (some [(nat_lit 0), (nat_lit 3), (nat_lit 4)]))
(.block (nat_lit 0) (.loop (.seq (.seq (.region [
    ⟨(some (nat_lit 12)), none, .simple (.move (.tmp (nat_lit 4)))⟩,
    ⟨(some (nat_lit 13)), none, .simple (.move (.tmp (nat_lit 0)))⟩,
    ⟨(some (nat_lit 14)), none, .simple (.len (.tmp (nat_lit 13)))⟩,
    ⟨(some (nat_lit 15)), none, .simple (.bin .lss (.tmp (nat_lit 12)) (.tmp (nat_lit 14)))⟩] (some [(nat_lit 0), (nat_lit 3), (nat_lit 4), (nat_lit 15)]))
  (.cond (.tmp (nat_lit 15))
   .skip
   (.exit (nat_lit 0))))
  (.seq (.block (nat_lit 1) (.region [
     ⟨(some (nat_lit 18)), none, .simple (.move (.tmp (nat_lit 3)))⟩,
     ⟨(some (nat_lit 19)), none, .simple (.move (.tmp (nat_lit 0)))⟩,
     ⟨(some (nat_lit 20)), none, .simple (.move (.tmp (nat_lit 4)))⟩,
     ⟨(some (nat_lit 21)), none, .simple (.indexS (nat_lit 1) (.tmp (nat_lit 19)) (.tmp (nat_lit 20)))⟩,
     ⟨(some (nat_lit 22)), none, .simple (.load none (.tmp (nat_lit 21)))⟩,
     ⟨(some (nat_lit 23)), none, .simple (.min [(.tmp (nat_lit 18)), (.tmp (nat_lit 22))])⟩,
     ⟨(some (nat_lit 3)), none, .simple (.move (.tmp (nat_lit 23)))⟩] (some [(nat_lit 0), (nat_lit 3), (nat_lit 4)])))
  (.region [
    ⟨(some (nat_lit 16)), none, .simple (.move (.tmp (nat_lit 4)))⟩,
    ⟨(some (nat_lit 17)), none, .simple (.bin .add (.tmp (nat_lit 16)) (.const (.int .i64 (.ofNat (nat_lit 1)))))⟩,
    ⟨(some (nat_lit 4)), none, .simple (.move (.tmp (nat_lit 17)))⟩] (some [(nat_lit 0), (nat_lit 3), (nat_lit 4)])))))))
(.seq (.region [
  ⟨(some (nat_lit 24)), none, .simple (.move (.tmp (nat_lit 3)))⟩,
  ⟨(some (nat_lit 2)), none, .simple (.move (.tmp (nat_lit 24)))⟩] (some [(nat_lit 2)]))
.ret)))))
theorem k113 : Try.f113.body.bind (compC Try.prog G113) = some c113 := by kernel_rfl
theorem e113 : compRes Try.prog Try.f113.results.toList = some r113 := by kernel_rfl
def F113 : FunX := ⟨false, G113, c113, r113⟩
theorem o113 : FunOk Try.prog 113 F113 := ⟨Try.f113, by kernel_rfl, k113, e113, by kernel_rfl, by kernel_rfl⟩

/-! 114: slices.IndexFunc[[]contango/coupon.Range,contango/coupon.Range]; parameters 2, captured 0 -/
def G114 : Cfg := ⟨[], [((nat_lit 0), [(nat_lit 0), (nat_lit 1)]), ((nat_lit 1), [(nat_lit 0), (nat_lit 1), (nat_lit 7), (nat_lit 8)]), ((nat_lit 2), [(nat_lit 0), (nat_lit 1), (nat_lit 7), (nat_lit 8), (nat_lit 9)]), ((nat_lit 3), [(nat_lit 0), (nat_lit 1), (nat_lit 5), (nat_lit 7), (nat_lit 8)]), ((nat_lit 4), [(nat_lit 0), (nat_lit 1), (nat_lit 5), (nat_lit 7), (nat_lit 8), (nat_lit 16)]), ((nat_lit 5), [(nat_lit 4)]), ((nat_lit 6), [(nat_lit 0), (nat_lit 1), (nat_lit 7), (nat_lit 8)]), ((nat_lit 7), [(nat_lit 4)])], (nat_lit 19), []⟩
def r114 : List CRes := [.tmp (nat_lit 4)]
def c114 : CCode :=
(.seq (.region [
  ⟨(some (nat_lit 4)), none, .simple (.move (.const (.int .i64 (.ofNat (nat_lit 0)))))⟩] (some [(nat_lit 0), (nat_lit 1)]))
(.seq (.seq (.region [
  ⟨(some (nat_lit 6)), none, .simple (.move (.tmp (nat_lit 0)))⟩,
  ⟨(some (nat_lit 7)), none, .simple (.len (.tmp (nat_lit 6)))⟩,
  ⟨(some (nat_lit 8)), none, .simple (.move (.const (.int .i64 (.ofNat (nat_lit 0)))))⟩] (some [(nat_lit 0), (nat_lit 1), (nat_lit 7), (nat_lit 8)]))
(.block (nat_lit 0) (.loop (.seq (.region [
    ⟨(some (nat_lit 9)), none, .simple (.bin .lss (.tmp (nat_lit 8)) (.tmp (nat_lit 7)))⟩] (some [(nat_lit 0), (nat_lit 1), (nat_lit 7), (nat_lit 8), (nat_lit 9)]))
  (.seq (.cond (.tmp (nat_lit 9))
   .skip
   (.exit (nat_lit 0)))
  (.seq (.block (nat_lit 1) (.seq (.region [
     ⟨(some (nat_lit 10)), none, .simple (.move (.tmp (nat_lit 8)))⟩,
     ⟨(some (nat_lit 5)), none, .simple (.move (.tmp (nat_lit 10)))⟩] (some [(nat_lit 0), (nat_lit 1), (nat_lit 5), (nat_lit 7), (nat_lit 8)]))
   (.seq (.region [
     ⟨(some (nat_lit 11)), none, .simple (.move (.tmp (nat_lit 1)))⟩,
     ⟨(some (nat_lit 12)), none, .simple (.move (.tmp (nat_lit 0)))⟩,
     ⟨(some (nat_lit 13)), none, .simple (.move (.tmp (nat_lit 5)))⟩,
     ⟨(some (nat_lit 14)), none, .simple (.indexS (nat_lit 2) (.tmp (nat_lit 12)) (.tmp (nat_lit 13)))⟩,
     ⟨(some (nat_lit 15)), none, .simple (.load (some (nat_lit 2)) (.tmp (nat_lit 14)))⟩,
     ⟨(some (nat_lit 16)), none, .call (.tmp (nat_lit 11)) [(.tmp (nat_lit 15))]⟩] (some [(nat_lit 0), (nat_lit 1), (nat_lit 5), (nat_lit 7), (nat_lit 8), (nat_lit 16)]))
   (.cond (.tmp (nat_lit 16))
    (.seq (.region [
      ⟨(some (nat_lit 17)), none, .simple (.move (.tmp (nat_lit 5)))⟩,
      ⟨(some (nat_lit 4)), none, .simple (.move (.tmp (nat_lit 17)))⟩] (some [(nat_lit 4)]))
    .ret)
    .skip))))
  (.region [
    ⟨(some (nat_lit 18)), none, .simple (.bin .add (.tmp (nat_lit 8)) (.const (.int .i64 (.ofNat (nat_lit 1)))))⟩,
    ⟨(some (nat_lit 8)), none, .simple (.move (.tmp (nat_lit 18)))⟩] (some [(nat_lit 0), (nat_lit 1), (nat_lit 7), (nat_lit 8)]))))))))
(.seq (.region [
  ⟨(some (nat_lit 4)), none, .simple (.move (.const (.int .i64 (.negSucc (nat_lit 0)))))⟩] (some [(nat_lit 4)]))
.ret)))
theorem k114 : Try.f114.body.bind (compC Try.prog G114) = some c114 := by kernel_rfl
theorem e114 : compRes Try.prog Try.f114.results.toList = some r114 := by kernel_rfl
def F114 : FunX := ⟨false, G114, c114, r114⟩
theorem o114 : FunOk Try.prog 114 F114 := ⟨Try.f114, by kernel_rfl, k114, e114, by kernel_rfl, by kernel_rfl⟩

/-! 115: slices.IndexFunc[[]int,int]; parameters 2, captured 0 -/
def G115 : Cfg := ⟨[], [((nat_lit 0), [(nat_lit 0), (nat_lit 1)]), ((nat_lit 1), [(nat_lit 0), (nat_lit 1), (nat_lit 7), (nat_lit 8)]), ((nat_lit 2), [(nat_lit 0), (nat_lit 1), (nat_lit 7), (nat_lit 8), (nat_lit 9)]), ((nat_lit 3), [(nat_lit 0), (nat_lit 1), (nat_lit 5), (nat_lit 7), (nat_lit 8)]), ((nat_lit 4), [(nat_lit 0), (nat_lit 1), (nat_lit 5), (nat_lit 7), (nat_lit 8), (nat_lit 16)]), ((nat_lit 5), [(nat_lit 4)]), ((nat_lit 6), [(nat_lit 0), (nat_lit 1), (nat_lit 7), (nat_lit 8)]), ((nat_lit 7), [(nat_lit 4)])], (nat_lit 19), []⟩
def r115 : List CRes := [.tmp (nat_lit 4)]
def c115 : CCode :=
(.seq (.region [
  ⟨(some (nat_lit 4)), none, .simple (.move (.const (.int .i64 (.ofNat (nat_lit 0)))))⟩] (some [(nat_lit 0), (nat_lit 1)]))
(.seq (.seq (.region [
  ⟨(some (nat_lit 6)), none, .simple (.move (.tmp (nat_lit 0)))⟩,
  ⟨(some (nat_lit 7)), none, .simple (.len (.tmp (nat_lit 6)))⟩,
  ⟨(some (nat_lit 8)), none, .simple (.move (.const (.int .i64 (.ofNat (nat_lit 0)))))⟩] (some [(nat_lit 0), (nat_lit 1), (nat_lit 7), (nat_lit 8)]))
(.block (nat_lit 0) (.loop (.seq (.region [
    ⟨(some (nat_lit 9)), none, .simple (.bin .lss (.tmp (nat_lit 8)) (.tmp (nat_lit 7)))⟩] (some [(nat_lit 0), (nat_lit 1), (nat_lit 7), (nat_lit 8), (nat_lit 9)]))
  (.seq (.cond (.tmp (nat_lit 9))
   .skip
   (.exit (nat_lit 0)))
  (.seq (.block (nat_lit 1) (.seq (.region [
     ⟨(some (nat_lit 10)), none, .simple (.move (.tmp (nat_lit 8)))⟩,
     ⟨(some (nat_lit 5)), none, .simple (.move (.tmp (nat_lit 10)))⟩] (some [(nat_lit 0), (nat_lit 1), (nat_lit 5), (nat_lit 7), (nat_lit 8)]))
   (.seq (.region [
     ⟨(some (nat_lit 11)), none, .simple (.move (.tmp (nat_lit 1)))⟩,
     ⟨(some (nat_lit 12)), none, .simple (.move (.tmp (nat_lit 0)))⟩,
     ⟨(some (nat_lit 13)), none, .simple (.move (.tmp (nat_lit 5)))⟩,
     ⟨(some (nat_lit 14)), none, .simple (.indexS (nat_lit 1) (.tmp (nat_lit 12)) (.tmp (nat_lit 13)))⟩,
     ⟨(some (nat_lit 15)), none, .simple (.load none (.tmp (nat_lit 14)))⟩,
     ⟨(some (nat_lit 16)), none, .call (.tmp (nat_lit 11)) [(.tmp (nat_lit 15))]⟩] (some [(nat_lit 0), (nat_lit 1), (nat_lit 5), (nat_lit 7), (nat_lit 8), (nat_lit 16)]))
   (.cond (.tmp (nat_lit 16))
    (.seq (.region [
      ⟨(some (nat_lit 17)), none, .simple (.move (.tmp (nat_lit 5)))⟩,
      ⟨(some (nat_lit 4)), none, .simple (.move (.tmp (nat_lit 17)))⟩] (some [(nat_lit 4)]))
    .ret)
    .skip))))
  (.region [
    ⟨(some (nat_lit 18)), none, .simple (.bin .add (.tmp (nat_lit 8)) (.const (.int .i64 (.ofNat (nat_lit 1)))))⟩,
    ⟨(some (nat_lit 8)), none, .simple (.move (.tmp (nat_lit 18)))⟩] (some [(nat_lit 0), (nat_lit 1), (nat_lit 7), (nat_lit 8)]))))))))
(.seq (.region [
  ⟨(some (nat_lit 4)), none, .simple (.move (.const (.int .i64 (.negSucc (nat_lit 0)))))⟩] (some [(nat_lit 4)]))
.ret)))
theorem k115 : Try.f115.body.bind (compC Try.prog G115) = some c115 := by kernel_rfl
theorem e115 : compRes Try.prog Try.f115.results.toList = some r115 := by kernel_rfl
def F115 : FunX := ⟨false, G115, c115, r115⟩
theorem o115 : FunOk Try.prog 115 F115 := ⟨Try.f115, by kernel_rfl, k115, e115, by kernel_rfl, by kernel_rfl⟩

/-! 116: slices.IndexFunc[[]contango/coupon.Trade,contango/coupon.Trade]; parameters 2, captured 0 -/
def G116 : Cfg := ⟨[], [((nat_lit 0), [(nat_lit 0), (nat_lit 1)]), ((nat_lit 1), [(nat_lit 0), (nat_lit 1), (nat_lit 7), (nat_lit 8)]), ((nat_lit 2), [(nat_lit 0), (nat_lit 1), (nat_lit 7), (nat_lit 8), (nat_lit 9)]), ((nat_lit 3), [(nat_lit 0), (nat_lit 1), (nat_lit 5), (nat_lit 7), (nat_lit 8)]), ((nat_lit 4), [(nat_lit 0), (nat_lit 1), (nat_lit 5), (nat_lit 7), (nat_lit 8), (nat_lit 16)]), ((nat_lit 5), [(nat_lit 4)]), ((nat_lit 6), [(nat_lit 0), (nat_lit 1), (nat_lit 7), (nat_lit 8)]), ((nat_lit 7), [(nat_lit 4)])], (nat_lit 19), []⟩
def r116 : List CRes := [.tmp (nat_lit 4)]
def c116 : CCode :=
(.seq (.region [
  ⟨(some (nat_lit 4)), none, .simple (.move (.const (.int .i64 (.ofNat (nat_lit 0)))))⟩] (some [(nat_lit 0), (nat_lit 1)]))
(.seq (.seq (.region [
  ⟨(some (nat_lit 6)), none, .simple (.move (.tmp (nat_lit 0)))⟩,
  ⟨(some (nat_lit 7)), none, .simple (.len (.tmp (nat_lit 6)))⟩,
  ⟨(some (nat_lit 8)), none, .simple (.move (.const (.int .i64 (.ofNat (nat_lit 0)))))⟩] (some [(nat_lit 0), (nat_lit 1), (nat_lit 7), (nat_lit 8)]))
(.block (nat_lit 0) (.loop (.seq (.region [
    ⟨(some (nat_lit 9)), none, .simple (.bin .lss (.tmp (nat_lit 8)) (.tmp (nat_lit 7)))⟩] (some [(nat_lit 0), (nat_lit 1), (nat_lit 7), (nat_lit 8), (nat_lit 9)]))
  (.seq (.cond (.tmp (nat_lit 9))
   .skip
   (.exit (nat_lit 0)))
  (.seq (.block (nat_lit 1) (.seq (.region [
     ⟨(some (nat_lit 10)), none, .simple (.move (.tmp (nat_lit 8)))⟩,
     ⟨(some (nat_lit 5)), none, .simple (.move (.tmp (nat_lit 10)))⟩] (some [(nat_lit 0), (nat_lit 1), (nat_lit 5), (nat_lit 7), (nat_lit 8)]))
   (.seq (.region [
     ⟨(some (nat_lit 11)), none, .simple (.move (.tmp (nat_lit 1)))⟩,
     ⟨(some (nat_lit 12)), none, .simple (.move (.tmp (nat_lit 0)))⟩,
     ⟨(some (nat_lit 13)), none, .simple (.move (.tmp (nat_lit 5)))⟩,
     ⟨(some (nat_lit 14)), none, .simple (.indexS (nat_lit 7) (.tmp (nat_lit 12)) (.tmp (nat_lit 13)))⟩,
     ⟨(some (nat_lit 15)), none, .simple (.load (some (nat_lit 7)) (.tmp (nat_lit 14)))⟩,
     ⟨(some (nat_lit 16)), none, .call (.tmp (nat_lit 11)) [(.tmp (nat_lit 15))]⟩] (some [(nat_lit 0), (nat_lit 1), (nat_lit 5), (nat_lit 7), (nat_lit 8), (nat_lit 16)]))
   (.cond (.tmp (nat_lit 16))
    (.seq (.region [
      ⟨(some (nat_lit 17)), none, .simple (.move (.tmp (nat_lit 5)))⟩,
      ⟨(some (nat_lit 4)), none, .simple (.move (.tmp (nat_lit 17)))⟩] (some [(nat_lit 4)]))
    .ret)
    .skip))))
  (.region [
    ⟨(some (nat_lit 18)), none, .simple (.bin .add (.tmp (nat_lit 8)) (.const (.int .i64 (.ofNat (nat_lit 1)))))⟩,
    ⟨(some (nat_lit 8)), none, .simple (.move (.tmp (nat_lit 18)))⟩] (some [(nat_lit 0), (nat_lit 1), (nat_lit 7), (nat_lit 8)]))))))))
(.seq (.region [
  ⟨(some (nat_lit 4)), none, .simple (.move (.const (.int .i64 (.negSucc (nat_lit 0)))))⟩] (some [(nat_lit 4)]))
.ret)))
theorem k116 : Try.f116.body.bind (compC Try.prog G116) = some c116 := by kernel_rfl
theorem e116 : compRes Try.prog Try.f116.results.toList = some r116 := by kernel_rfl
def F116 : FunX := ⟨false, G116, c116, r116⟩
theorem o116 : FunOk Try.prog 116 F116 := ⟨Try.f116, by kernel_rfl, k116, e116, by kernel_rfl, by kernel_rfl⟩

/-! 117: slices.IndexFunc[[]contango/coupon.Dividend,contango/coupon.Dividend]; parameters 2, captured 0 -/
def G117 : Cfg := ⟨[], [((nat_lit 0), [(nat_lit 0), (nat_lit 1)]), ((nat_lit 1), [(nat_lit 0), (nat_lit 1), (nat_lit 7), (nat_lit 8)]), ((nat_lit 2), [(nat_lit 0), (nat_lit 1), (nat_lit 7), (nat_lit 8), (nat_lit 9)]), ((nat_lit 3), [(nat_lit 0), (nat_lit 1), (nat_lit 5), (nat_lit 7), (nat_lit 8)]), ((nat_lit 4), [(nat_lit 0), (nat_lit 1), (nat_lit 5), (nat_lit 7), (nat_lit 8), (nat_lit 16)]), ((nat_lit 5), [(nat_lit 4)]), ((nat_lit 6), [(nat_lit 0), (nat_lit 1), (nat_lit 7), (nat_lit 8)]), ((nat_lit 7), [(nat_lit 4)])], (nat_lit 19), []⟩
def r117 : List CRes := [.tmp (nat_lit 4)]
def c117 : CCode :=
(.seq (.region [
  ⟨(some (nat_lit 4)), none, .simple (.move (.const (.int .i64 (.ofNat (nat_lit 0)))))⟩] (some [(nat_lit 0), (nat_lit 1)]))
(.seq (.seq (.region [
  ⟨(some (nat_lit 6)), none, .simple (.move (.tmp (nat_lit 0)))⟩,
  ⟨(some (nat_lit 7)), none, .simple (.len (.tmp (nat_lit 6)))⟩,
  ⟨(some (nat_lit 8)), none, .simple (.move (.const (.int .i64 (.ofNat (nat_lit 0)))))⟩] (some [(nat_lit 0), (nat_lit 1), (nat_lit 7), (nat_lit 8)]))
(.block (nat_lit 0) (.loop (.seq (.region [
    ⟨(some (nat_lit 9)), none, .simple (.bin .lss (.tmp (nat_lit 8)) (.tmp (nat_lit 7)))⟩] (some [(nat_lit 0), (nat_lit 1), (nat_lit 7), (nat_lit 8), (nat_lit 9)]))
  (.seq (.cond (.tmp (nat_lit 9))
   .skip
   (.exit (nat_lit 0)))
  (.seq (.block (nat_lit 1) (.seq (.region [
     ⟨(some (nat_lit 10)), none, .simple (.move (.tmp (nat_lit 8)))⟩,
     ⟨(some (nat_lit 5)), none, .simple (.move (.tmp (nat_lit 10)))⟩] (some [(nat_lit 0), (nat_lit 1), (nat_lit 5), (nat_lit 7), (nat_lit 8)]))
   (.seq (.region [
     ⟨(some (nat_lit 11)), none, .simple (.move (.tmp (nat_lit 1)))⟩,
     ⟨(some (nat_lit 12)), none, .simple (.move (.tmp (nat_lit 0)))⟩,
     ⟨(some (nat_lit 13)), none, .simple (.move (.tmp (nat_lit 5)))⟩,
     ⟨(some (nat_lit 14)), none, .simple (.indexS (nat_lit 3) (.tmp (nat_lit 12)) (.tmp (nat_lit 13)))⟩,
     ⟨(some (nat_lit 15)), none, .simple (.load (some (nat_lit 3)) (.tmp (nat_lit 14)))⟩,
     ⟨(some (nat_lit 16)), none, .call (.tmp (nat_lit 11)) [(.tmp (nat_lit 15))]⟩] (some [(nat_lit 0), (nat_lit 1), (nat_lit 5), (nat_lit 7), (nat_lit 8), (nat_lit 16)]))
   (.cond (.tmp (nat_lit 16))
    (.seq (.region [
      ⟨(some (nat_lit 17)), none, .simple (.move (.tmp (nat_lit 5)))⟩,
      ⟨(some (nat_lit 4)), none, .simple (.move (.tmp (nat_lit 17)))⟩] (some [(nat_lit 4)]))
    .ret)
    .skip))))
  (.region [
    ⟨(some (nat_lit 18)), none, .simple (.bin .add (.tmp (nat_lit 8)) (.const (.int .i64 (.ofNat (nat_lit 1)))))⟩,
    ⟨(some (nat_lit 8)), none, .simple (.move (.tmp (nat_lit 18)))⟩] (some [(nat_lit 0), (nat_lit 1), (nat_lit 7), (nat_lit 8)]))))))))
(.seq (.region [
  ⟨(some (nat_lit 4)), none, .simple (.move (.const (.int .i64 (.negSucc (nat_lit 0)))))⟩] (some [(nat_lit 4)]))
.ret)))
theorem k117 : Try.f117.body.bind (compC Try.prog G117) = some c117 := by kernel_rfl
theorem e117 : compRes Try.prog Try.f117.results.toList = some r117 := by kernel_rfl
def F117 : FunX := ⟨false, G117, c117, r117⟩
theorem o117 : FunOk Try.prog 117 F117 := ⟨Try.f117, by kernel_rfl, k117, e117, by kernel_rfl, by kernel_rfl⟩

/-! 118: slices.ContainsFunc[[]contango/coupon.Split,contango/coupon.Split]; parameters 2, captured 0 -/
def G118 : Cfg := ⟨[], [((nat_lit 0), [(nat_lit 0), (nat_lit 1)]), ((nat_lit 1), [(nat_lit 4)])], (nat_lit 9), []⟩
def r118 : List CRes := [.tmp (nat_lit 4)]
def c118 : CCode :=
(.seq (.region [
  ⟨(some (nat_lit 4)), none, .simple (.move (.const (.bool false)))⟩] (some [(nat_lit 0), (nat_lit 1)]))
(.seq (.region [
  ⟨(some (nat_lit 5)), none, .simple (.move (.tmp (nat_lit 0)))⟩,
  ⟨(some (nat_lit 6)), none, .simple (.move (.tmp (nat_lit 1)))⟩,
  ⟨(some (nat_lit 7)), none, .call (.func (nat_lit 120)) [(.tmp (nat_lit 5)), (.tmp (nat_lit 6))]⟩,
  ⟨(some (nat_lit 8)), none, .simple (.bin .geq (.tmp (nat_lit 7)) (.const (.int .i64 (.ofNat (nat_lit 0)))))⟩,
  ⟨(some (nat_lit 4)), none, .simple (.move (.tmp (nat_lit 8)))⟩] (some [(nat_lit 4)]))
.ret))
theorem k118 : Try.f118.body.bind (compC Try.prog G118) = some c118 := by kernel_rfl
theorem e118 : compRes Try.prog Try.f118.results.toList = some r118 := by kernel_rfl
def F118 : FunX := ⟨false, G118, c118, r118⟩
theorem o118 : FunOk Try.prog 118 F118 := ⟨Try.f118, by kernel_rfl, k118, e118, by kernel_rfl, by kernel_rfl⟩

/-! 119: contango/coupon.all[contango/coupon.Split]$1; parameters 1, captured 1 -/
def G119 : Cfg := ⟨[], [((nat_lit 0), [(nat_lit 1), (nat_lit 2)]), ((nat_lit 1), [(nat_lit 3)])], (nat_lit 8), []⟩
def r119 : List CRes := [.tmp (nat_lit 3)]
def c119 : CCode :=
(.seq (.region [
  ⟨(some (nat_lit 2)), none, .simple (.box false (.tmp (nat_lit 0)))⟩,
  ⟨(some (nat_lit 3)), none, .simple (.move (.const (.bool false)))⟩] (some [(nat_lit 1), (nat_lit 2)]))
(.seq (.region [
  ⟨(some (nat_lit 4)), none, .simple (.load none (.tmp (nat_lit 1)))⟩,
  ⟨(some (nat_lit 5)), none, .simple (.load (some (nat_lit 3)) (.tmp (nat_lit 2)))⟩,
  ⟨(some (nat_lit 6)), none, .call (.tmp (nat_lit 4)) [(.tmp (nat_lit 5))]⟩,
  ⟨(some (nat_lit 7)), none, .simple (.un .not (.tmp (nat_lit 6)))⟩,
  ⟨(some (nat_lit 3)), none, .simple (.move (.tmp (nat_lit 7)))⟩] (some [(nat_lit 3)]))
.ret))
theorem k119 : Try.f119.body.bind (compC Try.prog G119) = some c119 := by kernel_rfl
theorem e119 : compRes Try.prog Try.f119.results.toList = some r119 := by kernel_rfl
def F119 : FunX := ⟨false, G119, c119, r119⟩
theorem o119 : FunOk Try.prog 119 F119 := ⟨Try.f119, by kernel_rfl, k119, e119, by kernel_rfl, by kernel_rfl⟩

/-! 120: slices.IndexFunc[[]contango/coupon.Split,contango/coupon.Split]; parameters 2, captured 0 -/
def G120 : Cfg := ⟨[], [((nat_lit 0), [(nat_lit 0), (nat_lit 1)]), ((nat_lit 1), [(nat_lit 0), (nat_lit 1), (nat_lit 7), (nat_lit 8)]), ((nat_lit 2), [(nat_lit 0), (nat_lit 1), (nat_lit 7), (nat_lit 8), (nat_lit 9)]), ((nat_lit 3), [(nat_lit 0), (nat_lit 1), (nat_lit 5), (nat_lit 7), (nat_lit 8)]), ((nat_lit 4), [(nat_lit 0), (nat_lit 1), (nat_lit 5), (nat_lit 7), (nat_lit 8), (nat_lit 16)]), ((nat_lit 5), [(nat_lit 4)]), ((nat_lit 6), [(nat_lit 0), (nat_lit 1), (nat_lit 7), (nat_lit 8)]), ((nat_lit 7), [(nat_lit 4)])], (nat_lit 19), []⟩
def r120 : List CRes := [.tmp (nat_lit 4)]
def c120 : CCode :=
(.seq (.region [
  ⟨(some (nat_lit 4)), none, .simple (.move (.const (.int .i64 (.ofNat (nat_lit 0)))))⟩] (some [(nat_lit 0), (nat_lit 1)]))
(.seq (.seq (.region [
  ⟨(some (nat_lit 6)), none, .simple (.move (.tmp (nat_lit 0)))⟩,
  ⟨(some (nat_lit 7)), none, .simple (.len (.tmp (nat_lit 6)))⟩,
  ⟨(some (nat_lit 8)), none, .simple (.move (.const (.int .i64 (.ofNat (nat_lit 0)))))⟩] (some [(nat_lit 0), (nat_lit 1), (nat_lit 7), (nat_lit 8)]))
(.block (nat_lit 0) (.loop (.seq (.region [
    ⟨(some (nat_lit 9)), none, .simple (.bin .lss (.tmp (nat_lit 8)) (.tmp (nat_lit 7)))⟩] (some [(nat_lit 0), (nat_lit 1), (nat_lit 7), (nat_lit 8), (nat_lit 9)]))
  (.seq (.cond (.tmp (nat_lit 9))
   .skip
   (.exit (nat_lit 0)))
  (.seq (.block (nat_lit 1) (.seq (.region [
     ⟨(some (nat_lit 10)), none, .simple (.move (.tmp (nat_lit 8)))⟩,
     ⟨(some (nat_lit 5)), none, .simple (.move (.tmp (nat_lit 10)))⟩] (some [(nat_lit 0), (nat_lit 1), (nat_lit 5), (nat_lit 7), (nat_lit 8)]))
   (.seq (.region [
     ⟨(some (nat_lit 11)), none, .simple (.move (.tmp (nat_lit 1)))⟩,
     ⟨(some (nat_lit 12)), none, .simple (.move (.tmp (nat_lit 0)))⟩,
     ⟨(some (nat_lit 13)), none, .simple (.move (.tmp (nat_lit 5)))⟩,
     ⟨(some (nat_lit 14)), none, .simple (.indexS (nat_lit 3) (.tmp (nat_lit 12)) (.tmp (nat_lit 13)))⟩,
     ⟨(some (nat_lit 15)), none, .simple (.load (some (nat_lit 3)) (.tmp (nat_lit 14)))⟩,
     ⟨(some (nat_lit 16)), none, .call (.tmp (nat_lit 11)) [(.tmp (nat_lit 15))]⟩] (some [(nat_lit 0), (nat_lit 1), (nat_lit 5), (nat_lit 7), (nat_lit 8), (nat_lit 16)]))
   (.cond (.tmp (nat_lit 16))
    (.seq (.region [
      ⟨(some (nat_lit 17)), none, .simple (.move (.tmp (nat_lit 5)))⟩,
      ⟨(some (nat_lit 4)), none, .simple (.move (.tmp (nat_lit 17)))⟩] (some [(nat_lit 4)]))
    .ret)
    .skip))))
  (.region [
    ⟨(some (nat_lit 18)), none, .simple (.bin .add (.tmp (nat_lit 8)) (.const (.int .i64 (.ofNat (nat_lit 1)))))⟩,
    ⟨(some (nat_lit 8)), none, .simple (.move (.tmp (nat_lit 18)))⟩] (some [(nat_lit 0), (nat_lit 1), (nat_lit 7), (nat_lit 8)]))))))))
(.seq (.region [
  ⟨(some (nat_lit 4)), none, .simple (.move (.const (.int .i64 (.negSucc (nat_lit 0)))))⟩] (some [(nat_lit 4)]))
.ret)))
theorem k120 : Try.f120.body.bind (compC Try.prog G120) = some c120 := by kernel_rfl
theorem e120 : compRes Try.prog Try.f120.results.toList = some r120 := by kernel_rfl
-- (runtime.boundsError).Error: no body
-- (runtime.boundsError).RuntimeError: no body
-- (runtime.errorString).Error: no body
-- (runtime.errorString).RuntimeError: no body
-- (runtime.plainError).Error: no body
-- (runtime.plainError).RuntimeError: no body
-- (runtime.errorAddressString).Error: no body
-- (runtime.errorAddressString).RuntimeError: no body
-- (*runtime.TypeAssertionError).Error: no body
-- (*runtime.TypeAssertionError).RuntimeError: no body
-- (*runtime.PanicNilError).Error: no body
-- (*runtime.PanicNilError).RuntimeError: no body
-- (*internal/abi.Type).Align: no body
-- (internal/runtime/maps.unhashableTypeError).Error: no body
-- (internal/runtime/maps.unhashableTypeError).RuntimeError: no body
-- (contango/api.Errno).Error: no body
-- (internal/abi.Kind).String: no body
-- no function 138
-- no function 139
-- no function 140
-- no function 141
-- no function 142
-- no function 143
-- no function 144
-- no function 145
-- no function 146
-- no function 147
-- no function 148
-- no function 149
-- no function 150
-- no function 151
-- no function 152
-- no function 153
-- no function 154
-- no function 155
-- no function 156
-- no function 157
-- no function 158
-- no function 159
-- no function 160
def F120 : FunX := ⟨false, G120, c120, r120⟩
theorem o120 : FunOk Try.prog 120 F120 := ⟨Try.f120, by kernel_rfl, k120, e120, by kernel_rfl, by kernel_rfl⟩

end Go.Proofs.Ytdnefcjbcieecaa
