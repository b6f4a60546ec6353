import Derived.Test.YtdnefcjbcieecaaCoreX
import Derived.Test.YtdnefcjbcieecaaProg
import Derived.KernelRfl
namespace Go.Proofs.Ytdnefcjbcieecaa
open Go Go.Proofs

/-! 65: (contango/coupon.sum).in; parameters 4, captured 0 -/
def G65 : Cfg := ⟨[], [((nat_lit 0), [(nat_lit 3), (nat_lit 4), (nat_lit 5), (nat_lit 6)]), ((nat_lit 1), [(nat_lit 3), (nat_lit 4), (nat_lit 5), (nat_lit 6), (nat_lit 10), (nat_lit 11)]), ((nat_lit 2), [(nat_lit 3), (nat_lit 4), (nat_lit 5), (nat_lit 6), (nat_lit 10), (nat_lit 11), (nat_lit 19)]), ((nat_lit 3), [(nat_lit 8), (nat_lit 9)]), ((nat_lit 4), [(nat_lit 3), (nat_lit 4), (nat_lit 5), (nat_lit 6), (nat_lit 10), (nat_lit 27)]), ((nat_lit 5), [(nat_lit 8), (nat_lit 9)]), ((nat_lit 6), [(nat_lit 8), (nat_lit 9)])], (nat_lit 38), []⟩
def r65 : List CRes := [.tmp (nat_lit 8), .tmp (nat_lit 9)]
def c65 : CCode :=
(.seq (.region [
  ⟨(some (nat_lit 4)), none, .simple (.box false (.tmp (nat_lit 0)))⟩,
  ⟨(some (nat_lit 5)), none, .simple (.box false (.tmp (nat_lit 1)))⟩,
  ⟨(some (nat_lit 6)), none, .simple (.box false (.tmp (nat_lit 2)))⟩,
  ⟨(some (nat_lit 8)), none, .simple (.move (.const (.slice none (nat_lit 0) (nat_lit 0))))⟩,
  ⟨(some (nat_lit 9)), none, .simple (.move (.const (.int .i64 (.ofNat (nat_lit 0)))))⟩] (some [(nat_lit 3), (nat_lit 4), (nat_lit 5), (nat_lit 6)]))
(.seq (.region [
  ⟨(some (nat_lit 13)), none, .simple (.load (some (nat_lit 6)) (.tmp (nat_lit 5)))⟩,
  ⟨(some (nat_lit 14)), none, .simple (.load (some (nat_lit 2)) (.tmp (nat_lit 6)))⟩,
  ⟨(some (nat_lit 15)), none, .call (.func (nat_lit 58)) [(.tmp (nat_lit 13)), (.tmp (nat_lit 14))]⟩,
  ⟨(some (nat_lit 12)), none, .simple (.move (.tmp (nat_lit 15)))⟩,
  ⟨(some (nat_lit 16)), none, .simple (.extract (.tmp (nat_lit 12)) (nat_lit 0))⟩,
  ⟨(some (nat_lit 17)), none, .simple (.extract (.tmp (nat_lit 12)) (nat_lit 1))⟩,
  ⟨(some (nat_lit 10)), none, .simple (.move (.tmp (nat_lit 16)))⟩,
  ⟨(some (nat_lit 11)), none, .simple (.move (.tmp (nat_lit 17)))⟩] (some [(nat_lit 3), (nat_lit 4), (nat_lit 5), (nat_lit 6), (nat_lit 10), (nat_lit 11)]))
(.seq (.seq (.region [
  ⟨(some (nat_lit 18)), none, .simple (.move (.tmp (nat_lit 11)))⟩,
  ⟨(some (nat_lit 19)), none, .simple (.bin .neq (.tmp (nat_lit 18)) (.const (.int .i64 (.ofNat (nat_lit 0)))))⟩] (some [(nat_lit 3), (nat_lit 4), (nat_lit 5), (nat_lit 6), (nat_lit 10), (nat_lit 11), (nat_lit 19)]))
(.cond (.tmp (nat_lit 19))
 (.seq (.region [
   ⟨(some (nat_lit 20)), none, .simple (.move (.tmp (nat_lit 11)))⟩,
   ⟨(some (nat_lit 8)), none, .simple (.move (.const (.slice none (nat_lit 0) (nat_lit 0))))⟩,
   ⟨(some (nat_lit 9)), none, .simple (.move (.tmp (nat_lit 20)))⟩] (some [(nat_lit 8), (nat_lit 9)]))
 .ret)
 .skip))
(.seq (.seq (.region [
  ⟨(some (nat_lit 21)), none, .simple (.move (.tmp (nat_lit 3)))⟩,
  ⟨(some (nat_lit 22)), none, .simple (.fieldAddr (nat_lit 3) (.tmp (nat_lit 5)))⟩,
  ⟨(some (nat_lit 23)), none, .simple (.load none (.tmp (nat_lit 22)))⟩,
  ⟨(some (nat_lit 24)), none, .simple (.len (.tmp (nat_lit 23)))⟩,
  ⟨(some (nat_lit 25)), none, .simple (.bin .sub (.tmp (nat_lit 24)) (.const (.int .i64 (.ofNat (nat_lit 1)))))⟩,
  ⟨(some (nat_lit 26)), none, .call (.func (nat_lit 71)) [(.tmp (nat_lit 21)), (.const (.int .i64 (.ofNat (nat_lit 0)))), (.tmp (nat_lit 25))]⟩,
  ⟨(some (nat_lit 27)), none, .simple (.un .not (.tmp (nat_lit 26)))⟩] (some [(nat_lit 3), (nat_lit 4), (nat_lit 5), (nat_lit 6), (nat_lit 10), (nat_lit 27)]))
(.cond (.tmp (nat_lit 27))
 (.seq (.region [
   ⟨(some (nat_lit 8)), none, .simple (.move (.const (.slice none (nat_lit 0) (nat_lit 0))))⟩,
   ⟨(some (nat_lit 9)), none, .simple (.move (.const (.int .i64 (.ofNat (nat_lit 2)))))⟩] (some [(nat_lit 8), (nat_lit 9)]))
 .ret)
 .skip))
(.seq (.region [
  ⟨(some (nat_lit 28)), none, .simple (.fieldAddr (nat_lit 0) (.tmp (nat_lit 4)))⟩,
  ⟨(some (nat_lit 29)), none, .simple (.load none (.tmp (nat_lit 28)))⟩,
  ⟨(some (nat_lit 30)), none, .simple (.move (.tmp (nat_lit 10)))⟩,
  ⟨(some (nat_lit 31)), none, .simple (.load (some (nat_lit 2)) (.tmp (nat_lit 6)))⟩,
  ⟨(some (nat_lit 32)), none, .simple (.fieldAddr (nat_lit 3) (.tmp (nat_lit 5)))⟩,
  ⟨(some (nat_lit 33)), none, .simple (.load none (.tmp (nat_lit 32)))⟩,
  ⟨(some (nat_lit 34)), none, .simple (.move (.tmp (nat_lit 3)))⟩,
  ⟨(some (nat_lit 35)), none, .simple (.indexS (nat_lit 3) (.tmp (nat_lit 33)) (.tmp (nat_lit 34)))⟩,
  ⟨(some (nat_lit 36)), none, .simple (.load (some (nat_lit 3)) (.tmp (nat_lit 35)))⟩,
  ⟨(some (nat_lit 37)), none, .call (.tmp (nat_lit 29)) [(.tmp (nat_lit 30)), (.tmp (nat_lit 31)), (.tmp (nat_lit 36))]⟩,
  ⟨(some (nat_lit 8)), none, .simple (.move (.tmp (nat_lit 37)))⟩,
  ⟨(some (nat_lit 9)), none, .simple (.move (.const (.int .i64 (.ofNat (nat_lit 0)))))⟩] (some [(nat_lit 8), (nat_lit 9)]))
.ret)))))
theorem k65 : Try.f65.body.bind (compC Try.prog G65) = some c65 := by kernel_rfl
theorem e65 : compRes Try.prog Try.f65.results.toList = some r65 := by kernel_rfl
def F65 : FunX := ⟨false, G65, c65, r65⟩
theorem o65 : FunOk Try.prog 65 F65 := ⟨Try.f65, by kernel_rfl, k65, e65, by kernel_rfl, by kernel_rfl⟩

/-! 66: (*contango/coupon.work).claims; parameters 3, captured 0 -/
def G66 : Cfg := ⟨[(nat_lit 96), (nat_lit 8)], [((nat_lit 0), [(nat_lit 0), (nat_lit 4), (nat_lit 5), (nat_lit 6)]), ((nat_lit 1), [(nat_lit 0), (nat_lit 4), (nat_lit 5), (nat_lit 6), (nat_lit 17), (nat_lit 18), (nat_lit 19)]), ((nat_lit 2), [(nat_lit 0), (nat_lit 4), (nat_lit 5), (nat_lit 6), (nat_lit 17), (nat_lit 18), (nat_lit 19), (nat_lit 20)]), ((nat_lit 3), [(nat_lit 0), (nat_lit 4), (nat_lit 5), (nat_lit 6), (nat_lit 7), (nat_lit 8), (nat_lit 17), (nat_lit 18), (nat_lit 19)]), ((nat_lit 4), [(nat_lit 0), (nat_lit 4), (nat_lit 5), (nat_lit 6), (nat_lit 7), (nat_lit 8), (nat_lit 9), (nat_lit 17), (nat_lit 18), (nat_lit 19)]), ((nat_lit 5), [(nat_lit 0), (nat_lit 4), (nat_lit 5), (nat_lit 6), (nat_lit 7), (nat_lit 8), (nat_lit 9), (nat_lit 10), (nat_lit 17), (nat_lit 18), (nat_lit 19)]), ((nat_lit 6), [(nat_lit 0), (nat_lit 4), (nat_lit 5), (nat_lit 6), (nat_lit 7), (nat_lit 8), (nat_lit 9), (nat_lit 11), (nat_lit 12), (nat_lit 17), (nat_lit 18), (nat_lit 19)]), ((nat_lit 7), [(nat_lit 0), (nat_lit 4), (nat_lit 5), (nat_lit 6), (nat_lit 7), (nat_lit 8), (nat_lit 9), (nat_lit 11), (nat_lit 12), (nat_lit 17), (nat_lit 18), (nat_lit 19), (nat_lit 50)]), ((nat_lit 9), [(nat_lit 0), (nat_lit 4), (nat_lit 5), (nat_lit 6), (nat_lit 7), (nat_lit 8), (nat_lit 9), (nat_lit 17), (nat_lit 18), (nat_lit 19), (nat_lit 70)]), ((nat_lit 10), [(nat_lit 0), (nat_lit 4), (nat_lit 5), (nat_lit 6), (nat_lit 9), (nat_lit 17), (nat_lit 18), (nat_lit 19)]), ((nat_lit 8), [(nat_lit 0), (nat_lit 4), (nat_lit 5), (nat_lit 6), (nat_lit 9), (nat_lit 17), (nat_lit 18), (nat_lit 19)]), ((nat_lit 11), [(nat_lit 0), (nat_lit 4), (nat_lit 5), (nat_lit 6), (nat_lit 17), (nat_lit 18), (nat_lit 19)]), ((nat_lit 12), [(nat_lit 0), (nat_lit 4), (nat_lit 5), (nat_lit 6), (nat_lit 17), (nat_lit 18), (nat_lit 19)]), ((nat_lit 13), [(nat_lit 6)])], (nat_lit 99), []⟩
def r66 : List CRes := [.tmp (nat_lit 6)]
def c66 : CCode :=
(.seq (.region [
  ⟨(some (nat_lit 4)), none, .simple (.box false (.tmp (nat_lit 1)))⟩,
  ⟨(some (nat_lit 5)), none, .simple (.box false (.tmp (nat_lit 2)))⟩,
  ⟨(some (nat_lit 6)), none, .simple (.move (.const (.slice none (nat_lit 0) (nat_lit 0))))⟩] (some [(nat_lit 0), (nat_lit 4), (nat_lit 5), (nat_lit 6)]))
(.seq (.seq (.region [
  ⟨(some (nat_lit 13)), none, .simple (.move (.tmp (nat_lit 0)))⟩,
  ⟨(some (nat_lit 14)), none, .simple (.nilCheck (.tmp (nat_lit 13)))⟩,
  ⟨(some (nat_lit 15)), none, .simple (.fieldAddr (nat_lit 0) (.tmp (nat_lit 14)))⟩,
  ⟨(some (nat_lit 16)), none, .simple (.fieldAddr (nat_lit 2) (.tmp (nat_lit 15)))⟩,
  ⟨(some (nat_lit 17)), none, .simple (.load none (.tmp (nat_lit 16)))⟩,
  ⟨(some (nat_lit 18)), none, .simple (.len (.tmp (nat_lit 17)))⟩,
  ⟨(some (nat_lit 19)), none, .simple (.move (.const (.int .i64 (.ofNat (nat_lit 0)))))⟩] (some [(nat_lit 0), (nat_lit 4), (nat_lit 5), (nat_lit 6), (nat_lit 17), (nat_lit 18), (nat_lit 19)]))
(.block (nat_lit 0) (.loop (.seq (.region [
    ⟨(some (nat_lit 20)), none, .simple (.bin .lss (.tmp (nat_lit 19)) (.tmp (nat_lit 18)))⟩] (some [(nat_lit 0), (nat_lit 4), (nat_lit 5), (nat_lit 6), (nat_lit 17), (nat_lit 18), (nat_lit 19), (nat_lit 20)]))
  (.seq (.cond (.tmp (nat_lit 20))
   .skip
   (.exit (nat_lit 0)))
  (.seq (.block (nat_lit 1) (.seq (.region [
     ⟨(some (nat_lit 21)), none, .simple (.move (.tmp (nat_lit 19)))⟩,
     ⟨(some (nat_lit 22)), none, .simple (.indexS (nat_lit 7) (.tmp (nat_lit 17)) (.tmp (nat_lit 19)))⟩,
     ⟨(some (nat_lit 23)), none, .simple (.load (some (nat_lit 7)) (.tmp (nat_lit 22)))⟩,
     ⟨(some (nat_lit 8)), none, .simple (.alloc [(.d (.int .i64 (.ofNat (nat_lit 0)))), (.d (.int .i64 (.ofNat (nat_lit 0)))), (.d (.int .i64 (.ofNat (nat_lit 0)))), (.d (.int .i64 (.ofNat (nat_lit 0)))), (.d (.int .i64 (.ofNat (nat_lit 0)))), (.d (.int .i64 (.ofNat (nat_lit 0)))), (.d (.int .i64 (.ofNat (nat_lit 0))))])⟩,
     ⟨(some (nat_lit 7)), none, .simple (.move (.tmp (nat_lit 21)))⟩,
     ⟨none, none, .simple (.store (nat_lit 7) (.tmp (nat_lit 8)) (.tmp (nat_lit 23)))⟩] (some [(nat_lit 0), (nat_lit 4), (nat_lit 5), (nat_lit 6), (nat_lit 7), (nat_lit 8), (nat_lit 17), (nat_lit 18), (nat_lit 19)]))
   (.seq (.region [
     ⟨(some (nat_lit 9)), none, .simple (.move (.const (.int .i64 (.ofNat (nat_lit 0)))))⟩] (some [(nat_lit 0), (nat_lit 4), (nat_lit 5), (nat_lit 6), (nat_lit 7), (nat_lit 8), (nat_lit 9), (nat_lit 17), (nat_lit 18), (nat_lit 19)]))
   (.seq (.region [
     ⟨(some (nat_lit 24)), none, .simple (.move (.tmp (nat_lit 0)))⟩,
     ⟨(some (nat_lit 25)), none, .simple (.nilCheck (.tmp (nat_lit 24)))⟩,
     ⟨(some (nat_lit 26)), none, .simple (.fieldAddr (nat_lit 0) (.tmp (nat_lit 25)))⟩,
     ⟨(some (nat_lit 27)), none, .simple (.load (some (nat_lit 6)) (.tmp (nat_lit 26)))⟩,
     ⟨(some (nat_lit 28)), none, .simple (.fieldAddr (nat_lit 1) (.tmp (nat_lit 4)))⟩,
     ⟨(some (nat_lit 29)), none, .simple (.load none (.tmp (nat_lit 28)))⟩,
     ⟨(some (nat_lit 30)), none, .simple (.move (.tmp (nat_lit 7)))⟩,
     ⟨(some (nat_lit 31)), none, .simple (.indexS (nat_lit 1) (.tmp (nat_lit 29)) (.tmp (nat_lit 30)))⟩,
     ⟨(some (nat_lit 32)), none, .simple (.load none (.tmp (nat_lit 31)))⟩,
     ⟨(some (nat_lit 33)), none, .call (.func (nat_lit 82)) [(.tmp (nat_lit 27)), (.tmp (nat_lit 32))]⟩,
     ⟨(some (nat_lit 10)), none, .simple (.move (.tmp (nat_lit 33)))⟩] (some [(nat_lit 0), (nat_lit 4), (nat_lit 5), (nat_lit 6), (nat_lit 7), (nat_lit 8), (nat_lit 9), (nat_lit 10), (nat_lit 17), (nat_lit 18), (nat_lit 19)]))
   (.seq (.region [
     ⟨(some (nat_lit 34)), none, .simple (.fieldAddr (nat_lit 0) (.tmp (nat_lit 4)))⟩,
     ⟨(some (nat_lit 35)), none, .simple (.load none (.tmp (nat_lit 34)))⟩,
     ⟨(some (nat_lit 36)), none, .simple (.move (.tmp (nat_lit 7)))⟩,
     ⟨(some (nat_lit 37)), none, .simple (.indexS (nat_lit 1) (.tmp (nat_lit 35)) (.tmp (nat_lit 36)))⟩,
     ⟨(some (nat_lit 38)), none, .simple (.load none (.tmp (nat_lit 37)))⟩,
     ⟨(some (nat_lit 39)), none, .simple (.fieldAddr (nat_lit 0) (.tmp (nat_lit 5)))⟩,
     ⟨(some (nat_lit 40)), none, .simple (.load none (.tmp (nat_lit 39)))⟩,
     ⟨(some (nat_lit 41)), none, .simple (.bin .lss (.tmp (nat_lit 38)) (.tmp (nat_lit 40)))⟩,
     ⟨(some (nat_lit 42)), none, .simple (.move (.tmp (nat_lit 10)))⟩,
     ⟨(some (nat_lit 43)), none, .simple (.bin .eql (.tmp (nat_lit 42)) (.const (.int .i64 (.negSucc (nat_lit 0)))))⟩,
     ⟨(some (nat_lit 44)), none, .simple (.move (.tmp (nat_lit 43)))⟩,
     ⟨(some (nat_lit 45)), (some ((nat_lit 44), false)), .simple (.move (.tmp (nat_lit 10)))⟩,
     ⟨(some (nat_lit 46)), (some ((nat_lit 44), false)), .simple (.fieldAddr (nat_lit 1) (.tmp (nat_lit 5)))⟩,
     ⟨(some (nat_lit 47)), (some ((nat_lit 44), false)), .simple (.load none (.tmp (nat_lit 46)))⟩,
     ⟨(some (nat_lit 48)), (some ((nat_lit 44), false)), .simple (.bin .gtr (.tmp (nat_lit 45)) (.tmp (nat_lit 47)))⟩,
     ⟨(some (nat_lit 49)), none, .simple (.pick (.tmp (nat_lit 44)) (.const (.bool true)) (.tmp (nat_lit 48)))⟩,
     ⟨(some (nat_lit 11)), none, .simple (.move (.tmp (nat_lit 41)))⟩,
     ⟨(some (nat_lit 12)), none, .simple (.move (.tmp (nat_lit 49)))⟩] (some [(nat_lit 0), (nat_lit 4), (nat_lit 5), (nat_lit 6), (nat_lit 7), (nat_lit 8), (nat_lit 9), (nat_lit 11), (nat_lit 12), (nat_lit 17), (nat_lit 18), (nat_lit 19)]))
   (.seq (.block (nat_lit 2) (.seq (.region [
      ⟨(some (nat_lit 51)), none, .simple (.move (.tmp (nat_lit 11)))⟩,
      ⟨(some (nat_lit 52)), none, .simple (.move (.tmp (nat_lit 51)))⟩,
      ⟨(some (nat_lit 53)), (some ((nat_lit 52), true)), .simple (.move (.tmp (nat_lit 12)))⟩,
      ⟨(some (nat_lit 54)), none, .simple (.pick (.tmp (nat_lit 52)) (.tmp (nat_lit 53)) (.const (.bool false)))⟩,
      ⟨(some (nat_lit 50)), none, .simple (.move (.tmp (nat_lit 54)))⟩] (some [(nat_lit 0), (nat_lit 4), (nat_lit 5), (nat_lit 6), (nat_lit 7), (nat_lit 8), (nat_lit 9), (nat_lit 11), (nat_lit 12), (nat_lit 17), (nat_lit 18), (nat_lit 19), (nat_lit 50)]))
    (.cond (.tmp (nat_lit 50))
     (.region [
       ⟨(some (nat_lit 55)), none, .simple (.fieldAddr (nat_lit 2) (.tmp (nat_lit 5)))⟩,
       ⟨(some (nat_lit 56)), none, .simple (.load none (.tmp (nat_lit 55)))⟩,
       ⟨(some (nat_lit 57)), none, .simple (.move (.tmp (nat_lit 0)))⟩,
       ⟨(some (nat_lit 58)), none, .simple (.fieldAddr (nat_lit 2) (.tmp (nat_lit 8)))⟩,
       ⟨(some (nat_lit 59)), none, .simple (.load none (.tmp (nat_lit 58)))⟩,
       ⟨(some (nat_lit 60)), none, .simple (.fieldAddr (nat_lit 0) (.tmp (nat_lit 4)))⟩,
       ⟨(some (nat_lit 61)), none, .simple (.load none (.tmp (nat_lit 60)))⟩,
       ⟨(some (nat_lit 62)), none, .simple (.move (.tmp (nat_lit 7)))⟩,
       ⟨(some (nat_lit 63)), none, .simple (.indexS (nat_lit 1) (.tmp (nat_lit 61)) (.tmp (nat_lit 62)))⟩,
       ⟨(some (nat_lit 64)), none, .simple (.load none (.tmp (nat_lit 63)))⟩,
       ⟨(some (nat_lit 65)), none, .simple (.fieldAddr (nat_lit 1) (.tmp (nat_lit 5)))⟩,
       ⟨(some (nat_lit 66)), none, .simple (.load none (.tmp (nat_lit 65)))⟩,
       ⟨(some (nat_lit 67)), none, .simple (.build [(.d (.int .i64 (.ofNat (nat_lit 0)))), (.d (.int .i64 (.ofNat (nat_lit 0))))] [((nat_lit 0), (nat_lit 1), (.tmp (nat_lit 64))), ((nat_lit 1), (nat_lit 1), (.tmp (nat_lit 66)))])⟩,
       ⟨(some (nat_lit 68)), none, .callx (.func (nat_lit 94)) [(.tmp (nat_lit 57)), (.tmp (nat_lit 59)), (.tmp (nat_lit 67))]⟩,
       ⟨(some (nat_lit 69)), none, .simple (.bin .mul (.tmp (nat_lit 56)) (.tmp (nat_lit 68)))⟩,
       ⟨(some (nat_lit 9)), none, .simple (.move (.tmp (nat_lit 69)))⟩] (some [(nat_lit 0), (nat_lit 4), (nat_lit 5), (nat_lit 6), (nat_lit 9), (nat_lit 17), (nat_lit 18), (nat_lit 19)]))
     (.seq (.region [
       ⟨(some (nat_lit 71)), none, .simple (.move (.tmp (nat_lit 11)))⟩,
       ⟨(some (nat_lit 72)), none, .simple (.un .not (.tmp (nat_lit 71)))⟩,
       ⟨(some (nat_lit 73)), none, .simple (.move (.tmp (nat_lit 72)))⟩,
       ⟨(some (nat_lit 74)), (some ((nat_lit 73), true)), .simple (.move (.tmp (nat_lit 12)))⟩,
       ⟨(some (nat_lit 75)), (some ((nat_lit 73), true)), .simple (.un .not (.tmp (nat_lit 74)))⟩,
       ⟨(some (nat_lit 76)), none, .simple (.pick (.tmp (nat_lit 73)) (.tmp (nat_lit 75)) (.const (.bool false)))⟩,
       ⟨(some (nat_lit 70)), none, .simple (.move (.tmp (nat_lit 76)))⟩] (some [(nat_lit 0), (nat_lit 4), (nat_lit 5), (nat_lit 6), (nat_lit 7), (nat_lit 8), (nat_lit 9), (nat_lit 17), (nat_lit 18), (nat_lit 19), (nat_lit 70)]))
     (.cond (.tmp (nat_lit 70))
      (.region [
        ⟨(some (nat_lit 77)), none, .simple (.fieldAddr (nat_lit 2) (.tmp (nat_lit 5)))⟩,
        ⟨(some (nat_lit 78)), none, .simple (.load none (.tmp (nat_lit 77)))⟩,
        ⟨(some (nat_lit 79)), none, .simple (.un .neg (.tmp (nat_lit 78)))⟩,
        ⟨(some (nat_lit 80)), none, .simple (.move (.tmp (nat_lit 0)))⟩,
        ⟨(some (nat_lit 81)), none, .simple (.fieldAddr (nat_lit 2) (.tmp (nat_lit 8)))⟩,
        ⟨(some (nat_lit 82)), none, .simple (.load none (.tmp (nat_lit 81)))⟩,
        ⟨(some (nat_lit 83)), none, .simple (.fieldAddr (nat_lit 0) (.tmp (nat_lit 4)))⟩,
        ⟨(some (nat_lit 84)), none, .simple (.load none (.tmp (nat_lit 83)))⟩,
        ⟨(some (nat_lit 85)), none, .simple (.move (.tmp (nat_lit 7)))⟩,
        ⟨(some (nat_lit 86)), none, .simple (.indexS (nat_lit 1) (.tmp (nat_lit 84)) (.tmp (nat_lit 85)))⟩,
        ⟨(some (nat_lit 87)), none, .simple (.load none (.tmp (nat_lit 86)))⟩,
        ⟨(some (nat_lit 88)), none, .simple (.fieldAddr (nat_lit 1) (.tmp (nat_lit 5)))⟩,
        ⟨(some (nat_lit 89)), none, .simple (.load none (.tmp (nat_lit 88)))⟩,
        ⟨(some (nat_lit 90)), none, .simple (.build [(.d (.int .i64 (.ofNat (nat_lit 0)))), (.d (.int .i64 (.ofNat (nat_lit 0))))] [((nat_lit 0), (nat_lit 1), (.tmp (nat_lit 87))), ((nat_lit 1), (nat_lit 1), (.tmp (nat_lit 89)))])⟩,
        ⟨(some (nat_lit 91)), none, .callx (.func (nat_lit 94)) [(.tmp (nat_lit 80)), (.tmp (nat_lit 82)), (.tmp (nat_lit 90))]⟩,
        ⟨(some (nat_lit 92)), none, .simple (.bin .mul (.tmp (nat_lit 79)) (.tmp (nat_lit 91)))⟩,
        ⟨(some (nat_lit 9)), none, .simple (.move (.tmp (nat_lit 92)))⟩] (some [(nat_lit 0), (nat_lit 4), (nat_lit 5), (nat_lit 6), (nat_lit 9), (nat_lit 17), (nat_lit 18), (nat_lit 19)]))
      .skip)))))
   (.region [
     ⟨(some (nat_lit 93)), none, .simple (.move (.tmp (nat_lit 6)))⟩,
     ⟨(some (nat_lit 94)), none, .simple (.move (.tmp (nat_lit 9)))⟩,
     ⟨(some (nat_lit 95)), none, .simple (.bslice false (nat_lit 3) (nat_lit 1) (nat_lit 1) [(.int .i64 (.ofNat (nat_lit 0)))] [((nat_lit 0), (.tmp (nat_lit 94)))])⟩,
     ⟨(some (nat_lit 96)), none, .app (nat_lit 3) (nat_lit 1) (nat_lit 8) (.tmp (nat_lit 93)) (.tmp (nat_lit 95))⟩,
     ⟨(some (nat_lit 6)), none, .simple (.move (.tmp (nat_lit 96)))⟩] (some [(nat_lit 0), (nat_lit 4), (nat_lit 5), (nat_lit 6), (nat_lit 17), (nat_lit 18), (nat_lit 19)]))))))))
  (.region [
    ⟨(some (nat_lit 97)), none, .simple (.bin .add (.tmp (nat_lit 19)) (.const (.int .i64 (.ofNat (nat_lit 1)))))⟩,
    ⟨(some (nat_lit 19)), none, .simple (.move (.tmp (nat_lit 97)))⟩] (some [(nat_lit 0), (nat_lit 4), (nat_lit 5), (nat_lit 6), (nat_lit 17), (nat_lit 18), (nat_lit 19)]))))))))
(.seq (.region [
  ⟨(some (nat_lit 98)), none, .simple (.move (.tmp (nat_lit 6)))⟩,
  ⟨(some (nat_lit 6)), none, .simple (.move (.tmp (nat_lit 98)))⟩] (some [(nat_lit 6)]))
.ret)))
theorem k66 : Try.f66.body.bind (compC Try.prog G66) = some c66 := by kernel_rfl
theorem e66 : compRes Try.prog Try.f66.results.toList = some r66 := by kernel_rfl
def F66 : FunX := ⟨false, G66, c66, r66⟩
theorem o66 : FunOk Try.prog 66 F66 := ⟨Try.f66, by kernel_rfl, k66, e66, by kernel_rfl, by kernel_rfl⟩

/-! 67: (*contango/coupon.work).rights; parameters 3, captured 0 -/
def G67 : Cfg := ⟨[], [((nat_lit 0), [(nat_lit 0), (nat_lit 4), (nat_lit 5)]), ((nat_lit 1), [(nat_lit 0), (nat_lit 4), (nat_lit 5), (nat_lit 7)]), ((nat_lit 2), [(nat_lit 0), (nat_lit 7), (nat_lit 17), (nat_lit 18), (nat_lit 19)]), ((nat_lit 3), [(nat_lit 0), (nat_lit 7), (nat_lit 17), (nat_lit 18), (nat_lit 19), (nat_lit 20)]), ((nat_lit 4), [(nat_lit 0), (nat_lit 7), (nat_lit 8), (nat_lit 9), (nat_lit 17), (nat_lit 18), (nat_lit 19)]), ((nat_lit 5), [(nat_lit 0), (nat_lit 7), (nat_lit 8), (nat_lit 9), (nat_lit 17), (nat_lit 18), (nat_lit 19)]), ((nat_lit 6), [(nat_lit 0), (nat_lit 7), (nat_lit 17), (nat_lit 18), (nat_lit 19)]), ((nat_lit 7), [(nat_lit 0), (nat_lit 7), (nat_lit 17), (nat_lit 18), (nat_lit 19)]), ((nat_lit 8), [(nat_lit 6)])], (nat_lit 56), []⟩
def r67 : List CRes := [.tmp (nat_lit 6)]
def c67 : CCode :=
(.seq (.region [
  ⟨(some (nat_lit 4)), none, .simple (.box false (.tmp (nat_lit 1)))⟩,
  ⟨(some (nat_lit 5)), none, .simple (.box false (.tmp (nat_lit 2)))⟩,
  ⟨(some (nat_lit 6)), none, .simple (.move (.const (.slice none (nat_lit 0) (nat_lit 0))))⟩] (some [(nat_lit 0), (nat_lit 4), (nat_lit 5)]))
(.seq (.region [
  ⟨(some (nat_lit 10)), none, .simple (.move (.tmp (nat_lit 0)))⟩,
  ⟨(some (nat_lit 11)), none, .simple (.load (some (nat_lit 2)) (.tmp (nat_lit 4)))⟩,
  ⟨(some (nat_lit 12)), none, .simple (.load (some (nat_lit 3)) (.tmp (nat_lit 5)))⟩,
  ⟨(some (nat_lit 13)), none, .call (.func (nat_lit 64)) [(.tmp (nat_lit 10)), (.tmp (nat_lit 11)), (.tmp (nat_lit 12))]⟩,
  ⟨(some (nat_lit 7)), none, .simple (.move (.tmp (nat_lit 13)))⟩] (some [(nat_lit 0), (nat_lit 4), (nat_lit 5), (nat_lit 7)]))
(.seq (.seq (.region [
  ⟨(some (nat_lit 14)), none, .simple (.move (.tmp (nat_lit 0)))⟩,
  ⟨(some (nat_lit 15)), none, .simple (.load (some (nat_lit 2)) (.tmp (nat_lit 4)))⟩,
  ⟨(some (nat_lit 16)), none, .simple (.load (some (nat_lit 3)) (.tmp (nat_lit 5)))⟩,
  ⟨(some (nat_lit 17)), none, .call (.func (nat_lit 66)) [(.tmp (nat_lit 14)), (.tmp (nat_lit 15)), (.tmp (nat_lit 16))]⟩,
  ⟨(some (nat_lit 18)), none, .simple (.len (.tmp (nat_lit 17)))⟩,
  ⟨(some (nat_lit 19)), none, .simple (.move (.const (.int .i64 (.ofNat (nat_lit 0)))))⟩] (some [(nat_lit 0), (nat_lit 7), (nat_lit 17), (nat_lit 18), (nat_lit 19)]))
(.block (nat_lit 0) (.loop (.seq (.region [
    ⟨(some (nat_lit 20)), none, .simple (.bin .lss (.tmp (nat_lit 19)) (.tmp (nat_lit 18)))⟩] (some [(nat_lit 0), (nat_lit 7), (nat_lit 17), (nat_lit 18), (nat_lit 19), (nat_lit 20)]))
  (.seq (.cond (.tmp (nat_lit 20))
   .skip
   (.exit (nat_lit 0)))
  (.seq (.block (nat_lit 1) (.seq (.region [
     ⟨(some (nat_lit 21)), none, .simple (.move (.tmp (nat_lit 19)))⟩,
     ⟨(some (nat_lit 22)), none, .simple (.indexS (nat_lit 1) (.tmp (nat_lit 17)) (.tmp (nat_lit 19)))⟩,
     ⟨(some (nat_lit 23)), none, .simple (.load none (.tmp (nat_lit 22)))⟩,
     ⟨(some (nat_lit 8)), none, .simple (.move (.tmp (nat_lit 21)))⟩,
     ⟨(some (nat_lit 9)), none, .simple (.move (.tmp (nat_lit 23)))⟩] (some [(nat_lit 0), (nat_lit 7), (nat_lit 8), (nat_lit 9), (nat_lit 17), (nat_lit 18), (nat_lit 19)]))
   (.seq (.region [
     ⟨(some (nat_lit 24)), none, .simple (.move (.tmp (nat_lit 7)))⟩,
     ⟨(some (nat_lit 25)), none, .simple (.move (.tmp (nat_lit 0)))⟩,
     ⟨(some (nat_lit 26)), none, .simple (.nilCheck (.tmp (nat_lit 25)))⟩,
     ⟨(some (nat_lit 27)), none, .simple (.fieldAddr (nat_lit 0) (.tmp (nat_lit 26)))⟩,
     ⟨(some (nat_lit 28)), none, .simple (.fieldAddr (nat_lit 2) (.tmp (nat_lit 27)))⟩,
     ⟨(some (nat_lit 29)), none, .simple (.load none (.tmp (nat_lit 28)))⟩,
     ⟨(some (nat_lit 30)), none, .simple (.move (.tmp (nat_lit 8)))⟩,
     ⟨(some (nat_lit 31)), none, .simple (.indexS (nat_lit 7) (.tmp (nat_lit 29)) (.tmp (nat_lit 30)))⟩,
     ⟨(some (nat_lit 32)), none, .simple (.fieldAddr (nat_lit 0) (.tmp (nat_lit 31)))⟩,
     ⟨(some (nat_lit 33)), none, .simple (.load none (.tmp (nat_lit 32)))⟩,
     ⟨(some (nat_lit 34)), none, .simple (.indexS (nat_lit 1) (.tmp (nat_lit 24)) (.tmp (nat_lit 33)))⟩,
     ⟨(some (nat_lit 35)), none, .simple (.load none (.tmp (nat_lit 34)))⟩,
     ⟨(some (nat_lit 36)), none, .simple (.move (.tmp (nat_lit 9)))⟩,
     ⟨(some (nat_lit 37)), none, .simple (.bin .sub (.tmp (nat_lit 35)) (.tmp (nat_lit 36)))⟩,
     ⟨(some (nat_lit 38)), none, .simple (.indexS (nat_lit 1) (.tmp (nat_lit 24)) (.tmp (nat_lit 33)))⟩,
     ⟨none, none, .simple (.store (nat_lit 1) (.tmp (nat_lit 38)) (.tmp (nat_lit 37)))⟩] (some [(nat_lit 0), (nat_lit 7), (nat_lit 8), (nat_lit 9), (nat_lit 17), (nat_lit 18), (nat_lit 19)]))
   (.region [
     ⟨(some (nat_lit 39)), none, .simple (.move (.tmp (nat_lit 7)))⟩,
     ⟨(some (nat_lit 40)), none, .simple (.move (.tmp (nat_lit 0)))⟩,
     ⟨(some (nat_lit 41)), none, .simple (.nilCheck (.tmp (nat_lit 40)))⟩,
     ⟨(some (nat_lit 42)), none, .simple (.fieldAddr (nat_lit 0) (.tmp (nat_lit 41)))⟩,
     ⟨(some (nat_lit 43)), none, .simple (.fieldAddr (nat_lit 2) (.tmp (nat_lit 42)))⟩,
     ⟨(some (nat_lit 44)), none, .simple (.load none (.tmp (nat_lit 43)))⟩,
     ⟨(some (nat_lit 45)), none, .simple (.move (.tmp (nat_lit 8)))⟩,
     ⟨(some (nat_lit 46)), none, .simple (.indexS (nat_lit 7) (.tmp (nat_lit 44)) (.tmp (nat_lit 45)))⟩,
     ⟨(some (nat_lit 47)), none, .simple (.fieldAddr (nat_lit 1) (.tmp (nat_lit 46)))⟩,
     ⟨(some (nat_lit 48)), none, .simple (.load none (.tmp (nat_lit 47)))⟩,
     ⟨(some (nat_lit 49)), none, .simple (.indexS (nat_lit 1) (.tmp (nat_lit 39)) (.tmp (nat_lit 48)))⟩,
     ⟨(some (nat_lit 50)), none, .simple (.load none (.tmp (nat_lit 49)))⟩,
     ⟨(some (nat_lit 51)), none, .simple (.move (.tmp (nat_lit 9)))⟩,
     ⟨(some (nat_lit 52)), none, .simple (.bin .add (.tmp (nat_lit 50)) (.tmp (nat_lit 51)))⟩,
     ⟨(some (nat_lit 53)), none, .simple (.indexS (nat_lit 1) (.tmp (nat_lit 39)) (.tmp (nat_lit 48)))⟩,
     ⟨none, none, .simple (.store (nat_lit 1) (.tmp (nat_lit 53)) (.tmp (nat_lit 52)))⟩] (some [(nat_lit 0), (nat_lit 7), (nat_lit 17), (nat_lit 18), (nat_lit 19)])))))
  (.region [
    ⟨(some (nat_lit 54)), none, .simple (.bin .add (.tmp (nat_lit 19)) (.const (.int .i64 (.ofNat (nat_lit 1)))))⟩,
    ⟨(some (nat_lit 19)), none, .simple (.move (.tmp (nat_lit 54)))⟩] (some [(nat_lit 0), (nat_lit 7), (nat_lit 17), (nat_lit 18), (nat_lit 19)]))))))))
(.seq (.region [
  ⟨(some (nat_lit 55)), none, .simple (.move (.tmp (nat_lit 7)))⟩,
  ⟨(some (nat_lit 6)), none, .simple (.move (.tmp (nat_lit 55)))⟩] (some [(nat_lit 6)]))
.ret))))
theorem k67 : Try.f67.body.bind (compC Try.prog G67) = some c67 := by kernel_rfl
theorem e67 : compRes Try.prog Try.f67.results.toList = some r67 := by kernel_rfl
def F67 : FunX := ⟨false, G67, c67, r67⟩
theorem o67 : FunOk Try.prog 67 F67 := ⟨Try.f67, by kernel_rfl, k67, e67, by kernel_rfl, by kernel_rfl⟩

/-! 68: contango/contangoref07.Before; parameters 2, captured 0 -/
def G68 : Cfg := ⟨[], [((nat_lit 0), [(nat_lit 0), (nat_lit 1)]), ((nat_lit 1), [(nat_lit 0), (nat_lit 1), (nat_lit 5)]), ((nat_lit 2), [(nat_lit 0), (nat_lit 1), (nat_lit 5), (nat_lit 15)]), ((nat_lit 4), [(nat_lit 0), (nat_lit 1), (nat_lit 5), (nat_lit 26)]), ((nat_lit 5), [(nat_lit 4)]), ((nat_lit 3), [(nat_lit 0), (nat_lit 1), (nat_lit 5)]), ((nat_lit 6), [(nat_lit 4)])], (nat_lit 41), []⟩
def r68 : List CRes := [.tmp (nat_lit 4)]
def c68 : CCode :=
(.seq (.region [
  ⟨(some (nat_lit 4)), none, .simple (.move (.const (.bool false)))⟩] (some [(nat_lit 0), (nat_lit 1)]))
(.seq (.seq (.region [
  ⟨(some (nat_lit 5)), none, .simple (.move (.const (.int .i64 (.ofNat (nat_lit 0)))))⟩] (some [(nat_lit 0), (nat_lit 1), (nat_lit 5)]))
(.block (nat_lit 0) (.loop (.seq (.seq (.region [
    ⟨(some (nat_lit 6)), none, .simple (.move (.tmp (nat_lit 5)))⟩,
    ⟨(some (nat_lit 7)), none, .simple (.move (.tmp (nat_lit 0)))⟩,
    ⟨(some (nat_lit 8)), none, .simple (.len (.tmp (nat_lit 7)))⟩,
    ⟨(some (nat_lit 9)), none, .simple (.bin .lss (.tmp (nat_lit 6)) (.tmp (nat_lit 8)))⟩,
    ⟨(some (nat_lit 10)), none, .simple (.move (.tmp (nat_lit 9)))⟩,
    ⟨(some (nat_lit 11)), (some ((nat_lit 10), true)), .simple (.move (.tmp (nat_lit 5)))⟩,
    ⟨(some (nat_lit 12)), (some ((nat_lit 10), true)), .simple (.move (.tmp (nat_lit 1)))⟩,
    ⟨(some (nat_lit 13)), (some ((nat_lit 10), true)), .simple (.len (.tmp (nat_lit 12)))⟩,
    ⟨(some (nat_lit 14)), (some ((nat_lit 10), true)), .simple (.bin .lss (.tmp (nat_lit 11)) (.tmp (nat_lit 13)))⟩,
    ⟨(some (nat_lit 15)), none, .simple (.pick (.tmp (nat_lit 10)) (.tmp (nat_lit 14)) (.const (.bool false)))⟩] (some [(nat_lit 0), (nat_lit 1), (nat_lit 5), (nat_lit 15)]))
  (.cond (.tmp (nat_lit 15))
   .skip
   (.exit (nat_lit 0))))
  (.seq (.block (nat_lit 1) (.seq (.region [
     ⟨(some (nat_lit 18)), none, .simple (.move (.tmp (nat_lit 0)))⟩,
     ⟨(some (nat_lit 19)), none, .simple (.move (.tmp (nat_lit 5)))⟩,
     ⟨(some (nat_lit 20)), none, .simple (.indexS (nat_lit 1) (.tmp (nat_lit 18)) (.tmp (nat_lit 19)))⟩,
     ⟨(some (nat_lit 21)), none, .simple (.load none (.tmp (nat_lit 20)))⟩,
     ⟨(some (nat_lit 22)), none, .simple (.move (.tmp (nat_lit 1)))⟩,
     ⟨(some (nat_lit 23)), none, .simple (.move (.tmp (nat_lit 5)))⟩,
     ⟨(some (nat_lit 24)), none, .simple (.indexS (nat_lit 1) (.tmp (nat_lit 22)) (.tmp (nat_lit 23)))⟩,
     ⟨(some (nat_lit 25)), none, .simple (.load none (.tmp (nat_lit 24)))⟩,
     ⟨(some (nat_lit 26)), none, .simple (.bin .neq (.tmp (nat_lit 21)) (.tmp (nat_lit 25)))⟩] (some [(nat_lit 0), (nat_lit 1), (nat_lit 5), (nat_lit 26)]))
   (.cond (.tmp (nat_lit 26))
    (.seq (.region [
      ⟨(some (nat_lit 27)), none, .simple (.move (.tmp (nat_lit 0)))⟩,
      ⟨(some (nat_lit 28)), none, .simple (.move (.tmp (nat_lit 5)))⟩,
      ⟨(some (nat_lit 29)), none, .simple (.indexS (nat_lit 1) (.tmp (nat_lit 27)) (.tmp (nat_lit 28)))⟩,
      ⟨(some (nat_lit 30)), none, .simple (.load none (.tmp (nat_lit 29)))⟩,
      ⟨(some (nat_lit 31)), none, .simple (.move (.tmp (nat_lit 1)))⟩,
      ⟨(some (nat_lit 32)), none, .simple (.move (.tmp (nat_lit 5)))⟩,
      ⟨(some (nat_lit 33)), none, .simple (.indexS (nat_lit 1) (.tmp (nat_lit 31)) (.tmp (nat_lit 32)))⟩,
      ⟨(some (nat_lit 34)), none, .simple (.load none (.tmp (nat_lit 33)))⟩,
      ⟨(some (nat_lit 35)), none, .simple (.bin .lss (.tmp (nat_lit 30)) (.tmp (nat_lit 34)))⟩,
      ⟨(some (nat_lit 4)), none, .simple (.move (.tmp (nat_lit 35)))⟩] (some [(nat_lit 4)]))
    .ret)
    .skip)))
  (.region [
    ⟨(some (nat_lit 16)), none, .simple (.move (.tmp (nat_lit 5)))⟩,
    ⟨(some (nat_lit 17)), none, .simple (.bin .add (.tmp (nat_lit 16)) (.const (.int .i64 (.ofNat (nat_lit 1)))))⟩,
    ⟨(some (nat_lit 5)), none, .simple (.move (.tmp (nat_lit 17)))⟩] (some [(nat_lit 0), (nat_lit 1), (nat_lit 5)])))))))
(.seq (.region [
  ⟨(some (nat_lit 36)), none, .simple (.move (.tmp (nat_lit 0)))⟩,
  ⟨(some (nat_lit 37)), none, .simple (.len (.tmp (nat_lit 36)))⟩,
  ⟨(some (nat_lit 38)), none, .simple (.move (.tmp (nat_lit 1)))⟩,
  ⟨(some (nat_lit 39)), none, .simple (.len (.tmp (nat_lit 38)))⟩,
  ⟨(some (nat_lit 40)), none, .simple (.bin .lss (.tmp (nat_lit 37)) (.tmp (nat_lit 39)))⟩,
  ⟨(some (nat_lit 4)), none, .simple (.move (.tmp (nat_lit 40)))⟩] (some [(nat_lit 4)]))
.ret)))
theorem k68 : Try.f68.body.bind (compC Try.prog G68) = some c68 := by kernel_rfl
theorem e68 : compRes Try.prog Try.f68.results.toList = some r68 := by kernel_rfl
def F68 : FunX := ⟨false, G68, c68, r68⟩
theorem o68 : FunOk Try.prog 68 F68 := ⟨Try.f68, by kernel_rfl, k68, e68, by kernel_rfl, by kernel_rfl⟩

/-! 71: contango/coupon.within; parameters 3, captured 0 -/
def G71 : Cfg := ⟨[], [((nat_lit 0), [(nat_lit 0), (nat_lit 1), (nat_lit 2)]), ((nat_lit 1), [(nat_lit 6)])], (nat_lit 15), []⟩
def r71 : List CRes := [.tmp (nat_lit 6)]
def c71 : CCode :=
(.seq (.region [
  ⟨(some (nat_lit 6)), none, .simple (.move (.const (.bool false)))⟩] (some [(nat_lit 0), (nat_lit 1), (nat_lit 2)]))
(.seq (.region [
  ⟨(some (nat_lit 7)), none, .simple (.move (.tmp (nat_lit 1)))⟩,
  ⟨(some (nat_lit 8)), none, .simple (.move (.tmp (nat_lit 0)))⟩,
  ⟨(some (nat_lit 9)), none, .simple (.bin .leq (.tmp (nat_lit 7)) (.tmp (nat_lit 8)))⟩,
  ⟨(some (nat_lit 10)), none, .simple (.move (.tmp (nat_lit 9)))⟩,
  ⟨(some (nat_lit 11)), (some ((nat_lit 10), true)), .simple (.move (.tmp (nat_lit 0)))⟩,
  ⟨(some (nat_lit 12)), (some ((nat_lit 10), true)), .simple (.move (.tmp (nat_lit 2)))⟩,
  ⟨(some (nat_lit 13)), (some ((nat_lit 10), true)), .simple (.bin .leq (.tmp (nat_lit 11)) (.tmp (nat_lit 12)))⟩,
  ⟨(some (nat_lit 14)), none, .simple (.pick (.tmp (nat_lit 10)) (.tmp (nat_lit 13)) (.const (.bool false)))⟩,
  ⟨(some (nat_lit 6)), none, .simple (.move (.tmp (nat_lit 14)))⟩] (some [(nat_lit 6)]))
.ret))
theorem k71 : Try.f71.body.bind (compC Try.prog G71) = some c71 := by kernel_rfl
theorem e71 : compRes Try.prog Try.f71.results.toList = some r71 := by kernel_rfl
def F71 : FunX := ⟨false, G71, c71, r71⟩
theorem o71 : FunOk Try.prog 71 F71 := ⟨Try.f71, by kernel_rfl, k71, e71, by kernel_rfl, by kernel_rfl⟩

/-! 72: (contango/coupon.Company).work; parameters 1, captured 0 -/
def G72 : Cfg := ⟨[(nat_lit 6)], [((nat_lit 0), [(nat_lit 1)]), ((nat_lit 1), [(nat_lit 2)])], (nat_lit 7), []⟩
def r72 : List CRes := [.tmp (nat_lit 2)]
def c72 : CCode :=
(.seq (.region [
  ⟨(some (nat_lit 1)), none, .simple (.box false (.tmp (nat_lit 0)))⟩,
  ⟨(some (nat_lit 2)), none, .simple (.move (.const (.pointer none)))⟩] (some [(nat_lit 1)]))
(.seq (.region [
  ⟨(some (nat_lit 3)), none, .simple (.load (some (nat_lit 6)) (.tmp (nat_lit 1)))⟩,
  ⟨(some (nat_lit 4)), none, .simple (.mkmap)⟩,
  ⟨(some (nat_lit 5)), none, .simple (.build [(.d (.int .i64 (.ofNat (nat_lit 0)))), (.d .nils), (.d .nils), (.d .nils), (.d .nils), (.d .nils), (.d .any)] [((nat_lit 0), (nat_lit 6), (.tmp (nat_lit 3))), ((nat_lit 6), (nat_lit 1), (.tmp (nat_lit 4)))])⟩,
  ⟨(some (nat_lit 6)), none, .simple (.box true (.tmp (nat_lit 5)))⟩,
  ⟨(some (nat_lit 2)), none, .simple (.move (.tmp (nat_lit 6)))⟩] (some [(nat_lit 2)]))
.ret))
theorem k72 : Try.f72.body.bind (compC Try.prog G72) = some c72 := by kernel_rfl
theorem e72 : compRes Try.prog Try.f72.results.toList = some r72 := by kernel_rfl
def F72 : FunX := ⟨false, G72, c72, r72⟩
theorem o72 : FunOk Try.prog 72 F72 := ⟨Try.f72, by kernel_rfl, k72, e72, by kernel_rfl, by kernel_rfl⟩

/-! 73: (*contango/coupon.work).bounds; parameters 3, captured 0 -/
def G73 : Cfg := ⟨[(nat_lit 3), (nat_lit 33), (nat_lit 8), (nat_lit 6), (nat_lit 7)], [((nat_lit 0), [(nat_lit 3), (nat_lit 4), (nat_lit 5), (nat_lit 6), (nat_lit 7), (nat_lit 13)]), ((nat_lit 1), [(nat_lit 3), (nat_lit 4), (nat_lit 5), (nat_lit 6), (nat_lit 7), (nat_lit 12), (nat_lit 13)]), ((nat_lit 2), [(nat_lit 3), (nat_lit 4), (nat_lit 5), (nat_lit 6), (nat_lit 7), (nat_lit 8)]), ((nat_lit 3), [(nat_lit 6), (nat_lit 7), (nat_lit 19), (nat_lit 20), (nat_lit 21)]), ((nat_lit 4), [(nat_lit 6), (nat_lit 7), (nat_lit 19), (nat_lit 20), (nat_lit 21), (nat_lit 22)]), ((nat_lit 5), [(nat_lit 6), (nat_lit 7), (nat_lit 9), (nat_lit 10), (nat_lit 19), (nat_lit 20), (nat_lit 21)]), ((nat_lit 6), [(nat_lit 6), (nat_lit 7), (nat_lit 9), (nat_lit 10), (nat_lit 19), (nat_lit 20), (nat_lit 21), (nat_lit 27)]), ((nat_lit 7), [(nat_lit 6), (nat_lit 7), (nat_lit 9), (nat_lit 10), (nat_lit 19), (nat_lit 20), (nat_lit 21)]), ((nat_lit 8), [(nat_lit 6), (nat_lit 7), (nat_lit 19), (nat_lit 20), (nat_lit 21)]), ((nat_lit 9), [(nat_lit 6), (nat_lit 7), (nat_lit 19), (nat_lit 20), (nat_lit 21)]), ((nat_lit 10), []), ((nat_lit 11), [(nat_lit 6), (nat_lit 7)])], (nat_lit 56), []⟩
def r73 : List CRes := [.cell (nat_lit 6) none, .cell (nat_lit 7) none]
def c73 : CCode :=
(.seq (.region [
  ⟨(some (nat_lit 3)), none, .simple (.box true (.tmp (nat_lit 0)))⟩,
  ⟨(some (nat_lit 4)), none, .simple (.box false (.tmp (nat_lit 1)))⟩,
  ⟨(some (nat_lit 5)), none, .simple (.box false (.tmp (nat_lit 2)))⟩,
  ⟨(some (nat_lit 6)), none, .simple (.alloc [(.d .nils)])⟩,
  ⟨(some (nat_lit 7)), none, .simple (.alloc [(.d (.bool false))])⟩] (some [(nat_lit 3), (nat_lit 4), (nat_lit 5), (nat_lit 6), (nat_lit 7), (nat_lit 13)]))
(.seq (.seq (.region [
  ⟨(some (nat_lit 11)), none, .simple (.load none (.tmp (nat_lit 3)))⟩,
  ⟨(some (nat_lit 12)), none, .call (.func (nat_lit 95)) [(.tmp (nat_lit 11))]⟩] (some [(nat_lit 3), (nat_lit 4), (nat_lit 5), (nat_lit 6), (nat_lit 7), (nat_lit 12), (nat_lit 13)]))
(.block (nat_lit 0) (.rangeF (.tmp (nat_lit 12)) [(nat_lit 13)]
  (.region [
    ⟨(some (nat_lit 8)), none, .simple (.alloc [(.d .nils), (.d .nils)])⟩,
    ⟨none, none, .simple (.store (nat_lit 2) (.tmp (nat_lit 8)) (.tmp (nat_lit 13)))⟩] (some [(nat_lit 3), (nat_lit 4), (nat_lit 5), (nat_lit 6), (nat_lit 7), (nat_lit 8)]))
  (.block (nat_lit 1) (.seq (.seq (.region [
     ⟨(some (nat_lit 14)), none, .simple (.fieldAddr (nat_lit 0) (.tmp (nat_lit 4)))⟩,
     ⟨(some (nat_lit 15)), none, .simple (.load none (.tmp (nat_lit 14)))⟩,
     ⟨(some (nat_lit 16)), none, .simple (.load none (.tmp (nat_lit 3)))⟩,
     ⟨(some (nat_lit 17)), none, .simple (.load (some (nat_lit 2)) (.tmp (nat_lit 8)))⟩,
     ⟨(some (nat_lit 18)), none, .simple (.load (some (nat_lit 3)) (.tmp (nat_lit 5)))⟩,
     ⟨(some (nat_lit 19)), none, .call (.tmp (nat_lit 15)) [(.tmp (nat_lit 16)), (.tmp (nat_lit 17)), (.tmp (nat_lit 18))]⟩,
     ⟨(some (nat_lit 20)), none, .simple (.len (.tmp (nat_lit 19)))⟩,
     ⟨(some (nat_lit 21)), none, .simple (.move (.const (.int .i64 (.ofNat (nat_lit 0)))))⟩] (some [(nat_lit 6), (nat_lit 7), (nat_lit 19), (nat_lit 20), (nat_lit 21)]))
   (.block (nat_lit 2) (.loop (.seq (.region [
       ⟨(some (nat_lit 22)), none, .simple (.bin .lss (.tmp (nat_lit 21)) (.tmp (nat_lit 20)))⟩] (some [(nat_lit 6), (nat_lit 7), (nat_lit 19), (nat_lit 20), (nat_lit 21), (nat_lit 22)]))
     (.seq (.cond (.tmp (nat_lit 22))
      .skip
      (.exit (nat_lit 2)))
     (.seq (.block (nat_lit 3) (.seq (.region [
        ⟨(some (nat_lit 23)), none, .simple (.move (.tmp (nat_lit 21)))⟩,
        ⟨(some (nat_lit 24)), none, .simple (.indexS (nat_lit 1) (.tmp (nat_lit 19)) (.tmp (nat_lit 21)))⟩,
        ⟨(some (nat_lit 25)), none, .simple (.load none (.tmp (nat_lit 24)))⟩,
        ⟨(some (nat_lit 9)), none, .simple (.move (.tmp (nat_lit 23)))⟩,
        ⟨(some (nat_lit 10)), none, .simple (.move (.tmp (nat_lit 25)))⟩] (some [(nat_lit 6), (nat_lit 7), (nat_lit 9), (nat_lit 10), (nat_lit 19), (nat_lit 20), (nat_lit 21)]))
      (.seq (.seq (.region [
        ⟨(some (nat_lit 26)), none, .simple (.load none (.tmp (nat_lit 7)))⟩,
        ⟨(some (nat_lit 27)), none, .simple (.un .not (.tmp (nat_lit 26)))⟩] (some [(nat_lit 6), (nat_lit 7), (nat_lit 9), (nat_lit 10), (nat_lit 19), (nat_lit 20), (nat_lit 21), (nat_lit 27)]))
      (.cond (.tmp (nat_lit 27))
       (.region [
         ⟨(some (nat_lit 28)), none, .simple (.load none (.tmp (nat_lit 6)))⟩,
         ⟨(some (nat_lit 29)), none, .simple (.move (.tmp (nat_lit 10)))⟩,
         ⟨(some (nat_lit 30)), none, .simple (.move (.tmp (nat_lit 10)))⟩,
         ⟨(some (nat_lit 31)), none, .simple (.build [(.d (.int .i64 (.ofNat (nat_lit 0)))), (.d (.int .i64 (.ofNat (nat_lit 0))))] [((nat_lit 0), (nat_lit 1), (.tmp (nat_lit 29))), ((nat_lit 1), (nat_lit 1), (.tmp (nat_lit 30)))])⟩,
         ⟨(some (nat_lit 32)), none, .simple (.bslice false (nat_lit 71) (nat_lit 2) (nat_lit 1) [(.int .i64 (.ofNat (nat_lit 0))), (.int .i64 (.ofNat (nat_lit 0)))] [((nat_lit 0), (.tmp (nat_lit 31)))])⟩,
         ⟨(some (nat_lit 33)), none, .app (nat_lit 71) (nat_lit 2) (nat_lit 16) (.tmp (nat_lit 28)) (.tmp (nat_lit 32))⟩,
         ⟨none, none, .simple (.store (nat_lit 1) (.tmp (nat_lit 6)) (.tmp (nat_lit 33)))⟩] (some [(nat_lit 6), (nat_lit 7), (nat_lit 9), (nat_lit 10), (nat_lit 19), (nat_lit 20), (nat_lit 21)]))
       .skip))
      (.region [
        ⟨(some (nat_lit 34)), none, .simple (.load none (.tmp (nat_lit 6)))⟩,
        ⟨(some (nat_lit 35)), none, .simple (.move (.tmp (nat_lit 9)))⟩,
        ⟨(some (nat_lit 36)), none, .simple (.load none (.tmp (nat_lit 6)))⟩,
        ⟨(some (nat_lit 37)), none, .simple (.move (.tmp (nat_lit 9)))⟩,
        ⟨(some (nat_lit 38)), none, .simple (.indexS (nat_lit 2) (.tmp (nat_lit 36)) (.tmp (nat_lit 37)))⟩,
        ⟨(some (nat_lit 39)), none, .simple (.fieldAddr (nat_lit 0) (.tmp (nat_lit 38)))⟩,
        ⟨(some (nat_lit 40)), none, .simple (.load none (.tmp (nat_lit 39)))⟩,
        ⟨(some (nat_lit 41)), none, .simple (.move (.tmp (nat_lit 10)))⟩,
        ⟨(some (nat_lit 42)), none, .simple (.bslice false (nat_lit 3) (nat_lit 1) (nat_lit 2) [(.int .i64 (.ofNat (nat_lit 0))), (.int .i64 (.ofNat (nat_lit 0)))] [((nat_lit 0), (.tmp (nat_lit 40))), ((nat_lit 1), (.tmp (nat_lit 41)))])⟩,
        ⟨(some (nat_lit 44)), none, .simple (.load none (.tmp (nat_lit 6)))⟩,
        ⟨(some (nat_lit 45)), none, .simple (.move (.tmp (nat_lit 9)))⟩,
        ⟨(some (nat_lit 46)), none, .simple (.indexS (nat_lit 2) (.tmp (nat_lit 44)) (.tmp (nat_lit 45)))⟩,
        ⟨(some (nat_lit 47)), none, .simple (.fieldAddr (nat_lit 1) (.tmp (nat_lit 46)))⟩,
        ⟨(some (nat_lit 48)), none, .simple (.load none (.tmp (nat_lit 47)))⟩,
        ⟨(some (nat_lit 49)), none, .simple (.move (.tmp (nat_lit 10)))⟩,
        ⟨(some (nat_lit 50)), none, .simple (.max [(.tmp (nat_lit 48)), (.tmp (nat_lit 49))])⟩,
        ⟨(some (nat_lit 43)), none, .callx (.func (nat_lit 96)) [(.tmp (nat_lit 42))]⟩,
        ⟨(some (nat_lit 51)), none, .simple (.build [(.d (.int .i64 (.ofNat (nat_lit 0)))), (.d (.int .i64 (.ofNat (nat_lit 0))))] [((nat_lit 0), (nat_lit 1), (.tmp (nat_lit 43))), ((nat_lit 1), (nat_lit 1), (.tmp (nat_lit 50)))])⟩,
        ⟨(some (nat_lit 52)), none, .simple (.indexS (nat_lit 2) (.tmp (nat_lit 34)) (.tmp (nat_lit 35)))⟩,
        ⟨none, none, .simple (.store (nat_lit 2) (.tmp (nat_lit 52)) (.tmp (nat_lit 51)))⟩] (some [(nat_lit 6), (nat_lit 7), (nat_lit 19), (nat_lit 20), (nat_lit 21)])))))
     (.region [
       ⟨(some (nat_lit 53)), none, .simple (.bin .add (.tmp (nat_lit 21)) (.const (.int .i64 (.ofNat (nat_lit 1)))))⟩,
       ⟨(some (nat_lit 21)), none, .simple (.move (.tmp (nat_lit 53)))⟩] (some [(nat_lit 6), (nat_lit 7), (nat_lit 19), (nat_lit 20), (nat_lit 21)]))))))))
   (.region [
     ⟨none, none, .simple (.store (nat_lit 1) (.tmp (nat_lit 7)) (.const (.bool true)))⟩] (some [])))))))
(.seq (.seq (.region [
  ⟨(some (nat_lit 54)), none, .simple (.load none (.tmp (nat_lit 6)))⟩] none)
(.both (.region [
   ⟨(some (nat_lit 55)), none, .simple (.load none (.tmp (nat_lit 7)))⟩,
   ⟨none, none, .simple (.store (nat_lit 1) (.tmp (nat_lit 6)) (.tmp (nat_lit 54)))⟩,
   ⟨none, none, .simple (.store (nat_lit 1) (.tmp (nat_lit 7)) (.tmp (nat_lit 55)))⟩] (some [(nat_lit 6), (nat_lit 7)]))
 (.region [
   ⟨none, none, .simple (.store (nat_lit 1) (.tmp (nat_lit 6)) (.tmp (nat_lit 54)))⟩,
   ⟨(some (nat_lit 55)), none, .simple (.load none (.tmp (nat_lit 7)))⟩,
   ⟨none, none, .simple (.store (nat_lit 1) (.tmp (nat_lit 7)) (.tmp (nat_lit 55)))⟩] (some [(nat_lit 6), (nat_lit 7)]))))
.ret)))
theorem k73 : Try.f73.body.bind (compC Try.prog G73) = some c73 := by kernel_rfl
theorem e73 : compRes Try.prog Try.f73.results.toList = some r73 := by kernel_rfl
def F73 : FunX := ⟨false, G73, c73, r73⟩
theorem o73 : FunOk Try.prog 73 F73 := ⟨Try.f73, by kernel_rfl, k73, e73, by kernel_rfl, by kernel_rfl⟩

/-! 75: contango/coupon.Leave$1; parameters 3, captured 3 -/
def G75 : Cfg := ⟨[(nat_lit 53), (nat_lit 34), (nat_lit 10), (nat_lit 12)], [((nat_lit 0), [(nat_lit 0), (nat_lit 1), (nat_lit 2), (nat_lit 3), (nat_lit 4), (nat_lit 5)]), ((nat_lit 1), [(nat_lit 0), (nat_lit 1), (nat_lit 2), (nat_lit 3), (nat_lit 4), (nat_lit 5), (nat_lit 15)]), ((nat_lit 2), [(nat_lit 0), (nat_lit 3), (nat_lit 4), (nat_lit 10)]), ((nat_lit 3), [(nat_lit 0), (nat_lit 3), (nat_lit 4), (nat_lit 10)]), ((nat_lit 4), [(nat_lit 0), (nat_lit 4), (nat_lit 10), (nat_lit 19), (nat_lit 20), (nat_lit 21)]), ((nat_lit 5), [(nat_lit 0), (nat_lit 4), (nat_lit 10), (nat_lit 19), (nat_lit 20), (nat_lit 21), (nat_lit 22)]), ((nat_lit 6), [(nat_lit 0), (nat_lit 4), (nat_lit 10), (nat_lit 11), (nat_lit 12), (nat_lit 19), (nat_lit 20), (nat_lit 21)]), ((nat_lit 7), [(nat_lit 0), (nat_lit 4), (nat_lit 10), (nat_lit 12), (nat_lit 19), (nat_lit 20), (nat_lit 21), (nat_lit 29)]), ((nat_lit 8), [(nat_lit 0), (nat_lit 4), (nat_lit 10), (nat_lit 19), (nat_lit 20), (nat_lit 21)]), ((nat_lit 9), [(nat_lit 0), (nat_lit 4), (nat_lit 10), (nat_lit 19), (nat_lit 20), (nat_lit 21)]), ((nat_lit 10), [(nat_lit 10)]), ((nat_lit 11), [(nat_lit 9)]), ((nat_lit 12), [(nat_lit 0), (nat_lit 2), (nat_lit 3), (nat_lit 5), (nat_lit 13)]), ((nat_lit 13), [(nat_lit 0), (nat_lit 2), (nat_lit 3), (nat_lit 5), (nat_lit 13), (nat_lit 45)]), ((nat_lit 15), [(nat_lit 0), (nat_lit 2), (nat_lit 3), (nat_lit 5), (nat_lit 13), (nat_lit 58)]), ((nat_lit 16), [(nat_lit 9)]), ((nat_lit 14), [(nat_lit 0), (nat_lit 2), (nat_lit 3), (nat_lit 5), (nat_lit 13)]), ((nat_lit 17), [(nat_lit 9)])], (nat_lit 59), [((nat_lit 10), [((nat_lit 10), (some (nat_lit 2)))])]⟩
def r75 : List CRes := [.tmp (nat_lit 9)]
def c75 : CCode :=
(.seq (.region [
  ⟨(some (nat_lit 9)), none, .simple (.move (.const (.bool false)))⟩] (some [(nat_lit 0), (nat_lit 1), (nat_lit 2), (nat_lit 3), (nat_lit 4), (nat_lit 5)]))
(.seq (.seq (.region [
  ⟨(some (nat_lit 14)), none, .simple (.move (.tmp (nat_lit 2)))⟩,
  ⟨(some (nat_lit 15)), none, .simple (.bin .eql (.tmp (nat_lit 14)) (.const (.int .i64 (.ofNat (nat_lit 0)))))⟩] (some [(nat_lit 0), (nat_lit 1), (nat_lit 2), (nat_lit 3), (nat_lit 4), (nat_lit 5), (nat_lit 15)]))
(.cond (.tmp (nat_lit 15))
 (.seq (.region [
   ⟨(some (nat_lit 16)), none, .simple (.load (some (nat_lit 6)) (.tmp (nat_lit 3)))⟩,
   ⟨(some (nat_lit 10)), none, .simple (.alloc [(.d (.int .i64 (.ofNat (nat_lit 0)))), (.d .nils), (.d .nils), (.d .nils), (.d .nils), (.d .nils)])⟩,
   ⟨none, none, .simple (.store (nat_lit 6) (.tmp (nat_lit 10)) (.tmp (nat_lit 16)))⟩] (some [(nat_lit 0), (nat_lit 3), (nat_lit 4), (nat_lit 10)]))
 (.seq (.region [
   ⟨(some (nat_lit 17)), none, .simple (.fieldAddr (nat_lit 2) (.tmp (nat_lit 10)))⟩,
   ⟨none, none, .simple (.store (nat_lit 1) (.tmp (nat_lit 17)) (.const (.slice none (nat_lit 0) (nat_lit 0))))⟩] (some [(nat_lit 0), (nat_lit 3), (nat_lit 4), (nat_lit 10)]))
 (.seq (.seq (.region [
   ⟨(some (nat_lit 18)), none, .simple (.fieldAddr (nat_lit 2) (.tmp (nat_lit 3)))⟩,
   ⟨(some (nat_lit 19)), none, .simple (.load none (.tmp (nat_lit 18)))⟩,
   ⟨(some (nat_lit 20)), none, .simple (.len (.tmp (nat_lit 19)))⟩,
   ⟨(some (nat_lit 21)), none, .simple (.move (.const (.int .i64 (.ofNat (nat_lit 0)))))⟩] (some [(nat_lit 0), (nat_lit 4), (nat_lit 10), (nat_lit 19), (nat_lit 20), (nat_lit 21)]))
 (.block (nat_lit 0) (.loop (.seq (.region [
     ⟨(some (nat_lit 22)), none, .simple (.bin .lss (.tmp (nat_lit 21)) (.tmp (nat_lit 20)))⟩] (some [(nat_lit 0), (nat_lit 4), (nat_lit 10), (nat_lit 19), (nat_lit 20), (nat_lit 21), (nat_lit 22)]))
   (.seq (.cond (.tmp (nat_lit 22))
    .skip
    (.exit (nat_lit 0)))
   (.seq (.block (nat_lit 1) (.seq (.region [
      ⟨(some (nat_lit 23)), none, .simple (.move (.tmp (nat_lit 21)))⟩,
      ⟨(some (nat_lit 24)), none, .simple (.indexS (nat_lit 7) (.tmp (nat_lit 19)) (.tmp (nat_lit 21)))⟩,
      ⟨(some (nat_lit 25)), none, .simple (.load (some (nat_lit 7)) (.tmp (nat_lit 24)))⟩,
      ⟨(some (nat_lit 12)), none, .simple (.alloc [(.d (.int .i64 (.ofNat (nat_lit 0)))), (.d (.int .i64 (.ofNat (nat_lit 0)))), (.d (.int .i64 (.ofNat (nat_lit 0)))), (.d (.int .i64 (.ofNat (nat_lit 0)))), (.d (.int .i64 (.ofNat (nat_lit 0)))), (.d (.int .i64 (.ofNat (nat_lit 0)))), (.d (.int .i64 (.ofNat (nat_lit 0))))])⟩,
      ⟨(some (nat_lit 11)), none, .simple (.move (.tmp (nat_lit 23)))⟩,
      ⟨none, none, .simple (.store (nat_lit 7) (.tmp (nat_lit 12)) (.tmp (nat_lit 25)))⟩] (some [(nat_lit 0), (nat_lit 4), (nat_lit 10), (nat_lit 11), (nat_lit 12), (nat_lit 19), (nat_lit 20), (nat_lit 21)]))
    (.seq (.region [
      ⟨(some (nat_lit 26)), none, .simple (.move (.tmp (nat_lit 0)))⟩,
      ⟨(some (nat_lit 27)), none, .simple (.move (.tmp (nat_lit 11)))⟩,
      ⟨(some (nat_lit 28)), none, .call (.func (nat_lit 76)) [(.tmp (nat_lit 26)), (.tmp (nat_lit 27))]⟩,
      ⟨(some (nat_lit 29)), none, .simple (.un .not (.tmp (nat_lit 28)))⟩] (some [(nat_lit 0), (nat_lit 4), (nat_lit 10), (nat_lit 12), (nat_lit 19), (nat_lit 20), (nat_lit 21), (nat_lit 29)]))
    (.cond (.tmp (nat_lit 29))
     (.region [
       ⟨(some (nat_lit 30)), none, .simple (.fieldAddr (nat_lit 2) (.tmp (nat_lit 10)))⟩,
       ⟨(some (nat_lit 31)), none, .simple (.load none (.tmp (nat_lit 30)))⟩,
       ⟨(some (nat_lit 32)), none, .simple (.load (some (nat_lit 7)) (.tmp (nat_lit 12)))⟩,
       ⟨(some (nat_lit 33)), none, .simple (.bslice false (nat_lit 93) (nat_lit 7) (nat_lit 1) [(.int .i64 (.ofNat (nat_lit 0))), (.int .i64 (.ofNat (nat_lit 0))), (.int .i64 (.ofNat (nat_lit 0))), (.int .i64 (.ofNat (nat_lit 0))), (.int .i64 (.ofNat (nat_lit 0))), (.int .i64 (.ofNat (nat_lit 0))), (.int .i64 (.ofNat (nat_lit 0)))] [((nat_lit 0), (.tmp (nat_lit 32)))])⟩,
       ⟨(some (nat_lit 34)), none, .app (nat_lit 93) (nat_lit 7) (nat_lit 56) (.tmp (nat_lit 31)) (.tmp (nat_lit 33))⟩,
       ⟨(some (nat_lit 35)), none, .simple (.fieldAddr (nat_lit 2) (.tmp (nat_lit 10)))⟩,
       ⟨none, none, .simple (.store (nat_lit 1) (.tmp (nat_lit 35)) (.tmp (nat_lit 34)))⟩] (some [(nat_lit 0), (nat_lit 4), (nat_lit 10), (nat_lit 19), (nat_lit 20), (nat_lit 21)]))
     .skip))))
   (.region [
     ⟨(some (nat_lit 36)), none, .simple (.bin .add (.tmp (nat_lit 21)) (.const (.int .i64 (.ofNat (nat_lit 1)))))⟩,
     ⟨(some (nat_lit 21)), none, .simple (.move (.tmp (nat_lit 36)))⟩] (some [(nat_lit 0), (nat_lit 4), (nat_lit 10), (nat_lit 19), (nat_lit 20), (nat_lit 21)]))))))))
 (.seq (.seq (.frz ((nat_lit 10), (some (nat_lit 2))))
 (.region [
   ⟨(some (nat_lit 37)), none, .simple (.move (.tmp (nat_lit 0)))⟩,
   ⟨none, none, .simple (.store (nat_lit 1) (.tmp (nat_lit 4)) (.tmp (nat_lit 37)))⟩] (some [(nat_lit 10)])))
 (.seq (.region [
   ⟨(some (nat_lit 38)), none, .simple (.load (some (nat_lit 6)) (.tmp (nat_lit 10)))⟩,
   ⟨(some (nat_lit 39)), none, .call (.func (nat_lit 77)) [(.tmp (nat_lit 38))]⟩,
   ⟨(some (nat_lit 9)), none, .simple (.move (.tmp (nat_lit 39)))⟩] (some [(nat_lit 9)]))
 .ret)))))
 .skip))
(.seq (.seq (.region [
  ⟨(some (nat_lit 40)), none, .simple (.move (.tmp (nat_lit 1)))⟩,
  ⟨(some (nat_lit 13)), none, .simple (.move (.tmp (nat_lit 40)))⟩] (some [(nat_lit 0), (nat_lit 2), (nat_lit 3), (nat_lit 5), (nat_lit 13)]))
(.block (nat_lit 2) (.loop (.seq (.seq (.region [
    ⟨(some (nat_lit 41)), none, .simple (.move (.tmp (nat_lit 13)))⟩,
    ⟨(some (nat_lit 42)), none, .simple (.fieldAddr (nat_lit 2) (.tmp (nat_lit 3)))⟩,
    ⟨(some (nat_lit 43)), none, .simple (.load none (.tmp (nat_lit 42)))⟩,
    ⟨(some (nat_lit 44)), none, .simple (.len (.tmp (nat_lit 43)))⟩,
    ⟨(some (nat_lit 45)), none, .simple (.bin .lss (.tmp (nat_lit 41)) (.tmp (nat_lit 44)))⟩] (some [(nat_lit 0), (nat_lit 2), (nat_lit 3), (nat_lit 5), (nat_lit 13), (nat_lit 45)]))
  (.cond (.tmp (nat_lit 45))
   .skip
   (.exit (nat_lit 2))))
  (.seq (.block (nat_lit 3) (.seq (.seq (.region [
     ⟨(some (nat_lit 49)), none, .simple (.move (.tmp (nat_lit 0)))⟩,
     ⟨(some (nat_lit 51)), none, .simple (.move (.tmp (nat_lit 13)))⟩,
     ⟨(some (nat_lit 52)), none, .simple (.bslice false (nat_lit 3) (nat_lit 1) (nat_lit 1) [(.int .i64 (.ofNat (nat_lit 0)))] [((nat_lit 0), (.tmp (nat_lit 51)))])⟩,
     ⟨(some (nat_lit 54)), none, .simple (.move (.tmp (nat_lit 13)))⟩,
     ⟨(some (nat_lit 55)), none, .simple (.bin .add (.tmp (nat_lit 54)) (.const (.int .i64 (.ofNat (nat_lit 1)))))⟩,
     ⟨(some (nat_lit 56)), none, .simple (.move (.tmp (nat_lit 2)))⟩,
     ⟨(some (nat_lit 57)), none, .simple (.bin .sub (.tmp (nat_lit 56)) (.const (.int .i64 (.ofNat (nat_lit 1)))))⟩] none)
   (.both (.region [
      ⟨(some (nat_lit 48)), none, .simple (.load none (.tmp (nat_lit 5)))⟩,
      ⟨(some (nat_lit 50)), none, .callx (.func (nat_lit 78)) [(.tmp (nat_lit 49))]⟩,
      ⟨(some (nat_lit 53)), none, .app (nat_lit 3) (nat_lit 1) (nat_lit 8) (.tmp (nat_lit 50)) (.tmp (nat_lit 52))⟩,
      ⟨(some (nat_lit 58)), none, .call (.tmp (nat_lit 48)) [(.tmp (nat_lit 53)), (.tmp (nat_lit 55)), (.tmp (nat_lit 57))]⟩] (some [(nat_lit 0), (nat_lit 2), (nat_lit 3), (nat_lit 5), (nat_lit 13), (nat_lit 58)]))
    (.seq (.region [
      ⟨(some (nat_lit 50)), none, .callx (.func (nat_lit 78)) [(.tmp (nat_lit 49))]⟩] none)
    (.both (.region [
       ⟨(some (nat_lit 48)), none, .simple (.load none (.tmp (nat_lit 5)))⟩,
       ⟨(some (nat_lit 53)), none, .app (nat_lit 3) (nat_lit 1) (nat_lit 8) (.tmp (nat_lit 50)) (.tmp (nat_lit 52))⟩,
       ⟨(some (nat_lit 58)), none, .call (.tmp (nat_lit 48)) [(.tmp (nat_lit 53)), (.tmp (nat_lit 55)), (.tmp (nat_lit 57))]⟩] (some [(nat_lit 0), (nat_lit 2), (nat_lit 3), (nat_lit 5), (nat_lit 13), (nat_lit 58)]))
     (.region [
       ⟨(some (nat_lit 53)), none, .app (nat_lit 3) (nat_lit 1) (nat_lit 8) (.tmp (nat_lit 50)) (.tmp (nat_lit 52))⟩,
       ⟨(some (nat_lit 48)), none, .simple (.load none (.tmp (nat_lit 5)))⟩,
       ⟨(some (nat_lit 58)), none, .call (.tmp (nat_lit 48)) [(.tmp (nat_lit 53)), (.tmp (nat_lit 55)), (.tmp (nat_lit 57))]⟩] (some [(nat_lit 0), (nat_lit 2), (nat_lit 3), (nat_lit 5), (nat_lit 13), (nat_lit 58)]))))))
   (.cond (.tmp (nat_lit 58))
    (.seq (.region [
      ⟨(some (nat_lit 9)), none, .simple (.move (.const (.bool true)))⟩] (some [(nat_lit 9)]))
    .ret)
    .skip)))
  (.region [
    ⟨(some (nat_lit 46)), none, .simple (.move (.tmp (nat_lit 13)))⟩,
    ⟨(some (nat_lit 47)), none, .simple (.bin .add (.tmp (nat_lit 46)) (.const (.int .i64 (.ofNat (nat_lit 1)))))⟩,
    ⟨(some (nat_lit 13)), none, .simple (.move (.tmp (nat_lit 47)))⟩] (some [(nat_lit 0), (nat_lit 2), (nat_lit 3), (nat_lit 5), (nat_lit 13)])))))))
(.seq (.region [
  ⟨(some (nat_lit 9)), none, .simple (.move (.const (.bool false)))⟩] (some [(nat_lit 9)]))
.ret))))
theorem k75 : Try.f75.body.bind (compC Try.prog G75) = some c75 := by kernel_rfl
theorem e75 : compRes Try.prog Try.f75.results.toList = some r75 := by kernel_rfl
def F75 : FunX := ⟨false, G75, c75, r75⟩
theorem o75 : FunOk Try.prog 75 F75 := ⟨Try.f75, by kernel_rfl, k75, e75, by kernel_rfl, by kernel_rfl⟩

/-! 76: slices.Contains[[]int,int]; parameters 2, captured 0 -/
def G76 : Cfg := ⟨[], [((nat_lit 0), [(nat_lit 0), (nat_lit 1)]), ((nat_lit 1), [(nat_lit 4)])], (nat_lit 9), []⟩
def r76 : List CRes := [.tmp (nat_lit 4)]
def c76 : CCode :=
(.seq (.region [
  ⟨(some (nat_lit 4)), none, .simple (.move (.const (.bool false)))⟩] (some [(nat_lit 0), (nat_lit 1)]))
(.seq (.region [
  ⟨(some (nat_lit 5)), none, .simple (.move (.tmp (nat_lit 0)))⟩,
  ⟨(some (nat_lit 6)), none, .simple (.move (.tmp (nat_lit 1)))⟩,
  ⟨(some (nat_lit 7)), none, .call (.func (nat_lit 97)) [(.tmp (nat_lit 5)), (.tmp (nat_lit 6))]⟩,
  ⟨(some (nat_lit 8)), none, .simple (.bin .geq (.tmp (nat_lit 7)) (.const (.int .i64 (.ofNat (nat_lit 0)))))⟩,
  ⟨(some (nat_lit 4)), none, .simple (.move (.tmp (nat_lit 8)))⟩] (some [(nat_lit 4)]))
.ret))
theorem k76 : Try.f76.body.bind (compC Try.prog G76) = some c76 := by kernel_rfl
theorem e76 : compRes Try.prog Try.f76.results.toList = some r76 := by kernel_rfl
def F76 : FunX := ⟨false, G76, c76, r76⟩
theorem o76 : FunOk Try.prog 76 F76 := ⟨Try.f76, by kernel_rfl, k76, e76, by kernel_rfl, by kernel_rfl⟩

/-! 77: (contango/coupon.Company).possible; parameters 1, captured 0 -/
def G77 : Cfg := ⟨[(nat_lit 2)], [((nat_lit 0), [(nat_lit 1), (nat_lit 2)]), ((nat_lit 1), [(nat_lit 2), (nat_lit 5)]), ((nat_lit 2), [(nat_lit 2)]), ((nat_lit 3), [(nat_lit 2)])], (nat_lit 7), []⟩
def r77 : List CRes := [.cell (nat_lit 2) none]
def c77 : CCode :=
(.seq (.region [
  ⟨(some (nat_lit 1)), none, .simple (.box false (.tmp (nat_lit 0)))⟩,
  ⟨(some (nat_lit 2)), none, .simple (.alloc [(.d (.bool false))])⟩] (some [(nat_lit 1), (nat_lit 2)]))
(.seq (.seq (.region [
  ⟨(some (nat_lit 3)), none, .simple (.load (some (nat_lit 6)) (.tmp (nat_lit 1)))⟩,
  ⟨(some (nat_lit 4)), none, .call (.func (nat_lit 72)) [(.tmp (nat_lit 3))]⟩,
  ⟨(some (nat_lit 5)), none, .call (.func (nat_lit 95)) [(.tmp (nat_lit 4))]⟩] (some [(nat_lit 2), (nat_lit 5)]))
(.block (nat_lit 0) (.rangeF (.tmp (nat_lit 5)) [(nat_lit 6)]
  .skip
  (.block (nat_lit 1) (.seq (.region [
     ⟨none, none, .simple (.store (nat_lit 1) (.tmp (nat_lit 2)) (.const (.bool true)))⟩] (some [(nat_lit 2)]))
   .ret)))))
(.seq (.region [
  ⟨none, none, .simple (.store (nat_lit 1) (.tmp (nat_lit 2)) (.const (.bool false)))⟩] (some [(nat_lit 2)]))
.ret)))
theorem k77 : Try.f77.body.bind (compC Try.prog G77) = some c77 := by kernel_rfl
theorem e77 : compRes Try.prog Try.f77.results.toList = some r77 := by kernel_rfl
def F77 : FunX := ⟨false, G77, c77, r77⟩
theorem o77 : FunOk Try.prog 77 F77 := ⟨Try.f77, by kernel_rfl, k77, e77, by kernel_rfl, by kernel_rfl⟩

/-! 78: slices.Clone[[]int,int]; parameters 1, captured 0 -/
def G78 : Cfg := ⟨[(nat_lit 7), (nat_lit 5)], [((nat_lit 0), [(nat_lit 0)]), ((nat_lit 1), [(nat_lit 0), (nat_lit 4)]), ((nat_lit 2), [(nat_lit 2)]), ((nat_lit 3), [(nat_lit 2)])], (nat_lit 8), []⟩
def r78 : List CRes := [.tmp (nat_lit 2)]
def c78 : CCode :=
(.seq (.region [
  ⟨(some (nat_lit 2)), none, .simple (.move (.const (.slice none (nat_lit 0) (nat_lit 0))))⟩] (some [(nat_lit 0)]))
(.seq (.seq (.region [
  ⟨(some (nat_lit 3)), none, .simple (.move (.tmp (nat_lit 0)))⟩,
  ⟨(some (nat_lit 4)), none, .simple (.isNil (nat_lit 0) false (.tmp (nat_lit 3)))⟩] (some [(nat_lit 0), (nat_lit 4)]))
(.cond (.tmp (nat_lit 4))
 (.seq (.region [
   ⟨(some (nat_lit 2)), none, .simple (.move (.const (.slice none (nat_lit 0) (nat_lit 0))))⟩] (some [(nat_lit 2)]))
 .ret)
 .skip))
(.seq (.region [
  ⟨(some (nat_lit 5)), none, .simple (.bslice true (nat_lit 3) (nat_lit 1) (nat_lit 0) [] [])⟩,
  ⟨(some (nat_lit 6)), none, .simple (.move (.tmp (nat_lit 0)))⟩,
  ⟨(some (nat_lit 7)), none, .app (nat_lit 3) (nat_lit 1) (nat_lit 8) (.tmp (nat_lit 5)) (.tmp (nat_lit 6))⟩,
  ⟨(some (nat_lit 2)), none, .simple (.move (.tmp (nat_lit 7)))⟩] (some [(nat_lit 2)]))
.ret)))
theorem k78 : Try.f78.body.bind (compC Try.prog G78) = some c78 := by kernel_rfl
theorem e78 : compRes Try.prog Try.f78.results.toList = some r78 := by kernel_rfl
def F78 : FunX := ⟨false, G78, c78, r78⟩
theorem o78 : FunOk Try.prog 78 F78 := ⟨Try.f78, by kernel_rfl, k78, e78, by kernel_rfl, by kernel_rfl⟩

/-! 82: (contango/coupon.Company).registered; parameters 2, captured 0 -/
def G82 : Cfg := ⟨[(nat_lit 3)], [((nat_lit 0), [(nat_lit 2), (nat_lit 3)]), ((nat_lit 1), [(nat_lit 2), (nat_lit 3), (nat_lit 6)]), ((nat_lit 3), [(nat_lit 2), (nat_lit 3), (nat_lit 13)]), ((nat_lit 4), [(nat_lit 4)]), ((nat_lit 2), [(nat_lit 2), (nat_lit 3)]), ((nat_lit 5), [(nat_lit 4)])], (nat_lit 15), []⟩
def r82 : List CRes := [.tmp (nat_lit 4)]
def c82 : CCode :=
(.seq (.region [
  ⟨(some (nat_lit 2)), none, .simple (.box false (.tmp (nat_lit 0)))⟩,
  ⟨(some (nat_lit 3)), none, .simple (.box true (.tmp (nat_lit 1)))⟩,
  ⟨(some (nat_lit 4)), none, .simple (.move (.const (.int .i64 (.ofNat (nat_lit 0)))))⟩] (some [(nat_lit 2), (nat_lit 3)]))
(.seq (.block (nat_lit 0) (.loop (.seq (.seq (.region [
    ⟨(some (nat_lit 5)), none, .simple (.load none (.tmp (nat_lit 3)))⟩,
    ⟨(some (nat_lit 6)), none, .call (.func (nat_lit 59)) [(.tmp (nat_lit 5))]⟩] (some [(nat_lit 2), (nat_lit 3), (nat_lit 6)]))
  (.cond (.tmp (nat_lit 6))
   .skip
   (.exit (nat_lit 0))))
  (.seq (.block (nat_lit 1) (.seq (.region [
     ⟨(some (nat_lit 9)), none, .simple (.fieldAddr (nat_lit 5) (.tmp (nat_lit 2)))⟩,
     ⟨(some (nat_lit 10)), none, .simple (.load none (.tmp (nat_lit 9)))⟩,
     ⟨(some (nat_lit 11)), none, .simple (.mkfn (.func (nat_lit 99)) [] [(.tmp (nat_lit 3))])⟩,
     ⟨(some (nat_lit 12)), none, .call (.func (nat_lit 98)) [(.tmp (nat_lit 10)), (.tmp (nat_lit 11))]⟩,
     ⟨(some (nat_lit 13)), none, .simple (.un .not (.tmp (nat_lit 12)))⟩] (some [(nat_lit 2), (nat_lit 3), (nat_lit 13)]))
   (.cond (.tmp (nat_lit 13))
    (.seq (.region [
      ⟨(some (nat_lit 14)), none, .simple (.load none (.tmp (nat_lit 3)))⟩,
      ⟨(some (nat_lit 4)), none, .simple (.move (.tmp (nat_lit 14)))⟩] (some [(nat_lit 4)]))
    .ret)
    .skip)))
  (.region [
    ⟨(some (nat_lit 7)), none, .simple (.load none (.tmp (nat_lit 3)))⟩,
    ⟨(some (nat_lit 8)), none, .simple (.bin .add (.tmp (nat_lit 7)) (.const (.int .i64 (.ofNat (nat_lit 1)))))⟩,
    ⟨none, none, .simple (.store (nat_lit 1) (.tmp (nat_lit 3)) (.tmp (nat_lit 8)))⟩] (some [(nat_lit 2), (nat_lit 3)]))))))
(.seq (.region [
  ⟨(some (nat_lit 4)), none, .simple (.move (.const (.int .i64 (.negSucc (nat_lit 0)))))⟩] (some [(nat_lit 4)]))
.ret)))
theorem k82 : Try.f82.body.bind (compC Try.prog G82) = some c82 := by kernel_rfl
theorem e82 : compRes Try.prog Try.f82.results.toList = some r82 := by kernel_rfl
def F82 : FunX := ⟨false, G82, c82, r82⟩
theorem o82 : FunOk Try.prog 82 F82 := ⟨Try.f82, by kernel_rfl, k82, e82, by kernel_rfl, by kernel_rfl⟩

/-! 83: (contango/coupon.Company).trade; parameters 2, captured 0 -/
def G83 : Cfg := ⟨[], [((nat_lit 0), [(nat_lit 2), (nat_lit 3)]), ((nat_lit 1), [(nat_lit 4)])], (nat_lit 37), []⟩
def r83 : List CRes := [.tmp (nat_lit 4)]
def c83 : CCode :=
(.seq (.region [
  ⟨(some (nat_lit 2)), none, .simple (.box false (.tmp (nat_lit 0)))⟩,
  ⟨(some (nat_lit 3)), none, .simple (.box false (.tmp (nat_lit 1)))⟩,
  ⟨(some (nat_lit 4)), none, .simple (.move (.const (.bool false)))⟩] (some [(nat_lit 2), (nat_lit 3)]))
(.seq (.region [
  ⟨(some (nat_lit 5)), none, .simple (.load (some (nat_lit 6)) (.tmp (nat_lit 2)))⟩,
  ⟨(some (nat_lit 6)), none, .simple (.fieldAddr (nat_lit 0) (.tmp (nat_lit 3)))⟩,
  ⟨(some (nat_lit 7)), none, .simple (.load none (.tmp (nat_lit 6)))⟩,
  ⟨(some (nat_lit 8)), none, .call (.func (nat_lit 100)) [(.tmp (nat_lit 5)), (.tmp (nat_lit 7))]⟩,
  ⟨(some (nat_lit 9)), none, .simple (.move (.tmp (nat_lit 8)))⟩,
  ⟨(some (nat_lit 10)), (some ((nat_lit 9), true)), .simple (.load (some (nat_lit 6)) (.tmp (nat_lit 2)))⟩,
  ⟨(some (nat_lit 11)), (some ((nat_lit 9), true)), .simple (.fieldAddr (nat_lit 1) (.tmp (nat_lit 3)))⟩,
  ⟨(some (nat_lit 12)), (some ((nat_lit 9), true)), .simple (.load none (.tmp (nat_lit 11)))⟩,
  ⟨(some (nat_lit 13)), (some ((nat_lit 9), true)), .call (.func (nat_lit 100)) [(.tmp (nat_lit 10)), (.tmp (nat_lit 12))]⟩,
  ⟨(some (nat_lit 14)), none, .simple (.pick (.tmp (nat_lit 9)) (.tmp (nat_lit 13)) (.const (.bool false)))⟩,
  ⟨(some (nat_lit 15)), none, .simple (.move (.tmp (nat_lit 14)))⟩,
  ⟨(some (nat_lit 16)), (some ((nat_lit 15), true)), .simple (.fieldAddr (nat_lit 0) (.tmp (nat_lit 3)))⟩,
  ⟨(some (nat_lit 17)), (some ((nat_lit 15), true)), .simple (.load none (.tmp (nat_lit 16)))⟩,
  ⟨(some (nat_lit 18)), (some ((nat_lit 15), true)), .simple (.fieldAddr (nat_lit 1) (.tmp (nat_lit 3)))⟩,
  ⟨(some (nat_lit 19)), (some ((nat_lit 15), true)), .simple (.load none (.tmp (nat_lit 18)))⟩,
  ⟨(some (nat_lit 20)), (some ((nat_lit 15), true)), .simple (.bin .neq (.tmp (nat_lit 17)) (.tmp (nat_lit 19)))⟩,
  ⟨(some (nat_lit 21)), none, .simple (.pick (.tmp (nat_lit 15)) (.tmp (nat_lit 20)) (.const (.bool false)))⟩,
  ⟨(some (nat_lit 22)), none, .simple (.move (.tmp (nat_lit 21)))⟩,
  ⟨(some (nat_lit 23)), (some ((nat_lit 22), true)), .simple (.fieldAddr (nat_lit 2) (.tmp (nat_lit 3)))⟩,
  ⟨(some (nat_lit 24)), (some ((nat_lit 22), true)), .simple (.load none (.tmp (nat_lit 23)))⟩,
  ⟨(some (nat_lit 25)), (some ((nat_lit 22), true)), .call (.func (nat_lit 71)) [(.tmp (nat_lit 24)), (.const (.int .i64 (.ofNat (nat_lit 1)))), (.const (.int .i64 (.ofNat (nat_lit 100))))]⟩,
  ⟨(some (nat_lit 26)), none, .simple (.pick (.tmp (nat_lit 22)) (.tmp (nat_lit 25)) (.const (.bool false)))⟩,
  ⟨(some (nat_lit 27)), none, .simple (.move (.tmp (nat_lit 26)))⟩,
  ⟨(some (nat_lit 28)), (some ((nat_lit 27), true)), .simple (.fieldAddr (nat_lit 3) (.tmp (nat_lit 3)))⟩,
  ⟨(some (nat_lit 29)), (some ((nat_lit 27), true)), .simple (.load (some (nat_lit 2)) (.tmp (nat_lit 28)))⟩,
  ⟨(some (nat_lit 30)), (some ((nat_lit 27), true)), .call (.func (nat_lit 101)) [(.tmp (nat_lit 29))]⟩,
  ⟨(some (nat_lit 31)), none, .simple (.pick (.tmp (nat_lit 27)) (.tmp (nat_lit 30)) (.const (.bool false)))⟩,
  ⟨(some (nat_lit 32)), none, .simple (.move (.tmp (nat_lit 31)))⟩,
  ⟨(some (nat_lit 33)), (some ((nat_lit 32), true)), .simple (.fieldAddr (nat_lit 5) (.tmp (nat_lit 3)))⟩,
  ⟨(some (nat_lit 34)), (some ((nat_lit 32), true)), .simple (.load (some (nat_lit 2)) (.tmp (nat_lit 33)))⟩,
  ⟨(some (nat_lit 35)), (some ((nat_lit 32), true)), .call (.func (nat_lit 101)) [(.tmp (nat_lit 34))]⟩,
  ⟨(some (nat_lit 36)), none, .simple (.pick (.tmp (nat_lit 32)) (.tmp (nat_lit 35)) (.const (.bool false)))⟩,
  ⟨(some (nat_lit 4)), none, .simple (.move (.tmp (nat_lit 36)))⟩] (some [(nat_lit 4)]))
.ret))
theorem k83 : Try.f83.body.bind (compC Try.prog G83) = some c83 := by kernel_rfl
theorem e83 : compRes Try.prog Try.f83.results.toList = some r83 := by kernel_rfl
def F83 : FunX := ⟨false, G83, c83, r83⟩
theorem o83 : FunOk Try.prog 83 F83 := ⟨Try.f83, by kernel_rfl, k83, e83, by kernel_rfl, by kernel_rfl⟩

end Go.Proofs.Ytdnefcjbcieecaa
