import Derived.Test.YtdnefcjbcieecaaCoreX
import Derived.Test.YtdnefcjbcieecaaProg
import Derived.KernelRfl
namespace Go.Proofs.Ytdnefcjbcieecaa
open Go Go.Proofs

/-! 84: contango/coupon.all[int]; parameters 2, captured 0 -/
def G84 : Cfg := ⟨[(nat_lit 3)], [((nat_lit 0), [(nat_lit 0), (nat_lit 3)]), ((nat_lit 1), [(nat_lit 4)])], (nat_lit 9), []⟩
def r84 : List CRes := [.tmp (nat_lit 4)]
def c84 : CCode :=
(.seq (.region [
  ⟨(some (nat_lit 3)), none, .simple (.box true (.tmp (nat_lit 1)))⟩,
  ⟨(some (nat_lit 4)), none, .simple (.move (.const (.bool false)))⟩] (some [(nat_lit 0), (nat_lit 3)]))
(.seq (.region [
  ⟨(some (nat_lit 5)), none, .simple (.move (.tmp (nat_lit 0)))⟩,
  ⟨(some (nat_lit 6)), none, .simple (.mkfn (.func (nat_lit 103)) [] [(.tmp (nat_lit 3))])⟩,
  ⟨(some (nat_lit 7)), none, .call (.func (nat_lit 102)) [(.tmp (nat_lit 5)), (.tmp (nat_lit 6))]⟩,
  ⟨(some (nat_lit 8)), none, .simple (.un .not (.tmp (nat_lit 7)))⟩,
  ⟨(some (nat_lit 4)), none, .simple (.move (.tmp (nat_lit 8)))⟩] (some [(nat_lit 4)]))
.ret))
theorem k84 : Try.f84.body.bind (compC Try.prog G84) = some c84 := by kernel_rfl
theorem e84 : compRes Try.prog Try.f84.results.toList = some r84 := by kernel_rfl
def F84 : FunX := ⟨false, G84, c84, r84⟩
theorem o84 : FunOk Try.prog 84 F84 := ⟨Try.f84, by kernel_rfl, k84, e84, by kernel_rfl, by kernel_rfl⟩

/-! 85: (contango/coupon.Range).has; parameters 2, captured 0 -/
def G85 : Cfg := ⟨[], [((nat_lit 0), [(nat_lit 1), (nat_lit 2)]), ((nat_lit 1), [(nat_lit 4)])], (nat_lit 11), []⟩
def r85 : List CRes := [.tmp (nat_lit 4)]
def c85 : CCode :=
(.seq (.region [
  ⟨(some (nat_lit 2)), none, .simple (.box false (.tmp (nat_lit 0)))⟩,
  ⟨(some (nat_lit 4)), none, .simple (.move (.const (.bool false)))⟩] (some [(nat_lit 1), (nat_lit 2)]))
(.seq (.region [
  ⟨(some (nat_lit 5)), none, .simple (.move (.tmp (nat_lit 1)))⟩,
  ⟨(some (nat_lit 6)), none, .simple (.fieldAddr (nat_lit 0) (.tmp (nat_lit 2)))⟩,
  ⟨(some (nat_lit 7)), none, .simple (.load none (.tmp (nat_lit 6)))⟩,
  ⟨(some (nat_lit 8)), none, .simple (.fieldAddr (nat_lit 1) (.tmp (nat_lit 2)))⟩,
  ⟨(some (nat_lit 9)), none, .simple (.load none (.tmp (nat_lit 8)))⟩,
  ⟨(some (nat_lit 10)), none, .call (.func (nat_lit 71)) [(.tmp (nat_lit 5)), (.tmp (nat_lit 7)), (.tmp (nat_lit 9))]⟩,
  ⟨(some (nat_lit 4)), none, .simple (.move (.tmp (nat_lit 10)))⟩] (some [(nat_lit 4)]))
.ret))
theorem k85 : Try.f85.body.bind (compC Try.prog G85) = some c85 := by kernel_rfl
theorem e85 : compRes Try.prog Try.f85.results.toList = some r85 := by kernel_rfl
def F85 : FunX := ⟨false, G85, c85, r85⟩
theorem o85 : FunOk Try.prog 85 F85 := ⟨Try.f85, by kernel_rfl, k85, e85, by kernel_rfl, by kernel_rfl⟩

/-! 86: contango/coupon.all[contango/coupon.Trade]; parameters 2, captured 0 -/
def G86 : Cfg := ⟨[(nat_lit 3)], [((nat_lit 0), [(nat_lit 0), (nat_lit 3)]), ((nat_lit 1), [(nat_lit 4)])], (nat_lit 9), []⟩
def r86 : List CRes := [.tmp (nat_lit 4)]
def c86 : CCode :=
(.seq (.region [
  ⟨(some (nat_lit 3)), none, .simple (.box true (.tmp (nat_lit 1)))⟩,
  ⟨(some (nat_lit 4)), none, .simple (.move (.const (.bool false)))⟩] (some [(nat_lit 0), (nat_lit 3)]))
(.seq (.region [
  ⟨(some (nat_lit 5)), none, .simple (.move (.tmp (nat_lit 0)))⟩,
  ⟨(some (nat_lit 6)), none, .simple (.mkfn (.func (nat_lit 105)) [] [(.tmp (nat_lit 3))])⟩,
  ⟨(some (nat_lit 7)), none, .call (.func (nat_lit 104)) [(.tmp (nat_lit 5)), (.tmp (nat_lit 6))]⟩,
  ⟨(some (nat_lit 8)), none, .simple (.un .not (.tmp (nat_lit 7)))⟩,
  ⟨(some (nat_lit 4)), none, .simple (.move (.tmp (nat_lit 8)))⟩] (some [(nat_lit 4)]))
.ret))
theorem k86 : Try.f86.body.bind (compC Try.prog G86) = some c86 := by kernel_rfl
theorem e86 : compRes Try.prog Try.f86.results.toList = some r86 := by kernel_rfl
def F86 : FunX := ⟨false, G86, c86, r86⟩
theorem o86 : FunOk Try.prog 86 F86 := ⟨Try.f86, by kernel_rfl, k86, e86, by kernel_rfl, by kernel_rfl⟩

/-! 87: contango/coupon.all[contango/coupon.Dividend]; parameters 2, captured 0 -/
def G87 : Cfg := ⟨[(nat_lit 3)], [((nat_lit 0), [(nat_lit 0), (nat_lit 3)]), ((nat_lit 1), [(nat_lit 4)])], (nat_lit 9), []⟩
def r87 : List CRes := [.tmp (nat_lit 4)]
def c87 : CCode :=
(.seq (.region [
  ⟨(some (nat_lit 3)), none, .simple (.box true (.tmp (nat_lit 1)))⟩,
  ⟨(some (nat_lit 4)), none, .simple (.move (.const (.bool false)))⟩] (some [(nat_lit 0), (nat_lit 3)]))
(.seq (.region [
  ⟨(some (nat_lit 5)), none, .simple (.move (.tmp (nat_lit 0)))⟩,
  ⟨(some (nat_lit 6)), none, .simple (.mkfn (.func (nat_lit 107)) [] [(.tmp (nat_lit 3))])⟩,
  ⟨(some (nat_lit 7)), none, .call (.func (nat_lit 106)) [(.tmp (nat_lit 5)), (.tmp (nat_lit 6))]⟩,
  ⟨(some (nat_lit 8)), none, .simple (.un .not (.tmp (nat_lit 7)))⟩,
  ⟨(some (nat_lit 4)), none, .simple (.move (.tmp (nat_lit 8)))⟩] (some [(nat_lit 4)]))
.ret))
theorem k87 : Try.f87.body.bind (compC Try.prog G87) = some c87 := by kernel_rfl
theorem e87 : compRes Try.prog Try.f87.results.toList = some r87 := by kernel_rfl
def F87 : FunX := ⟨false, G87, c87, r87⟩
theorem o87 : FunOk Try.prog 87 F87 := ⟨Try.f87, by kernel_rfl, k87, e87, by kernel_rfl, by kernel_rfl⟩

/-! 88: (contango/coupon.Dividend).valid; parameters 1, captured 0 -/
def G88 : Cfg := ⟨[], [((nat_lit 0), [(nat_lit 1)]), ((nat_lit 1), [(nat_lit 2)])], (nat_lit 14), []⟩
def r88 : List CRes := [.tmp (nat_lit 2)]
def c88 : CCode :=
(.seq (.region [
  ⟨(some (nat_lit 1)), none, .simple (.box false (.tmp (nat_lit 0)))⟩,
  ⟨(some (nat_lit 2)), none, .simple (.move (.const (.bool false)))⟩] (some [(nat_lit 1)]))
(.seq (.region [
  ⟨(some (nat_lit 3)), none, .simple (.fieldAddr (nat_lit 0) (.tmp (nat_lit 1)))⟩,
  ⟨(some (nat_lit 4)), none, .simple (.load none (.tmp (nat_lit 3)))⟩,
  ⟨(some (nat_lit 5)), none, .simple (.fieldAddr (nat_lit 1) (.tmp (nat_lit 1)))⟩,
  ⟨(some (nat_lit 6)), none, .simple (.load none (.tmp (nat_lit 5)))⟩,
  ⟨(some (nat_lit 7)), none, .simple (.build [(.d (.int .i64 (.ofNat (nat_lit 0)))), (.d (.int .i64 (.ofNat (nat_lit 0))))] [((nat_lit 0), (nat_lit 1), (.tmp (nat_lit 4))), ((nat_lit 1), (nat_lit 1), (.tmp (nat_lit 6)))])⟩,
  ⟨(some (nat_lit 8)), none, .call (.func (nat_lit 91)) [(.tmp (nat_lit 7))]⟩,
  ⟨(some (nat_lit 9)), none, .simple (.move (.tmp (nat_lit 8)))⟩,
  ⟨(some (nat_lit 10)), (some ((nat_lit 9), true)), .simple (.fieldAddr (nat_lit 2) (.tmp (nat_lit 1)))⟩,
  ⟨(some (nat_lit 11)), (some ((nat_lit 9), true)), .simple (.load none (.tmp (nat_lit 10)))⟩,
  ⟨(some (nat_lit 12)), (some ((nat_lit 9), true)), .call (.func (nat_lit 71)) [(.tmp (nat_lit 11)), (.const (.int .i64 (.ofNat (nat_lit 0)))), (.const (.int .i64 (.ofNat (nat_lit 50))))]⟩,
  ⟨(some (nat_lit 13)), none, .simple (.pick (.tmp (nat_lit 9)) (.tmp (nat_lit 12)) (.const (.bool false)))⟩,
  ⟨(some (nat_lit 2)), none, .simple (.move (.tmp (nat_lit 13)))⟩] (some [(nat_lit 2)]))
.ret))
theorem k88 : Try.f88.body.bind (compC Try.prog G88) = some c88 := by kernel_rfl
theorem e88 : compRes Try.prog Try.f88.results.toList = some r88 := by kernel_rfl
def F88 : FunX := ⟨false, G88, c88, r88⟩
theorem o88 : FunOk Try.prog 88 F88 := ⟨Try.f88, by kernel_rfl, k88, e88, by kernel_rfl, by kernel_rfl⟩

/-! 89: (contango/coupon.Company).split; parameters 1, captured 0 -/
def G89 : Cfg := ⟨[(nat_lit 3)], [((nat_lit 0), [(nat_lit 1)]), ((nat_lit 1), [(nat_lit 1), (nat_lit 3)]), ((nat_lit 2), [(nat_lit 2)])], (nat_lit 8), []⟩
def r89 : List CRes := [.tmp (nat_lit 2)]
def c89 : CCode :=
(.seq (.region [
  ⟨(some (nat_lit 1)), none, .simple (.box false (.tmp (nat_lit 0)))⟩,
  ⟨(some (nat_lit 2)), none, .simple (.move (.const (.bool false)))⟩] (some [(nat_lit 1)]))
(.seq (.region [
  ⟨(some (nat_lit 3)), none, .simple (.alloc [(.d (.int .i64 (.ofNat (nat_lit 0))))])⟩,
  ⟨none, none, .simple (.store (nat_lit 1) (.tmp (nat_lit 3)) (.const (.int .i64 (.negSucc (nat_lit 0)))))⟩] (some [(nat_lit 1), (nat_lit 3)]))
(.seq (.region [
  ⟨(some (nat_lit 4)), none, .simple (.fieldAddr (nat_lit 4) (.tmp (nat_lit 1)))⟩,
  ⟨(some (nat_lit 5)), none, .simple (.load none (.tmp (nat_lit 4)))⟩,
  ⟨(some (nat_lit 6)), none, .simple (.mkfn (.func (nat_lit 109)) [] [(.tmp (nat_lit 3))])⟩,
  ⟨(some (nat_lit 7)), none, .call (.func (nat_lit 108)) [(.tmp (nat_lit 5)), (.tmp (nat_lit 6))]⟩,
  ⟨(some (nat_lit 2)), none, .simple (.move (.tmp (nat_lit 7)))⟩] (some [(nat_lit 2)]))
.ret)))
theorem k89 : Try.f89.body.bind (compC Try.prog G89) = some c89 := by kernel_rfl
theorem e89 : compRes Try.prog Try.f89.results.toList = some r89 := by kernel_rfl
def F89 : FunX := ⟨false, G89, c89, r89⟩
theorem o89 : FunOk Try.prog 89 F89 := ⟨Try.f89, by kernel_rfl, k89, e89, by kernel_rfl, by kernel_rfl⟩

/-! 90: contango/coupon.all[contango/coupon.Range]; parameters 2, captured 0 -/
def G90 : Cfg := ⟨[(nat_lit 3)], [((nat_lit 0), [(nat_lit 0), (nat_lit 3)]), ((nat_lit 1), [(nat_lit 4)])], (nat_lit 9), []⟩
def r90 : List CRes := [.tmp (nat_lit 4)]
def c90 : CCode :=
(.seq (.region [
  ⟨(some (nat_lit 3)), none, .simple (.box true (.tmp (nat_lit 1)))⟩,
  ⟨(some (nat_lit 4)), none, .simple (.move (.const (.bool false)))⟩] (some [(nat_lit 0), (nat_lit 3)]))
(.seq (.region [
  ⟨(some (nat_lit 5)), none, .simple (.move (.tmp (nat_lit 0)))⟩,
  ⟨(some (nat_lit 6)), none, .simple (.mkfn (.func (nat_lit 110)) [] [(.tmp (nat_lit 3))])⟩,
  ⟨(some (nat_lit 7)), none, .call (.func (nat_lit 98)) [(.tmp (nat_lit 5)), (.tmp (nat_lit 6))]⟩,
  ⟨(some (nat_lit 8)), none, .simple (.un .not (.tmp (nat_lit 7)))⟩,
  ⟨(some (nat_lit 4)), none, .simple (.move (.tmp (nat_lit 8)))⟩] (some [(nat_lit 4)]))
.ret))
theorem k90 : Try.f90.body.bind (compC Try.prog G90) = some c90 := by kernel_rfl
theorem e90 : compRes Try.prog Try.f90.results.toList = some r90 := by kernel_rfl
def F90 : FunX := ⟨false, G90, c90, r90⟩
theorem o90 : FunOk Try.prog 90 F90 := ⟨Try.f90, by kernel_rfl, k90, e90, by kernel_rfl, by kernel_rfl⟩

/-! 91: (contango/coupon.Range).days; parameters 1, captured 0 -/
def G91 : Cfg := ⟨[], [((nat_lit 0), [(nat_lit 1)]), ((nat_lit 1), [(nat_lit 2)])], (nat_lit 18), []⟩
def r91 : List CRes := [.tmp (nat_lit 2)]
def c91 : CCode :=
(.seq (.region [
  ⟨(some (nat_lit 1)), none, .simple (.box false (.tmp (nat_lit 0)))⟩,
  ⟨(some (nat_lit 2)), none, .simple (.move (.const (.bool false)))⟩] (some [(nat_lit 1)]))
(.seq (.region [
  ⟨(some (nat_lit 3)), none, .simple (.fieldAddr (nat_lit 0) (.tmp (nat_lit 1)))⟩,
  ⟨(some (nat_lit 4)), none, .simple (.load none (.tmp (nat_lit 3)))⟩,
  ⟨(some (nat_lit 5)), none, .call (.func (nat_lit 59)) [(.tmp (nat_lit 4))]⟩,
  ⟨(some (nat_lit 6)), none, .simple (.move (.tmp (nat_lit 5)))⟩,
  ⟨(some (nat_lit 7)), (some ((nat_lit 6), true)), .simple (.fieldAddr (nat_lit 1) (.tmp (nat_lit 1)))⟩,
  ⟨(some (nat_lit 8)), (some ((nat_lit 6), true)), .simple (.load none (.tmp (nat_lit 7)))⟩,
  ⟨(some (nat_lit 9)), (some ((nat_lit 6), true)), .call (.func (nat_lit 59)) [(.tmp (nat_lit 8))]⟩,
  ⟨(some (nat_lit 10)), none, .simple (.pick (.tmp (nat_lit 6)) (.tmp (nat_lit 9)) (.const (.bool false)))⟩,
  ⟨(some (nat_lit 11)), none, .simple (.move (.tmp (nat_lit 10)))⟩,
  ⟨(some (nat_lit 12)), (some ((nat_lit 11), true)), .simple (.fieldAddr (nat_lit 0) (.tmp (nat_lit 1)))⟩,
  ⟨(some (nat_lit 13)), (some ((nat_lit 11), true)), .simple (.load none (.tmp (nat_lit 12)))⟩,
  ⟨(some (nat_lit 14)), (some ((nat_lit 11), true)), .simple (.fieldAddr (nat_lit 1) (.tmp (nat_lit 1)))⟩,
  ⟨(some (nat_lit 15)), (some ((nat_lit 11), true)), .simple (.load none (.tmp (nat_lit 14)))⟩,
  ⟨(some (nat_lit 16)), (some ((nat_lit 11), true)), .simple (.bin .leq (.tmp (nat_lit 13)) (.tmp (nat_lit 15)))⟩,
  ⟨(some (nat_lit 17)), none, .simple (.pick (.tmp (nat_lit 11)) (.tmp (nat_lit 16)) (.const (.bool false)))⟩,
  ⟨(some (nat_lit 2)), none, .simple (.move (.tmp (nat_lit 17)))⟩] (some [(nat_lit 2)]))
.ret))
theorem k91 : Try.f91.body.bind (compC Try.prog G91) = some c91 := by kernel_rfl
theorem e91 : compRes Try.prog Try.f91.results.toList = some r91 := by kernel_rfl
def F91 : FunX := ⟨false, G91, c91, r91⟩
theorem o91 : FunOk Try.prog 91 F91 := ⟨Try.f91, by kernel_rfl, k91, e91, by kernel_rfl, by kernel_rfl⟩

/-! 92: (contango/coupon.Company).dated; parameters 2, captured 0 -/
def G92 : Cfg := ⟨[(nat_lit 6)], [((nat_lit 0), [(nat_lit 2), (nat_lit 3)]), ((nat_lit 1), [(nat_lit 2), (nat_lit 3), (nat_lit 22)]), ((nat_lit 2), [(nat_lit 4)]), ((nat_lit 3), [(nat_lit 3), (nat_lit 24), (nat_lit 25), (nat_lit 26)]), ((nat_lit 4), [(nat_lit 3), (nat_lit 24), (nat_lit 25), (nat_lit 26), (nat_lit 27)]), ((nat_lit 5), [(nat_lit 3), (nat_lit 5), (nat_lit 6), (nat_lit 24), (nat_lit 25), (nat_lit 26)]), ((nat_lit 6), [(nat_lit 3), (nat_lit 24), (nat_lit 25), (nat_lit 26), (nat_lit 63)]), ((nat_lit 7), [(nat_lit 4)]), ((nat_lit 8), [(nat_lit 3), (nat_lit 24), (nat_lit 25), (nat_lit 26)]), ((nat_lit 9), [(nat_lit 4)])], (nat_lit 65), []⟩
def r92 : List CRes := [.tmp (nat_lit 4)]
def c92 : CCode :=
(.seq (.region [
  ⟨(some (nat_lit 2)), none, .simple (.box false (.tmp (nat_lit 0)))⟩,
  ⟨(some (nat_lit 3)), none, .simple (.box false (.tmp (nat_lit 1)))⟩,
  ⟨(some (nat_lit 4)), none, .simple (.move (.const (.bool false)))⟩] (some [(nat_lit 2), (nat_lit 3)]))
(.seq (.seq (.region [
  ⟨(some (nat_lit 7)), none, .simple (.fieldAddr (nat_lit 0) (.tmp (nat_lit 3)))⟩,
  ⟨(some (nat_lit 8)), none, .simple (.load none (.tmp (nat_lit 7)))⟩,
  ⟨(some (nat_lit 9)), none, .simple (.len (.tmp (nat_lit 8)))⟩,
  ⟨(some (nat_lit 10)), none, .simple (.fieldAddr (nat_lit 2) (.tmp (nat_lit 2)))⟩,
  ⟨(some (nat_lit 11)), none, .simple (.load none (.tmp (nat_lit 10)))⟩,
  ⟨(some (nat_lit 12)), none, .simple (.len (.tmp (nat_lit 11)))⟩,
  ⟨(some (nat_lit 13)), none, .simple (.bin .neq (.tmp (nat_lit 9)) (.tmp (nat_lit 12)))⟩,
  ⟨(some (nat_lit 14)), none, .simple (.move (.tmp (nat_lit 13)))⟩,
  ⟨(some (nat_lit 15)), (some ((nat_lit 14), false)), .simple (.fieldAddr (nat_lit 1) (.tmp (nat_lit 3)))⟩,
  ⟨(some (nat_lit 16)), (some ((nat_lit 14), false)), .simple (.load none (.tmp (nat_lit 15)))⟩,
  ⟨(some (nat_lit 17)), (some ((nat_lit 14), false)), .simple (.len (.tmp (nat_lit 16)))⟩,
  ⟨(some (nat_lit 18)), (some ((nat_lit 14), false)), .simple (.fieldAddr (nat_lit 2) (.tmp (nat_lit 2)))⟩,
  ⟨(some (nat_lit 19)), (some ((nat_lit 14), false)), .simple (.load none (.tmp (nat_lit 18)))⟩,
  ⟨(some (nat_lit 20)), (some ((nat_lit 14), false)), .simple (.len (.tmp (nat_lit 19)))⟩,
  ⟨(some (nat_lit 21)), (some ((nat_lit 14), false)), .simple (.bin .neq (.tmp (nat_lit 17)) (.tmp (nat_lit 20)))⟩,
  ⟨(some (nat_lit 22)), none, .simple (.pick (.tmp (nat_lit 14)) (.const (.bool true)) (.tmp (nat_lit 21)))⟩] (some [(nat_lit 2), (nat_lit 3), (nat_lit 22)]))
(.cond (.tmp (nat_lit 22))
 (.seq (.region [
   ⟨(some (nat_lit 4)), none, .simple (.move (.const (.bool false)))⟩] (some [(nat_lit 4)]))
 .ret)
 .skip))
(.seq (.seq (.region [
  ⟨(some (nat_lit 23)), none, .simple (.fieldAddr (nat_lit 2) (.tmp (nat_lit 2)))⟩,
  ⟨(some (nat_lit 24)), none, .simple (.load none (.tmp (nat_lit 23)))⟩,
  ⟨(some (nat_lit 25)), none, .simple (.len (.tmp (nat_lit 24)))⟩,
  ⟨(some (nat_lit 26)), none, .simple (.move (.const (.int .i64 (.ofNat (nat_lit 0)))))⟩] (some [(nat_lit 3), (nat_lit 24), (nat_lit 25), (nat_lit 26)]))
(.block (nat_lit 0) (.loop (.seq (.region [
    ⟨(some (nat_lit 27)), none, .simple (.bin .lss (.tmp (nat_lit 26)) (.tmp (nat_lit 25)))⟩] (some [(nat_lit 3), (nat_lit 24), (nat_lit 25), (nat_lit 26), (nat_lit 27)]))
  (.seq (.cond (.tmp (nat_lit 27))
   .skip
   (.exit (nat_lit 0)))
  (.seq (.block (nat_lit 1) (.seq (.region [
     ⟨(some (nat_lit 28)), none, .simple (.move (.tmp (nat_lit 26)))⟩,
     ⟨(some (nat_lit 29)), none, .simple (.indexS (nat_lit 7) (.tmp (nat_lit 24)) (.tmp (nat_lit 26)))⟩,
     ⟨(some (nat_lit 30)), none, .simple (.load (some (nat_lit 7)) (.tmp (nat_lit 29)))⟩,
     ⟨(some (nat_lit 6)), none, .simple (.alloc [(.d (.int .i64 (.ofNat (nat_lit 0)))), (.d (.int .i64 (.ofNat (nat_lit 0)))), (.d (.int .i64 (.ofNat (nat_lit 0)))), (.d (.int .i64 (.ofNat (nat_lit 0)))), (.d (.int .i64 (.ofNat (nat_lit 0)))), (.d (.int .i64 (.ofNat (nat_lit 0)))), (.d (.int .i64 (.ofNat (nat_lit 0))))])⟩,
     ⟨(some (nat_lit 5)), none, .simple (.move (.tmp (nat_lit 28)))⟩,
     ⟨none, none, .simple (.store (nat_lit 7) (.tmp (nat_lit 6)) (.tmp (nat_lit 30)))⟩] (some [(nat_lit 3), (nat_lit 5), (nat_lit 6), (nat_lit 24), (nat_lit 25), (nat_lit 26)]))
   (.seq (.region [
     ⟨(some (nat_lit 31)), none, .simple (.fieldAddr (nat_lit 3) (.tmp (nat_lit 6)))⟩,
     ⟨(some (nat_lit 32)), none, .simple (.load (some (nat_lit 2)) (.tmp (nat_lit 31)))⟩,
     ⟨(some (nat_lit 33)), none, .simple (.fieldAddr (nat_lit 0) (.tmp (nat_lit 3)))⟩,
     ⟨(some (nat_lit 34)), none, .simple (.load none (.tmp (nat_lit 33)))⟩,
     ⟨(some (nat_lit 35)), none, .simple (.move (.tmp (nat_lit 5)))⟩,
     ⟨(some (nat_lit 36)), none, .simple (.indexS (nat_lit 1) (.tmp (nat_lit 34)) (.tmp (nat_lit 35)))⟩,
     ⟨(some (nat_lit 37)), none, .simple (.load none (.tmp (nat_lit 36)))⟩,
     ⟨(some (nat_lit 38)), none, .call (.func (nat_lit 85)) [(.tmp (nat_lit 32)), (.tmp (nat_lit 37))]⟩,
     ⟨(some (nat_lit 39)), none, .simple (.un .not (.tmp (nat_lit 38)))⟩,
     ⟨(some (nat_lit 40)), none, .simple (.move (.tmp (nat_lit 39)))⟩,
     ⟨(some (nat_lit 41)), (some ((nat_lit 40), false)), .simple (.fieldAddr (nat_lit 5) (.tmp (nat_lit 6)))⟩,
     ⟨(some (nat_lit 42)), (some ((nat_lit 40), false)), .simple (.load (some (nat_lit 2)) (.tmp (nat_lit 41)))⟩,
     ⟨(some (nat_lit 43)), (some ((nat_lit 40), false)), .simple (.fieldAddr (nat_lit 1) (.tmp (nat_lit 3)))⟩,
     ⟨(some (nat_lit 44)), (some ((nat_lit 40), false)), .simple (.load none (.tmp (nat_lit 43)))⟩,
     ⟨(some (nat_lit 45)), (some ((nat_lit 40), false)), .simple (.move (.tmp (nat_lit 5)))⟩,
     ⟨(some (nat_lit 46)), (some ((nat_lit 40), false)), .simple (.indexS (nat_lit 1) (.tmp (nat_lit 44)) (.tmp (nat_lit 45)))⟩,
     ⟨(some (nat_lit 47)), (some ((nat_lit 40), false)), .simple (.load none (.tmp (nat_lit 46)))⟩,
     ⟨(some (nat_lit 48)), (some ((nat_lit 40), false)), .call (.func (nat_lit 85)) [(.tmp (nat_lit 42)), (.tmp (nat_lit 47))]⟩,
     ⟨(some (nat_lit 49)), (some ((nat_lit 40), false)), .simple (.un .not (.tmp (nat_lit 48)))⟩,
     ⟨(some (nat_lit 50)), none, .simple (.pick (.tmp (nat_lit 40)) (.const (.bool true)) (.tmp (nat_lit 49)))⟩,
     ⟨(some (nat_lit 51)), none, .simple (.move (.tmp (nat_lit 50)))⟩,
     ⟨(some (nat_lit 52)), (some ((nat_lit 51), false)), .simple (.fieldAddr (nat_lit 1) (.tmp (nat_lit 3)))⟩,
     ⟨(some (nat_lit 53)), (some ((nat_lit 51), false)), .simple (.load none (.tmp (nat_lit 52)))⟩,
     ⟨(some (nat_lit 54)), (some ((nat_lit 51), false)), .simple (.move (.tmp (nat_lit 5)))⟩,
     ⟨(some (nat_lit 55)), (some ((nat_lit 51), false)), .simple (.indexS (nat_lit 1) (.tmp (nat_lit 53)) (.tmp (nat_lit 54)))⟩,
     ⟨(some (nat_lit 56)), (some ((nat_lit 51), false)), .simple (.load none (.tmp (nat_lit 55)))⟩,
     ⟨(some (nat_lit 57)), (some ((nat_lit 51), false)), .simple (.fieldAddr (nat_lit 0) (.tmp (nat_lit 3)))⟩,
     ⟨(some (nat_lit 58)), (some ((nat_lit 51), false)), .simple (.load none (.tmp (nat_lit 57)))⟩,
     ⟨(some (nat_lit 59)), (some ((nat_lit 51), false)), .simple (.move (.tmp (nat_lit 5)))⟩,
     ⟨(some (nat_lit 60)), (some ((nat_lit 51), false)), .simple (.indexS (nat_lit 1) (.tmp (nat_lit 58)) (.tmp (nat_lit 59)))⟩,
     ⟨(some (nat_lit 61)), (some ((nat_lit 51), false)), .simple (.load none (.tmp (nat_lit 60)))⟩,
     ⟨(some (nat_lit 62)), (some ((nat_lit 51), false)), .simple (.bin .lss (.tmp (nat_lit 56)) (.tmp (nat_lit 61)))⟩,
     ⟨(some (nat_lit 63)), none, .simple (.pick (.tmp (nat_lit 51)) (.const (.bool true)) (.tmp (nat_lit 62)))⟩] (some [(nat_lit 3), (nat_lit 24), (nat_lit 25), (nat_lit 26), (nat_lit 63)]))
   (.cond (.tmp (nat_lit 63))
    (.seq (.region [
      ⟨(some (nat_lit 4)), none, .simple (.move (.const (.bool false)))⟩] (some [(nat_lit 4)]))
    .ret)
    .skip))))
  (.region [
    ⟨(some (nat_lit 64)), none, .simple (.bin .add (.tmp (nat_lit 26)) (.const (.int .i64 (.ofNat (nat_lit 1)))))⟩,
    ⟨(some (nat_lit 26)), none, .simple (.move (.tmp (nat_lit 64)))⟩] (some [(nat_lit 3), (nat_lit 24), (nat_lit 25), (nat_lit 26)]))))))))
(.seq (.region [
  ⟨(some (nat_lit 4)), none, .simple (.move (.const (.bool true)))⟩] (some [(nat_lit 4)]))
.ret))))
theorem k92 : Try.f92.body.bind (compC Try.prog G92) = some c92 := by kernel_rfl
theorem e92 : compRes Try.prog Try.f92.results.toList = some r92 := by kernel_rfl
def F92 : FunX := ⟨false, G92, c92, r92⟩
theorem o92 : FunOk Try.prog 92 F92 := ⟨Try.f92, by kernel_rfl, k92, e92, by kernel_rfl, by kernel_rfl⟩

/-! 93: (*contango/coupon.work).fits; parameters 2, captured 0 -/
def G93 : Cfg := ⟨[(nat_lit 7), (nat_lit 5)], [((nat_lit 0), [(nat_lit 0), (nat_lit 3)]), ((nat_lit 1), [(nat_lit 0), (nat_lit 3), (nat_lit 5)]), ((nat_lit 2), [(nat_lit 0), (nat_lit 3), (nat_lit 5), (nat_lit 8)]), ((nat_lit 3), [(nat_lit 0), (nat_lit 3), (nat_lit 5), (nat_lit 8), (nat_lit 9)]), ((nat_lit 4), [(nat_lit 0), (nat_lit 3), (nat_lit 5), (nat_lit 6), (nat_lit 8)]), ((nat_lit 5), [(nat_lit 0), (nat_lit 3), (nat_lit 5), (nat_lit 7), (nat_lit 8)]), ((nat_lit 6), [(nat_lit 0), (nat_lit 3), (nat_lit 5), (nat_lit 7), (nat_lit 8), (nat_lit 17)]), ((nat_lit 7), [(nat_lit 0), (nat_lit 3), (nat_lit 5), (nat_lit 7), (nat_lit 8), (nat_lit 20)]), ((nat_lit 8), [(nat_lit 4)]), ((nat_lit 9), [(nat_lit 0), (nat_lit 3), (nat_lit 5), (nat_lit 8)]), ((nat_lit 10), [(nat_lit 0), (nat_lit 3), (nat_lit 5), (nat_lit 8)]), ((nat_lit 11), [(nat_lit 4)])], (nat_lit 23), [((nat_lit 7), [((nat_lit 7), none)])]⟩
def r93 : List CRes := [.tmp (nat_lit 4)]
def c93 : CCode :=
(.seq (.region [
  ⟨(some (nat_lit 3)), none, .simple (.box false (.tmp (nat_lit 1)))⟩,
  ⟨(some (nat_lit 4)), none, .simple (.move (.const (.bool false)))⟩] (some [(nat_lit 0), (nat_lit 3)]))
(.seq (.region [
  ⟨(some (nat_lit 5)), none, .simple (.alloc [(.d (.int .i64 (.ofNat (nat_lit 0)))), (.d (.int .i64 (.ofNat (nat_lit 0)))), (.d (.int .i64 (.ofNat (nat_lit 0)))), (.d (.int .i64 (.ofNat (nat_lit 0))))])⟩] (some [(nat_lit 0), (nat_lit 3), (nat_lit 5)]))
(.seq (.seq (.region [
  ⟨(some (nat_lit 8)), none, .simple (.move (.const (.int .i64 (.ofNat (nat_lit 0)))))⟩] (some [(nat_lit 0), (nat_lit 3), (nat_lit 5), (nat_lit 8)]))
(.block (nat_lit 0) (.loop (.seq (.region [
    ⟨(some (nat_lit 9)), none, .simple (.bin .lss (.tmp (nat_lit 8)) (.const (.int .i64 (.ofNat (nat_lit 12)))))⟩] (some [(nat_lit 0), (nat_lit 3), (nat_lit 5), (nat_lit 8), (nat_lit 9)]))
  (.seq (.cond (.tmp (nat_lit 9))
   .skip
   (.exit (nat_lit 0)))
  (.seq (.block (nat_lit 1) (.seq (.region [
     ⟨(some (nat_lit 10)), none, .simple (.move (.tmp (nat_lit 8)))⟩,
     ⟨(some (nat_lit 6)), none, .simple (.move (.tmp (nat_lit 10)))⟩] (some [(nat_lit 0), (nat_lit 3), (nat_lit 5), (nat_lit 6), (nat_lit 8)]))
   (.seq (.region [
     ⟨(some (nat_lit 11)), none, .simple (.move (.tmp (nat_lit 0)))⟩,
     ⟨(some (nat_lit 12)), none, .simple (.load (some (nat_lit 2)) (.tmp (nat_lit 3)))⟩,
     ⟨(some (nat_lit 13)), none, .simple (.move (.tmp (nat_lit 6)))⟩,
     ⟨(some (nat_lit 14)), none, .call (.func (nat_lit 60)) [(.tmp (nat_lit 11)), (.tmp (nat_lit 12)), (.tmp (nat_lit 13))]⟩,
     ⟨(some (nat_lit 7)), none, .simple (.alloc [(.d (.int .i64 (.ofNat (nat_lit 0)))), (.d (.int .i64 (.ofNat (nat_lit 0)))), (.d (.int .i64 (.ofNat (nat_lit 0)))), (.d (.int .i64 (.ofNat (nat_lit 0))))])⟩,
     ⟨none, none, .simple (.store (nat_lit 4) (.tmp (nat_lit 7)) (.tmp (nat_lit 14)))⟩] (some [(nat_lit 0), (nat_lit 3), (nat_lit 5), (nat_lit 7), (nat_lit 8)]))
   (.seq (.seq (.region [
     ⟨(some (nat_lit 15)), none, .simple (.load (some (nat_lit 4)) (.tmp (nat_lit 7)))⟩,
     ⟨(some (nat_lit 16)), none, .simple (.load (some (nat_lit 4)) (.tmp (nat_lit 5)))⟩,
     ⟨(some (nat_lit 17)), none, .simple (.eqA false [(.int .i64), (.int .i64), (.int .i64), (.int .i64)] (.tmp (nat_lit 15)) (.tmp (nat_lit 16)))⟩] (some [(nat_lit 0), (nat_lit 3), (nat_lit 5), (nat_lit 7), (nat_lit 8), (nat_lit 17)]))
   (.cond (.tmp (nat_lit 17))
    (.exit (nat_lit 1))
    .skip))
   (.seq (.seq (.seq (.frz ((nat_lit 7), none))
   (.region [
     ⟨(some (nat_lit 18)), none, .simple (.sliceA (nat_lit 4) (nat_lit 1) (.tmp (nat_lit 7)) none none)⟩,
     ⟨(some (nat_lit 19)), none, .call (.func (nat_lit 96)) [(.tmp (nat_lit 18))]⟩,
     ⟨(some (nat_lit 20)), none, .simple (.bin .lss (.tmp (nat_lit 19)) (.const (.int .i64 (.ofNat (nat_lit 0)))))⟩] (some [(nat_lit 0), (nat_lit 3), (nat_lit 5), (nat_lit 7), (nat_lit 8), (nat_lit 20)])))
   (.cond (.tmp (nat_lit 20))
    (.seq (.region [
      ⟨(some (nat_lit 4)), none, .simple (.move (.const (.bool false)))⟩] (some [(nat_lit 4)]))
    .ret)
    .skip))
   (.region [
     ⟨(some (nat_lit 21)), none, .simple (.load (some (nat_lit 4)) (.tmp (nat_lit 7)))⟩,
     ⟨none, none, .simple (.store (nat_lit 4) (.tmp (nat_lit 5)) (.tmp (nat_lit 21)))⟩] (some [(nat_lit 0), (nat_lit 3), (nat_lit 5), (nat_lit 8)])))))))
  (.region [
    ⟨(some (nat_lit 22)), none, .simple (.bin .add (.tmp (nat_lit 8)) (.const (.int .i64 (.ofNat (nat_lit 1)))))⟩,
    ⟨(some (nat_lit 8)), none, .simple (.move (.tmp (nat_lit 22)))⟩] (some [(nat_lit 0), (nat_lit 3), (nat_lit 5), (nat_lit 8)]))))))))
(.seq (.region [
  ⟨(some (nat_lit 4)), none, .simple (.move (.const (.bool true)))⟩] (some [(nat_lit 4)]))
.ret))))
theorem k93 : Try.f93.body.bind (compC Try.prog G93) = some c93 := by kernel_rfl
theorem e93 : compRes Try.prog Try.f93.results.toList = some r93 := by kernel_rfl
def F93 : FunX := ⟨false, G93, c93, r93⟩
theorem o93 : FunOk Try.prog 93 F93 := ⟨Try.f93, by kernel_rfl, k93, e93, by kernel_rfl, by kernel_rfl⟩

/-! 94: (*contango/coupon.work).units; parameters 3, captured 0 -/
def G94 : Cfg := ⟨[(nat_lit 10)], [((nat_lit 0), [(nat_lit 0), (nat_lit 1), (nat_lit 5)]), ((nat_lit 1), [(nat_lit 0), (nat_lit 1), (nat_lit 5), (nat_lit 7), (nat_lit 8)]), ((nat_lit 2), [(nat_lit 0), (nat_lit 1), (nat_lit 5), (nat_lit 7), (nat_lit 21)]), ((nat_lit 3), [(nat_lit 0), (nat_lit 1), (nat_lit 5), (nat_lit 7)]), ((nat_lit 4), [(nat_lit 0), (nat_lit 1), (nat_lit 5), (nat_lit 7), (nat_lit 26), (nat_lit 27), (nat_lit 28)]), ((nat_lit 5), [(nat_lit 0), (nat_lit 1), (nat_lit 5), (nat_lit 7), (nat_lit 26), (nat_lit 27), (nat_lit 28), (nat_lit 29)]), ((nat_lit 6), [(nat_lit 0), (nat_lit 1), (nat_lit 5), (nat_lit 7), (nat_lit 10), (nat_lit 26), (nat_lit 27), (nat_lit 28)]), ((nat_lit 7), [(nat_lit 0), (nat_lit 1), (nat_lit 5), (nat_lit 7), (nat_lit 10), (nat_lit 26), (nat_lit 27), (nat_lit 28), (nat_lit 43)]), ((nat_lit 8), [(nat_lit 0), (nat_lit 1), (nat_lit 5), (nat_lit 7), (nat_lit 26), (nat_lit 27), (nat_lit 28)]), ((nat_lit 9), [(nat_lit 0), (nat_lit 1), (nat_lit 5), (nat_lit 7), (nat_lit 26), (nat_lit 27), (nat_lit 28)]), ((nat_lit 10), [(nat_lit 1), (nat_lit 7)]), ((nat_lit 11), [(nat_lit 6)])], (nat_lit 61), []⟩
def r94 : List CRes := [.tmp (nat_lit 6)]
def c94 : CCode :=
(.seq (.region [
  ⟨(some (nat_lit 5)), none, .simple (.box false (.tmp (nat_lit 2)))⟩,
  ⟨(some (nat_lit 6)), none, .simple (.move (.const (.int .i64 (.ofNat (nat_lit 0)))))⟩] (some [(nat_lit 0), (nat_lit 1), (nat_lit 5)]))
(.seq (.region [
  ⟨(some (nat_lit 12)), none, .simple (.move (.tmp (nat_lit 0)))⟩,
  ⟨(some (nat_lit 13)), none, .simple (.nilCheck (.tmp (nat_lit 12)))⟩,
  ⟨(some (nat_lit 14)), none, .simple (.fieldAddr (nat_lit 6) (.tmp (nat_lit 13)))⟩,
  ⟨(some (nat_lit 15)), none, .simple (.load none (.tmp (nat_lit 14)))⟩,
  ⟨(some (nat_lit 16)), none, .simple (.load (some (nat_lit 2)) (.tmp (nat_lit 5)))⟩,
  ⟨(some (nat_lit 17)), none, .simple (.lookup true [(.int .i64), (.int .i64)] (.d (.int .i64 (.ofNat (nat_lit 0)))) true (.tmp (nat_lit 15)) (.tmp (nat_lit 16)))⟩,
  ⟨(some (nat_lit 11)), none, .simple (.move (.tmp (nat_lit 17)))⟩,
  ⟨(some (nat_lit 18)), none, .simple (.extract (.tmp (nat_lit 11)) (nat_lit 0))⟩,
  ⟨(some (nat_lit 19)), none, .simple (.extract (.tmp (nat_lit 11)) (nat_lit 1))⟩,
  ⟨(some (nat_lit 7)), none, .simple (.move (.tmp (nat_lit 18)))⟩,
  ⟨(some (nat_lit 8)), none, .simple (.move (.tmp (nat_lit 19)))⟩] (some [(nat_lit 0), (nat_lit 1), (nat_lit 5), (nat_lit 7), (nat_lit 8)]))
(.seq (.seq (.region [
  ⟨(some (nat_lit 20)), none, .simple (.move (.tmp (nat_lit 8)))⟩,
  ⟨(some (nat_lit 21)), none, .simple (.un .not (.tmp (nat_lit 20)))⟩] (some [(nat_lit 0), (nat_lit 1), (nat_lit 5), (nat_lit 7), (nat_lit 21)]))
(.cond (.tmp (nat_lit 21))
 (.seq (.region [
   ⟨(some (nat_lit 7)), none, .simple (.move (.const (.int .i64 (.ofNat (nat_lit 720)))))⟩] (some [(nat_lit 0), (nat_lit 1), (nat_lit 5), (nat_lit 7)]))
 (.seq (.seq (.region [
   ⟨(some (nat_lit 22)), none, .simple (.move (.tmp (nat_lit 0)))⟩,
   ⟨(some (nat_lit 23)), none, .simple (.nilCheck (.tmp (nat_lit 22)))⟩,
   ⟨(some (nat_lit 24)), none, .simple (.fieldAddr (nat_lit 0) (.tmp (nat_lit 23)))⟩,
   ⟨(some (nat_lit 25)), none, .simple (.fieldAddr (nat_lit 4) (.tmp (nat_lit 24)))⟩,
   ⟨(some (nat_lit 26)), none, .simple (.load none (.tmp (nat_lit 25)))⟩,
   ⟨(some (nat_lit 27)), none, .simple (.len (.tmp (nat_lit 26)))⟩,
   ⟨(some (nat_lit 28)), none, .simple (.move (.const (.int .i64 (.ofNat (nat_lit 0)))))⟩] (some [(nat_lit 0), (nat_lit 1), (nat_lit 5), (nat_lit 7), (nat_lit 26), (nat_lit 27), (nat_lit 28)]))
 (.block (nat_lit 0) (.loop (.seq (.region [
     ⟨(some (nat_lit 29)), none, .simple (.bin .lss (.tmp (nat_lit 28)) (.tmp (nat_lit 27)))⟩] (some [(nat_lit 0), (nat_lit 1), (nat_lit 5), (nat_lit 7), (nat_lit 26), (nat_lit 27), (nat_lit 28), (nat_lit 29)]))
   (.seq (.cond (.tmp (nat_lit 29))
    .skip
    (.exit (nat_lit 0)))
   (.seq (.block (nat_lit 1) (.seq (.region [
      ⟨(some (nat_lit 30)), none, .simple (.indexS (nat_lit 3) (.tmp (nat_lit 26)) (.tmp (nat_lit 28)))⟩,
      ⟨(some (nat_lit 31)), none, .simple (.load (some (nat_lit 3)) (.tmp (nat_lit 30)))⟩,
      ⟨(some (nat_lit 10)), none, .simple (.alloc [(.d (.int .i64 (.ofNat (nat_lit 0)))), (.d (.int .i64 (.ofNat (nat_lit 0)))), (.d (.int .i64 (.ofNat (nat_lit 0))))])⟩,
      ⟨none, none, .simple (.store (nat_lit 3) (.tmp (nat_lit 10)) (.tmp (nat_lit 31)))⟩] (some [(nat_lit 0), (nat_lit 1), (nat_lit 5), (nat_lit 7), (nat_lit 10), (nat_lit 26), (nat_lit 27), (nat_lit 28)]))
    (.seq (.region [
      ⟨(some (nat_lit 32)), none, .simple (.fieldAddr (nat_lit 0) (.tmp (nat_lit 5)))⟩,
      ⟨(some (nat_lit 33)), none, .simple (.load none (.tmp (nat_lit 32)))⟩,
      ⟨(some (nat_lit 34)), none, .simple (.fieldAddr (nat_lit 0) (.tmp (nat_lit 10)))⟩,
      ⟨(some (nat_lit 35)), none, .simple (.load none (.tmp (nat_lit 34)))⟩,
      ⟨(some (nat_lit 36)), none, .simple (.bin .lss (.tmp (nat_lit 33)) (.tmp (nat_lit 35)))⟩,
      ⟨(some (nat_lit 37)), none, .simple (.move (.tmp (nat_lit 36)))⟩,
      ⟨(some (nat_lit 38)), (some ((nat_lit 37), true)), .simple (.fieldAddr (nat_lit 0) (.tmp (nat_lit 10)))⟩,
      ⟨(some (nat_lit 39)), (some ((nat_lit 37), true)), .simple (.load none (.tmp (nat_lit 38)))⟩,
      ⟨(some (nat_lit 40)), (some ((nat_lit 37), true)), .simple (.fieldAddr (nat_lit 1) (.tmp (nat_lit 5)))⟩,
      ⟨(some (nat_lit 41)), (some ((nat_lit 37), true)), .simple (.load none (.tmp (nat_lit 40)))⟩,
      ⟨(some (nat_lit 42)), (some ((nat_lit 37), true)), .simple (.bin .leq (.tmp (nat_lit 39)) (.tmp (nat_lit 41)))⟩,
      ⟨(some (nat_lit 43)), none, .simple (.pick (.tmp (nat_lit 37)) (.tmp (nat_lit 42)) (.const (.bool false)))⟩] (some [(nat_lit 0), (nat_lit 1), (nat_lit 5), (nat_lit 7), (nat_lit 10), (nat_lit 26), (nat_lit 27), (nat_lit 28), (nat_lit 43)]))
    (.cond (.tmp (nat_lit 43))
     (.region [
       ⟨(some (nat_lit 44)), none, .simple (.move (.tmp (nat_lit 7)))⟩,
       ⟨(some (nat_lit 45)), none, .simple (.fieldAddr (nat_lit 1) (.tmp (nat_lit 10)))⟩,
       ⟨(some (nat_lit 46)), none, .simple (.load none (.tmp (nat_lit 45)))⟩,
       ⟨(some (nat_lit 47)), none, .simple (.bin .mul (.tmp (nat_lit 44)) (.tmp (nat_lit 46)))⟩,
       ⟨(some (nat_lit 48)), none, .simple (.fieldAddr (nat_lit 2) (.tmp (nat_lit 10)))⟩,
       ⟨(some (nat_lit 49)), none, .simple (.load none (.tmp (nat_lit 48)))⟩,
       ⟨(some (nat_lit 50)), none, .simple (.bin .quo (.tmp (nat_lit 47)) (.tmp (nat_lit 49)))⟩,
       ⟨(some (nat_lit 7)), none, .simple (.move (.tmp (nat_lit 50)))⟩] (some [(nat_lit 0), (nat_lit 1), (nat_lit 5), (nat_lit 7), (nat_lit 26), (nat_lit 27), (nat_lit 28)]))
     .skip))))
   (.region [
     ⟨(some (nat_lit 51)), none, .simple (.bin .add (.tmp (nat_lit 28)) (.const (.int .i64 (.ofNat (nat_lit 1)))))⟩,
     ⟨(some (nat_lit 28)), none, .simple (.move (.tmp (nat_lit 51)))⟩] (some [(nat_lit 0), (nat_lit 1), (nat_lit 5), (nat_lit 7), (nat_lit 26), (nat_lit 27), (nat_lit 28)]))))))))
 (.region [
   ⟨(some (nat_lit 52)), none, .simple (.move (.tmp (nat_lit 0)))⟩,
   ⟨(some (nat_lit 53)), none, .simple (.nilCheck (.tmp (nat_lit 52)))⟩,
   ⟨(some (nat_lit 54)), none, .simple (.fieldAddr (nat_lit 6) (.tmp (nat_lit 53)))⟩,
   ⟨(some (nat_lit 55)), none, .simple (.load none (.tmp (nat_lit 54)))⟩,
   ⟨(some (nat_lit 56)), none, .simple (.load (some (nat_lit 2)) (.tmp (nat_lit 5)))⟩,
   ⟨(some (nat_lit 57)), none, .simple (.move (.tmp (nat_lit 7)))⟩,
   ⟨none, none, .simple (.mupd true [(.int .i64), (.int .i64)] (.tmp (nat_lit 55)) (.tmp (nat_lit 56)) (.tmp (nat_lit 57)))⟩] (some [(nat_lit 1), (nat_lit 7)]))))
 .skip))
(.seq (.region [
  ⟨(some (nat_lit 58)), none, .simple (.move (.tmp (nat_lit 1)))⟩,
  ⟨(some (nat_lit 59)), none, .simple (.move (.tmp (nat_lit 7)))⟩,
  ⟨(some (nat_lit 60)), none, .simple (.bin .mul (.tmp (nat_lit 58)) (.tmp (nat_lit 59)))⟩,
  ⟨(some (nat_lit 6)), none, .simple (.move (.tmp (nat_lit 60)))⟩] (some [(nat_lit 6)]))
.ret))))
theorem k94 : Try.f94.body.bind (compC Try.prog G94) = some c94 := by kernel_rfl
theorem e94 : compRes Try.prog Try.f94.results.toList = some r94 := by kernel_rfl
def F94 : FunX := ⟨false, G94, c94, r94⟩
theorem o94 : FunOk Try.prog 94 F94 := ⟨Try.f94, by kernel_rfl, k94, e94, by kernel_rfl, by kernel_rfl⟩

/-! 95: (*contango/coupon.work).truths; parameters 1, captured 0 -/
def G95 : Cfg := ⟨[(nat_lit 1)], [((nat_lit 0), [(nat_lit 1)]), ((nat_lit 1), [(nat_lit 2)])], (nat_lit 4), []⟩
def r95 : List CRes := [.tmp (nat_lit 2)]
def c95 : CCode :=
(.seq (.region [
  ⟨(some (nat_lit 1)), none, .simple (.box true (.tmp (nat_lit 0)))⟩,
  ⟨(some (nat_lit 2)), none, .simple (.move (.const .nilFunc))⟩] (some [(nat_lit 1)]))
(.seq (.region [
  ⟨(some (nat_lit 3)), none, .simple (.mkfn (.func (nat_lit 111)) [] [(.tmp (nat_lit 1))])⟩,
  ⟨(some (nat_lit 2)), none, .simple (.move (.tmp (nat_lit 3)))⟩] (some [(nat_lit 2)]))
.ret))
theorem k95 : Try.f95.body.bind (compC Try.prog G95) = some c95 := by kernel_rfl
theorem e95 : compRes Try.prog Try.f95.results.toList = some r95 := by kernel_rfl
def F95 : FunX := ⟨false, G95, c95, r95⟩
theorem o95 : FunOk Try.prog 95 F95 := ⟨Try.f95, by kernel_rfl, k95, e95, by kernel_rfl, by kernel_rfl⟩

/-! 96: contango/coupon.minimum; parameters 1, captured 0 -/
def G96 : Cfg := ⟨[], [((nat_lit 0), [(nat_lit 0)]), ((nat_lit 1), [(nat_lit 2)])], (nat_lit 5), []⟩
def r96 : List CRes := [.tmp (nat_lit 2)]
def c96 : CCode :=
(.seq (.region [
  ⟨(some (nat_lit 2)), none, .simple (.move (.const (.int .i64 (.ofNat (nat_lit 0)))))⟩] (some [(nat_lit 0)]))
(.seq (.region [
  ⟨(some (nat_lit 3)), none, .simple (.move (.tmp (nat_lit 0)))⟩,
  ⟨(some (nat_lit 4)), none, .call (.func (nat_lit 113)) [(.tmp (nat_lit 3))]⟩,
  ⟨(some (nat_lit 2)), none, .simple (.move (.tmp (nat_lit 4)))⟩] (some [(nat_lit 2)]))
.ret))
theorem k96 : Try.f96.body.bind (compC Try.prog G96) = some c96 := by kernel_rfl
theorem e96 : compRes Try.prog Try.f96.results.toList = some r96 := by kernel_rfl
def F96 : FunX := ⟨false, G96, c96, r96⟩
theorem o96 : FunOk Try.prog 96 F96 := ⟨Try.f96, by kernel_rfl, k96, e96, by kernel_rfl, by kernel_rfl⟩

/-! 97: slices.Index[[]int,int]; parameters 2, captured 0 -/
def G97 : Cfg := ⟨[], [((nat_lit 0), [(nat_lit 0), (nat_lit 1)]), ((nat_lit 1), [(nat_lit 0), (nat_lit 1), (nat_lit 7), (nat_lit 8)]), ((nat_lit 2), [(nat_lit 0), (nat_lit 1), (nat_lit 7), (nat_lit 8), (nat_lit 9)]), ((nat_lit 3), [(nat_lit 0), (nat_lit 1), (nat_lit 5), (nat_lit 7), (nat_lit 8)]), ((nat_lit 4), [(nat_lit 0), (nat_lit 1), (nat_lit 5), (nat_lit 7), (nat_lit 8), (nat_lit 16)]), ((nat_lit 5), [(nat_lit 4)]), ((nat_lit 6), [(nat_lit 0), (nat_lit 1), (nat_lit 7), (nat_lit 8)]), ((nat_lit 7), [(nat_lit 4)])], (nat_lit 19), []⟩
def r97 : List CRes := [.tmp (nat_lit 4)]
def c97 : CCode :=
(.seq (.region [
  ⟨(some (nat_lit 4)), none, .simple (.move (.const (.int .i64 (.ofNat (nat_lit 0)))))⟩] (some [(nat_lit 0), (nat_lit 1)]))
(.seq (.seq (.region [
  ⟨(some (nat_lit 6)), none, .simple (.move (.tmp (nat_lit 0)))⟩,
  ⟨(some (nat_lit 7)), none, .simple (.len (.tmp (nat_lit 6)))⟩,
  ⟨(some (nat_lit 8)), none, .simple (.move (.const (.int .i64 (.ofNat (nat_lit 0)))))⟩] (some [(nat_lit 0), (nat_lit 1), (nat_lit 7), (nat_lit 8)]))
(.block (nat_lit 0) (.loop (.seq (.region [
    ⟨(some (nat_lit 9)), none, .simple (.bin .lss (.tmp (nat_lit 8)) (.tmp (nat_lit 7)))⟩] (some [(nat_lit 0), (nat_lit 1), (nat_lit 7), (nat_lit 8), (nat_lit 9)]))
  (.seq (.cond (.tmp (nat_lit 9))
   .skip
   (.exit (nat_lit 0)))
  (.seq (.block (nat_lit 1) (.seq (.region [
     ⟨(some (nat_lit 10)), none, .simple (.move (.tmp (nat_lit 8)))⟩,
     ⟨(some (nat_lit 5)), none, .simple (.move (.tmp (nat_lit 10)))⟩] (some [(nat_lit 0), (nat_lit 1), (nat_lit 5), (nat_lit 7), (nat_lit 8)]))
   (.seq (.region [
     ⟨(some (nat_lit 11)), none, .simple (.move (.tmp (nat_lit 1)))⟩,
     ⟨(some (nat_lit 12)), none, .simple (.move (.tmp (nat_lit 0)))⟩,
     ⟨(some (nat_lit 13)), none, .simple (.move (.tmp (nat_lit 5)))⟩,
     ⟨(some (nat_lit 14)), none, .simple (.indexS (nat_lit 1) (.tmp (nat_lit 12)) (.tmp (nat_lit 13)))⟩,
     ⟨(some (nat_lit 15)), none, .simple (.load none (.tmp (nat_lit 14)))⟩,
     ⟨(some (nat_lit 16)), none, .simple (.bin .eql (.tmp (nat_lit 11)) (.tmp (nat_lit 15)))⟩] (some [(nat_lit 0), (nat_lit 1), (nat_lit 5), (nat_lit 7), (nat_lit 8), (nat_lit 16)]))
   (.cond (.tmp (nat_lit 16))
    (.seq (.region [
      ⟨(some (nat_lit 17)), none, .simple (.move (.tmp (nat_lit 5)))⟩,
      ⟨(some (nat_lit 4)), none, .simple (.move (.tmp (nat_lit 17)))⟩] (some [(nat_lit 4)]))
    .ret)
    .skip))))
  (.region [
    ⟨(some (nat_lit 18)), none, .simple (.bin .add (.tmp (nat_lit 8)) (.const (.int .i64 (.ofNat (nat_lit 1)))))⟩,
    ⟨(some (nat_lit 8)), none, .simple (.move (.tmp (nat_lit 18)))⟩] (some [(nat_lit 0), (nat_lit 1), (nat_lit 7), (nat_lit 8)]))))))))
(.seq (.region [
  ⟨(some (nat_lit 4)), none, .simple (.move (.const (.int .i64 (.negSucc (nat_lit 0)))))⟩] (some [(nat_lit 4)]))
.ret)))
theorem k97 : Try.f97.body.bind (compC Try.prog G97) = some c97 := by kernel_rfl
theorem e97 : compRes Try.prog Try.f97.results.toList = some r97 := by kernel_rfl
def F97 : FunX := ⟨false, G97, c97, r97⟩
theorem o97 : FunOk Try.prog 97 F97 := ⟨Try.f97, by kernel_rfl, k97, e97, by kernel_rfl, by kernel_rfl⟩

/-! 98: slices.ContainsFunc[[]contango/coupon.Range,contango/coupon.Range]; parameters 2, captured 0 -/
def G98 : Cfg := ⟨[], [((nat_lit 0), [(nat_lit 0), (nat_lit 1)]), ((nat_lit 1), [(nat_lit 4)])], (nat_lit 9), []⟩
def r98 : List CRes := [.tmp (nat_lit 4)]
def c98 : CCode :=
(.seq (.region [
  ⟨(some (nat_lit 4)), none, .simple (.move (.const (.bool false)))⟩] (some [(nat_lit 0), (nat_lit 1)]))
(.seq (.region [
  ⟨(some (nat_lit 5)), none, .simple (.move (.tmp (nat_lit 0)))⟩,
  ⟨(some (nat_lit 6)), none, .simple (.move (.tmp (nat_lit 1)))⟩,
  ⟨(some (nat_lit 7)), none, .call (.func (nat_lit 114)) [(.tmp (nat_lit 5)), (.tmp (nat_lit 6))]⟩,
  ⟨(some (nat_lit 8)), none, .simple (.bin .geq (.tmp (nat_lit 7)) (.const (.int .i64 (.ofNat (nat_lit 0)))))⟩,
  ⟨(some (nat_lit 4)), none, .simple (.move (.tmp (nat_lit 8)))⟩] (some [(nat_lit 4)]))
.ret))
theorem k98 : Try.f98.body.bind (compC Try.prog G98) = some c98 := by kernel_rfl
theorem e98 : compRes Try.prog Try.f98.results.toList = some r98 := by kernel_rfl
def F98 : FunX := ⟨false, G98, c98, r98⟩
theorem o98 : FunOk Try.prog 98 F98 := ⟨Try.f98, by kernel_rfl, k98, e98, by kernel_rfl, by kernel_rfl⟩

/-! 99: (contango/coupon.Company).registered$1; parameters 1, captured 1 -/
def G99 : Cfg := ⟨[], [((nat_lit 0), [(nat_lit 1), (nat_lit 2)]), ((nat_lit 1), [(nat_lit 3)])], (nat_lit 7), []⟩
def r99 : List CRes := [.tmp (nat_lit 3)]
def c99 : CCode :=
(.seq (.region [
  ⟨(some (nat_lit 2)), none, .simple (.box false (.tmp (nat_lit 0)))⟩,
  ⟨(some (nat_lit 3)), none, .simple (.move (.const (.bool false)))⟩] (some [(nat_lit 1), (nat_lit 2)]))
(.seq (.region [
  ⟨(some (nat_lit 4)), none, .simple (.load (some (nat_lit 2)) (.tmp (nat_lit 2)))⟩,
  ⟨(some (nat_lit 5)), none, .simple (.load none (.tmp (nat_lit 1)))⟩,
  ⟨(some (nat_lit 6)), none, .call (.func (nat_lit 85)) [(.tmp (nat_lit 4)), (.tmp (nat_lit 5))]⟩,
  ⟨(some (nat_lit 3)), none, .simple (.move (.tmp (nat_lit 6)))⟩] (some [(nat_lit 3)]))
.ret))
theorem k99 : Try.f99.body.bind (compC Try.prog G99) = some c99 := by kernel_rfl
theorem e99 : compRes Try.prog Try.f99.results.toList = some r99 := by kernel_rfl
def F99 : FunX := ⟨false, G99, c99, r99⟩
theorem o99 : FunOk Try.prog 99 F99 := ⟨Try.f99, by kernel_rfl, k99, e99, by kernel_rfl, by kernel_rfl⟩

/-! 100: (contango/coupon.Company).house; parameters 2, captured 0 -/
def G100 : Cfg := ⟨[], [((nat_lit 0), [(nat_lit 1), (nat_lit 2)]), ((nat_lit 1), [(nat_lit 4)])], (nat_lit 10), []⟩
def r100 : List CRes := [.tmp (nat_lit 4)]
def c100 : CCode :=
(.seq (.region [
  ⟨(some (nat_lit 2)), none, .simple (.box false (.tmp (nat_lit 0)))⟩,
  ⟨(some (nat_lit 4)), none, .simple (.move (.const (.bool false)))⟩] (some [(nat_lit 1), (nat_lit 2)]))
(.seq (.region [
  ⟨(some (nat_lit 5)), none, .simple (.move (.tmp (nat_lit 1)))⟩,
  ⟨(some (nat_lit 6)), none, .simple (.fieldAddr (nat_lit 0) (.tmp (nat_lit 2)))⟩,
  ⟨(some (nat_lit 7)), none, .simple (.load none (.tmp (nat_lit 6)))⟩,
  ⟨(some (nat_lit 8)), none, .simple (.bin .sub (.tmp (nat_lit 7)) (.const (.int .i64 (.ofNat (nat_lit 1)))))⟩,
  ⟨(some (nat_lit 9)), none, .call (.func (nat_lit 71)) [(.tmp (nat_lit 5)), (.const (.int .i64 (.ofNat (nat_lit 0)))), (.tmp (nat_lit 8))]⟩,
  ⟨(some (nat_lit 4)), none, .simple (.move (.tmp (nat_lit 9)))⟩] (some [(nat_lit 4)]))
.ret))
theorem k100 : Try.f100.body.bind (compC Try.prog G100) = some c100 := by kernel_rfl
theorem e100 : compRes Try.prog Try.f100.results.toList = some r100 := by kernel_rfl
def F100 : FunX := ⟨false, G100, c100, r100⟩
theorem o100 : FunOk Try.prog 100 F100 := ⟨Try.f100, by kernel_rfl, k100, e100, by kernel_rfl, by kernel_rfl⟩

/-! 101: (contango/coupon.Range).short; parameters 1, captured 0 -/
def G101 : Cfg := ⟨[], [((nat_lit 0), [(nat_lit 1)]), ((nat_lit 1), [(nat_lit 2)])], (nat_lit 13), []⟩
def r101 : List CRes := [.tmp (nat_lit 2)]
def c101 : CCode :=
(.seq (.region [
  ⟨(some (nat_lit 1)), none, .simple (.box false (.tmp (nat_lit 0)))⟩,
  ⟨(some (nat_lit 2)), none, .simple (.move (.const (.bool false)))⟩] (some [(nat_lit 1)]))
(.seq (.region [
  ⟨(some (nat_lit 3)), none, .simple (.load (some (nat_lit 2)) (.tmp (nat_lit 1)))⟩,
  ⟨(some (nat_lit 4)), none, .call (.func (nat_lit 91)) [(.tmp (nat_lit 3))]⟩,
  ⟨(some (nat_lit 5)), none, .simple (.move (.tmp (nat_lit 4)))⟩,
  ⟨(some (nat_lit 6)), (some ((nat_lit 5), true)), .simple (.fieldAddr (nat_lit 1) (.tmp (nat_lit 1)))⟩,
  ⟨(some (nat_lit 7)), (some ((nat_lit 5), true)), .simple (.load none (.tmp (nat_lit 6)))⟩,
  ⟨(some (nat_lit 8)), (some ((nat_lit 5), true)), .simple (.fieldAddr (nat_lit 0) (.tmp (nat_lit 1)))⟩,
  ⟨(some (nat_lit 9)), (some ((nat_lit 5), true)), .simple (.load none (.tmp (nat_lit 8)))⟩,
  ⟨(some (nat_lit 10)), (some ((nat_lit 5), true)), .simple (.bin .sub (.tmp (nat_lit 7)) (.tmp (nat_lit 9)))⟩,
  ⟨(some (nat_lit 11)), (some ((nat_lit 5), true)), .simple (.bin .leq (.tmp (nat_lit 10)) (.const (.int .i64 (.ofNat (nat_lit 2)))))⟩,
  ⟨(some (nat_lit 12)), none, .simple (.pick (.tmp (nat_lit 5)) (.tmp (nat_lit 11)) (.const (.bool false)))⟩,
  ⟨(some (nat_lit 2)), none, .simple (.move (.tmp (nat_lit 12)))⟩] (some [(nat_lit 2)]))
.ret))
theorem k101 : Try.f101.body.bind (compC Try.prog G101) = some c101 := by kernel_rfl
theorem e101 : compRes Try.prog Try.f101.results.toList = some r101 := by kernel_rfl
def F101 : FunX := ⟨false, G101, c101, r101⟩
theorem o101 : FunOk Try.prog 101 F101 := ⟨Try.f101, by kernel_rfl, k101, e101, by kernel_rfl, by kernel_rfl⟩

/-! 102: slices.ContainsFunc[[]int,int]; parameters 2, captured 0 -/
def G102 : Cfg := ⟨[], [((nat_lit 0), [(nat_lit 0), (nat_lit 1)]), ((nat_lit 1), [(nat_lit 4)])], (nat_lit 9), []⟩
def r102 : List CRes := [.tmp (nat_lit 4)]
def c102 : CCode :=
(.seq (.region [
  ⟨(some (nat_lit 4)), none, .simple (.move (.const (.bool false)))⟩] (some [(nat_lit 0), (nat_lit 1)]))
(.seq (.region [
  ⟨(some (nat_lit 5)), none, .simple (.move (.tmp (nat_lit 0)))⟩,
  ⟨(some (nat_lit 6)), none, .simple (.move (.tmp (nat_lit 1)))⟩,
  ⟨(some (nat_lit 7)), none, .call (.func (nat_lit 115)) [(.tmp (nat_lit 5)), (.tmp (nat_lit 6))]⟩,
  ⟨(some (nat_lit 8)), none, .simple (.bin .geq (.tmp (nat_lit 7)) (.const (.int .i64 (.ofNat (nat_lit 0)))))⟩,
  ⟨(some (nat_lit 4)), none, .simple (.move (.tmp (nat_lit 8)))⟩] (some [(nat_lit 4)]))
.ret))
theorem k102 : Try.f102.body.bind (compC Try.prog G102) = some c102 := by kernel_rfl
theorem e102 : compRes Try.prog Try.f102.results.toList = some r102 := by kernel_rfl
def F102 : FunX := ⟨false, G102, c102, r102⟩
theorem o102 : FunOk Try.prog 102 F102 := ⟨Try.f102, by kernel_rfl, k102, e102, by kernel_rfl, by kernel_rfl⟩

/-! 103: contango/coupon.all[int]$1; parameters 1, captured 1 -/
def G103 : Cfg := ⟨[], [((nat_lit 0), [(nat_lit 0), (nat_lit 1)]), ((nat_lit 1), [(nat_lit 3)])], (nat_lit 8), []⟩
def r103 : List CRes := [.tmp (nat_lit 3)]
def c103 : CCode :=
(.seq (.region [
  ⟨(some (nat_lit 3)), none, .simple (.move (.const (.bool false)))⟩] (some [(nat_lit 0), (nat_lit 1)]))
(.seq (.region [
  ⟨(some (nat_lit 4)), none, .simple (.load none (.tmp (nat_lit 1)))⟩,
  ⟨(some (nat_lit 5)), none, .simple (.move (.tmp (nat_lit 0)))⟩,
  ⟨(some (nat_lit 6)), none, .call (.tmp (nat_lit 4)) [(.tmp (nat_lit 5))]⟩,
  ⟨(some (nat_lit 7)), none, .simple (.un .not (.tmp (nat_lit 6)))⟩,
  ⟨(some (nat_lit 3)), none, .simple (.move (.tmp (nat_lit 7)))⟩] (some [(nat_lit 3)]))
.ret))
theorem k103 : Try.f103.body.bind (compC Try.prog G103) = some c103 := by kernel_rfl
theorem e103 : compRes Try.prog Try.f103.results.toList = some r103 := by kernel_rfl
def F103 : FunX := ⟨false, G103, c103, r103⟩
theorem o103 : FunOk Try.prog 103 F103 := ⟨Try.f103, by kernel_rfl, k103, e103, by kernel_rfl, by kernel_rfl⟩

/-! 104: slices.ContainsFunc[[]contango/coupon.Trade,contango/coupon.Trade]; parameters 2, captured 0 -/
def G104 : Cfg := ⟨[], [((nat_lit 0), [(nat_lit 0), (nat_lit 1)]), ((nat_lit 1), [(nat_lit 4)])], (nat_lit 9), []⟩
def r104 : List CRes := [.tmp (nat_lit 4)]
def c104 : CCode :=
(.seq (.region [
  ⟨(some (nat_lit 4)), none, .simple (.move (.const (.bool false)))⟩] (some [(nat_lit 0), (nat_lit 1)]))
(.seq (.region [
  ⟨(some (nat_lit 5)), none, .simple (.move (.tmp (nat_lit 0)))⟩,
  ⟨(some (nat_lit 6)), none, .simple (.move (.tmp (nat_lit 1)))⟩,
  ⟨(some (nat_lit 7)), none, .call (.func (nat_lit 116)) [(.tmp (nat_lit 5)), (.tmp (nat_lit 6))]⟩,
  ⟨(some (nat_lit 8)), none, .simple (.bin .geq (.tmp (nat_lit 7)) (.const (.int .i64 (.ofNat (nat_lit 0)))))⟩,
  ⟨(some (nat_lit 4)), none, .simple (.move (.tmp (nat_lit 8)))⟩] (some [(nat_lit 4)]))
.ret))
theorem k104 : Try.f104.body.bind (compC Try.prog G104) = some c104 := by kernel_rfl
theorem e104 : compRes Try.prog Try.f104.results.toList = some r104 := by kernel_rfl
def F104 : FunX := ⟨false, G104, c104, r104⟩
theorem o104 : FunOk Try.prog 104 F104 := ⟨Try.f104, by kernel_rfl, k104, e104, by kernel_rfl, by kernel_rfl⟩

/-! 105: contango/coupon.all[contango/coupon.Trade]$1; parameters 1, captured 1 -/
def G105 : Cfg := ⟨[], [((nat_lit 0), [(nat_lit 1), (nat_lit 2)]), ((nat_lit 1), [(nat_lit 3)])], (nat_lit 8), []⟩
def r105 : List CRes := [.tmp (nat_lit 3)]
def c105 : CCode :=
(.seq (.region [
  ⟨(some (nat_lit 2)), none, .simple (.box false (.tmp (nat_lit 0)))⟩,
  ⟨(some (nat_lit 3)), none, .simple (.move (.const (.bool false)))⟩] (some [(nat_lit 1), (nat_lit 2)]))
(.seq (.region [
  ⟨(some (nat_lit 4)), none, .simple (.load none (.tmp (nat_lit 1)))⟩,
  ⟨(some (nat_lit 5)), none, .simple (.load (some (nat_lit 7)) (.tmp (nat_lit 2)))⟩,
  ⟨(some (nat_lit 6)), none, .call (.tmp (nat_lit 4)) [(.tmp (nat_lit 5))]⟩,
  ⟨(some (nat_lit 7)), none, .simple (.un .not (.tmp (nat_lit 6)))⟩,
  ⟨(some (nat_lit 3)), none, .simple (.move (.tmp (nat_lit 7)))⟩] (some [(nat_lit 3)]))
.ret))
theorem k105 : Try.f105.body.bind (compC Try.prog G105) = some c105 := by kernel_rfl
theorem e105 : compRes Try.prog Try.f105.results.toList = some r105 := by kernel_rfl
def F105 : FunX := ⟨false, G105, c105, r105⟩
theorem o105 : FunOk Try.prog 105 F105 := ⟨Try.f105, by kernel_rfl, k105, e105, by kernel_rfl, by kernel_rfl⟩

/-! 106: slices.ContainsFunc[[]contango/coupon.Dividend,contango/coupon.Dividend]; parameters 2, captured 0 -/
def G106 : Cfg := ⟨[], [((nat_lit 0), [(nat_lit 0), (nat_lit 1)]), ((nat_lit 1), [(nat_lit 4)])], (nat_lit 9), []⟩
def r106 : List CRes := [.tmp (nat_lit 4)]
def c106 : CCode :=
(.seq (.region [
  ⟨(some (nat_lit 4)), none, .simple (.move (.const (.bool false)))⟩] (some [(nat_lit 0), (nat_lit 1)]))
(.seq (.region [
  ⟨(some (nat_lit 5)), none, .simple (.move (.tmp (nat_lit 0)))⟩,
  ⟨(some (nat_lit 6)), none, .simple (.move (.tmp (nat_lit 1)))⟩,
  ⟨(some (nat_lit 7)), none, .call (.func (nat_lit 117)) [(.tmp (nat_lit 5)), (.tmp (nat_lit 6))]⟩,
  ⟨(some (nat_lit 8)), none, .simple (.bin .geq (.tmp (nat_lit 7)) (.const (.int .i64 (.ofNat (nat_lit 0)))))⟩,
  ⟨(some (nat_lit 4)), none, .simple (.move (.tmp (nat_lit 8)))⟩] (some [(nat_lit 4)]))
.ret))
theorem k106 : Try.f106.body.bind (compC Try.prog G106) = some c106 := by kernel_rfl
theorem e106 : compRes Try.prog Try.f106.results.toList = some r106 := by kernel_rfl
def F106 : FunX := ⟨false, G106, c106, r106⟩
theorem o106 : FunOk Try.prog 106 F106 := ⟨Try.f106, by kernel_rfl, k106, e106, by kernel_rfl, by kernel_rfl⟩

/-! 107: contango/coupon.all[contango/coupon.Dividend]$1; parameters 1, captured 1 -/
def G107 : Cfg := ⟨[], [((nat_lit 0), [(nat_lit 1), (nat_lit 2)]), ((nat_lit 1), [(nat_lit 3)])], (nat_lit 8), []⟩
def r107 : List CRes := [.tmp (nat_lit 3)]
def c107 : CCode :=
(.seq (.region [
  ⟨(some (nat_lit 2)), none, .simple (.box false (.tmp (nat_lit 0)))⟩,
  ⟨(some (nat_lit 3)), none, .simple (.move (.const (.bool false)))⟩] (some [(nat_lit 1), (nat_lit 2)]))
(.seq (.region [
  ⟨(some (nat_lit 4)), none, .simple (.load none (.tmp (nat_lit 1)))⟩,
  ⟨(some (nat_lit 5)), none, .simple (.load (some (nat_lit 3)) (.tmp (nat_lit 2)))⟩,
  ⟨(some (nat_lit 6)), none, .call (.tmp (nat_lit 4)) [(.tmp (nat_lit 5))]⟩,
  ⟨(some (nat_lit 7)), none, .simple (.un .not (.tmp (nat_lit 6)))⟩,
  ⟨(some (nat_lit 3)), none, .simple (.move (.tmp (nat_lit 7)))⟩] (some [(nat_lit 3)]))
.ret))
theorem k107 : Try.f107.body.bind (compC Try.prog G107) = some c107 := by kernel_rfl
theorem e107 : compRes Try.prog Try.f107.results.toList = some r107 := by kernel_rfl
def F107 : FunX := ⟨false, G107, c107, r107⟩
theorem o107 : FunOk Try.prog 107 F107 := ⟨Try.f107, by kernel_rfl, k107, e107, by kernel_rfl, by kernel_rfl⟩

/-! 108: contango/coupon.all[contango/coupon.Split]; parameters 2, captured 0 -/
def G108 : Cfg := ⟨[(nat_lit 3)], [((nat_lit 0), [(nat_lit 0), (nat_lit 3)]), ((nat_lit 1), [(nat_lit 4)])], (nat_lit 9), []⟩
def r108 : List CRes := [.tmp (nat_lit 4)]
def c108 : CCode :=
(.seq (.region [
  ⟨(some (nat_lit 3)), none, .simple (.box true (.tmp (nat_lit 1)))⟩,
  ⟨(some (nat_lit 4)), none, .simple (.move (.const (.bool false)))⟩] (some [(nat_lit 0), (nat_lit 3)]))
(.seq (.region [
  ⟨(some (nat_lit 5)), none, .simple (.move (.tmp (nat_lit 0)))⟩,
  ⟨(some (nat_lit 6)), none, .simple (.mkfn (.func (nat_lit 119)) [] [(.tmp (nat_lit 3))])⟩,
  ⟨(some (nat_lit 7)), none, .call (.func (nat_lit 118)) [(.tmp (nat_lit 5)), (.tmp (nat_lit 6))]⟩,
  ⟨(some (nat_lit 8)), none, .simple (.un .not (.tmp (nat_lit 7)))⟩,
  ⟨(some (nat_lit 4)), none, .simple (.move (.tmp (nat_lit 8)))⟩] (some [(nat_lit 4)]))
.ret))
theorem k108 : Try.f108.body.bind (compC Try.prog G108) = some c108 := by kernel_rfl
theorem e108 : compRes Try.prog Try.f108.results.toList = some r108 := by kernel_rfl
def F108 : FunX := ⟨false, G108, c108, r108⟩
theorem o108 : FunOk Try.prog 108 F108 := ⟨Try.f108, by kernel_rfl, k108, e108, by kernel_rfl, by kernel_rfl⟩

end Go.Proofs.Ytdnefcjbcieecaa
