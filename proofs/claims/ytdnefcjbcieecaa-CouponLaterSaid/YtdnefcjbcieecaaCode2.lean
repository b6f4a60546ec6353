import Derived.Test.YtdnefcjbcieecaaCoreX
import Derived.Test.YtdnefcjbcieecaaProg
import Derived.KernelRfl
namespace Go.Proofs.Ytdnefcjbcieecaa
open Go Go.Proofs

/-! 75: contango/coupon.Leave$1; parameters 3, captured 3 -/
def G75 : Cfg := ⟨[53, 34, 10, 12], [(0, [0, 1, 2, 3, 4, 5]), (1, [0, 1, 2, 3, 4, 5, 15]), (2, [0, 3, 4, 10]), (3, [0, 3, 4, 10]), (4, [0, 4, 10, 19, 20, 21]), (5, [0, 4, 10, 19, 20, 21, 22]), (6, [0, 4, 10, 11, 12, 19, 20, 21]), (7, [0, 4, 10, 12, 19, 20, 21, 29]), (8, [0, 4, 10, 19, 20, 21]), (9, [0, 4, 10, 19, 20, 21]), (10, [10]), (11, [9]), (12, [0, 2, 3, 5, 13]), (13, [0, 2, 3, 5, 13, 45]), (15, [0, 2, 3, 5, 13, 58]), (16, [9]), (14, [0, 2, 3, 5, 13]), (17, [9])], 59, [(10, [(10, (some 2))])]⟩
def r75 : List CRes := [.tmp 9]
def c75 : CCode :=
(.seq (.region [
  ⟨(some 9), none, .simple (.move (.const (.bool false)))⟩] (some [0, 1, 2, 3, 4, 5]))
(.seq (.seq (.region [
  ⟨(some 14), none, .simple (.move (.tmp 2))⟩,
  ⟨(some 15), none, .simple (.bin .eql (.tmp 14) (.const (.int .i64 0)))⟩] (some [0, 1, 2, 3, 4, 5, 15]))
(.cond (.tmp 15)
 (.seq (.region [
   ⟨(some 16), none, .simple (.load (some 6) (.tmp 3))⟩,
   ⟨(some 10), none, .simple (.alloc [(.d (.int .i64 0)), (.d .nils), (.d .nils), (.d .nils), (.d .nils), (.d .nils)])⟩,
   ⟨none, none, .simple (.store 6 (.tmp 10) (.tmp 16))⟩] (some [0, 3, 4, 10]))
 (.seq (.region [
   ⟨(some 17), none, .simple (.fieldAddr 2 (.tmp 10))⟩,
   ⟨none, none, .simple (.store 1 (.tmp 17) (.const (.slice none 0 0)))⟩] (some [0, 3, 4, 10]))
 (.seq (.seq (.region [
   ⟨(some 18), none, .simple (.fieldAddr 2 (.tmp 3))⟩,
   ⟨(some 19), none, .simple (.load none (.tmp 18))⟩,
   ⟨(some 20), none, .simple (.len (.tmp 19))⟩,
   ⟨(some 21), none, .simple (.move (.const (.int .i64 0)))⟩] (some [0, 4, 10, 19, 20, 21]))
 (.block 0 (.loop (.seq (.region [
     ⟨(some 22), none, .simple (.bin .lss (.tmp 21) (.tmp 20))⟩] (some [0, 4, 10, 19, 20, 21, 22]))
   (.seq (.cond (.tmp 22)
    .skip
    (.exit 0))
   (.seq (.block 1 (.seq (.region [
      ⟨(some 23), none, .simple (.move (.tmp 21))⟩,
      ⟨(some 24), none, .simple (.indexS 7 (.tmp 19) (.tmp 21))⟩,
      ⟨(some 25), none, .simple (.load (some 7) (.tmp 24))⟩,
      ⟨(some 12), none, .simple (.alloc [(.d (.int .i64 0)), (.d (.int .i64 0)), (.d (.int .i64 0)), (.d (.int .i64 0)), (.d (.int .i64 0)), (.d (.int .i64 0)), (.d (.int .i64 0))])⟩,
      ⟨(some 11), none, .simple (.move (.tmp 23))⟩,
      ⟨none, none, .simple (.store 7 (.tmp 12) (.tmp 25))⟩] (some [0, 4, 10, 11, 12, 19, 20, 21]))
    (.seq (.region [
      ⟨(some 26), none, .simple (.move (.tmp 0))⟩,
      ⟨(some 27), none, .simple (.move (.tmp 11))⟩,
      ⟨(some 28), none, .call (.func 76) [(.tmp 26), (.tmp 27)]⟩,
      ⟨(some 29), none, .simple (.un .not (.tmp 28))⟩] (some [0, 4, 10, 12, 19, 20, 21, 29]))
    (.cond (.tmp 29)
     (.region [
       ⟨(some 30), none, .simple (.fieldAddr 2 (.tmp 10))⟩,
       ⟨(some 31), none, .simple (.load none (.tmp 30))⟩,
       ⟨(some 32), none, .simple (.load (some 7) (.tmp 12))⟩,
       ⟨(some 33), none, .simple (.bslice false 93 7 1 [(.int .i64 0), (.int .i64 0), (.int .i64 0), (.int .i64 0), (.int .i64 0), (.int .i64 0), (.int .i64 0)] [(0, (.tmp 32))])⟩,
       ⟨(some 34), none, .app 93 7 56 (.tmp 31) (.tmp 33)⟩,
       ⟨(some 35), none, .simple (.fieldAddr 2 (.tmp 10))⟩,
       ⟨none, none, .simple (.store 1 (.tmp 35) (.tmp 34))⟩] (some [0, 4, 10, 19, 20, 21]))
     .skip))))
   (.region [
     ⟨(some 36), none, .simple (.bin .add (.tmp 21) (.const (.int .i64 1)))⟩,
     ⟨(some 21), none, .simple (.move (.tmp 36))⟩] (some [0, 4, 10, 19, 20, 21]))))))))
 (.seq (.seq (.frz (10, (some 2)))
 (.region [
   ⟨(some 37), none, .simple (.move (.tmp 0))⟩,
   ⟨none, none, .simple (.store 1 (.tmp 4) (.tmp 37))⟩] (some [10])))
 (.seq (.region [
   ⟨(some 38), none, .simple (.load (some 6) (.tmp 10))⟩,
   ⟨(some 39), none, .call (.func 77) [(.tmp 38)]⟩,
   ⟨(some 9), none, .simple (.move (.tmp 39))⟩] (some [9]))
 .ret)))))
 .skip))
(.seq (.seq (.region [
  ⟨(some 40), none, .simple (.move (.tmp 1))⟩,
  ⟨(some 13), none, .simple (.move (.tmp 40))⟩] (some [0, 2, 3, 5, 13]))
(.block 2 (.loop (.seq (.seq (.region [
    ⟨(some 41), none, .simple (.move (.tmp 13))⟩,
    ⟨(some 42), none, .simple (.fieldAddr 2 (.tmp 3))⟩,
    ⟨(some 43), none, .simple (.load none (.tmp 42))⟩,
    ⟨(some 44), none, .simple (.len (.tmp 43))⟩,
    ⟨(some 45), none, .simple (.bin .lss (.tmp 41) (.tmp 44))⟩] (some [0, 2, 3, 5, 13, 45]))
  (.cond (.tmp 45)
   .skip
   (.exit 2)))
  (.seq (.block 3 (.seq (.seq (.region [
     ⟨(some 49), none, .simple (.move (.tmp 0))⟩,
     ⟨(some 51), none, .simple (.move (.tmp 13))⟩,
     ⟨(some 52), none, .simple (.bslice false 3 1 1 [(.int .i64 0)] [(0, (.tmp 51))])⟩,
     ⟨(some 54), none, .simple (.move (.tmp 13))⟩,
     ⟨(some 55), none, .simple (.bin .add (.tmp 54) (.const (.int .i64 1)))⟩,
     ⟨(some 56), none, .simple (.move (.tmp 2))⟩,
     ⟨(some 57), none, .simple (.bin .sub (.tmp 56) (.const (.int .i64 1)))⟩] none)
   (.both (.region [
      ⟨(some 48), none, .simple (.load none (.tmp 5))⟩,
      ⟨(some 50), none, .callx (.func 78) [(.tmp 49)]⟩,
      ⟨(some 53), none, .app 3 1 8 (.tmp 50) (.tmp 52)⟩,
      ⟨(some 58), none, .call (.tmp 48) [(.tmp 53), (.tmp 55), (.tmp 57)]⟩] (some [0, 2, 3, 5, 13, 58]))
    (.seq (.region [
      ⟨(some 50), none, .callx (.func 78) [(.tmp 49)]⟩] none)
    (.both (.region [
       ⟨(some 48), none, .simple (.load none (.tmp 5))⟩,
       ⟨(some 53), none, .app 3 1 8 (.tmp 50) (.tmp 52)⟩,
       ⟨(some 58), none, .call (.tmp 48) [(.tmp 53), (.tmp 55), (.tmp 57)]⟩] (some [0, 2, 3, 5, 13, 58]))
     (.region [
       ⟨(some 53), none, .app 3 1 8 (.tmp 50) (.tmp 52)⟩,
       ⟨(some 48), none, .simple (.load none (.tmp 5))⟩,
       ⟨(some 58), none, .call (.tmp 48) [(.tmp 53), (.tmp 55), (.tmp 57)]⟩] (some [0, 2, 3, 5, 13, 58]))))))
   (.cond (.tmp 58)
    (.seq (.region [
      ⟨(some 9), none, .simple (.move (.const (.bool true)))⟩] (some [9]))
    .ret)
    .skip)))
  (.region [
    ⟨(some 46), none, .simple (.move (.tmp 13))⟩,
    ⟨(some 47), none, .simple (.bin .add (.tmp 46) (.const (.int .i64 1)))⟩,
    ⟨(some 13), none, .simple (.move (.tmp 47))⟩] (some [0, 2, 3, 5, 13])))))))
(.seq (.region [
  ⟨(some 9), none, .simple (.move (.const (.bool false)))⟩] (some [9]))
.ret))))
theorem k75 : Try.f75.body.bind (compC Try.prog G75) = some c75 := by kernel_rfl
theorem e75 : compRes Try.prog Try.f75.results.toList = some r75 := by kernel_rfl
def F75 : FunX := ⟨false, G75, c75, r75⟩
theorem o75 : FunOk Try.prog 75 F75 := ⟨Try.f75, by kernel_rfl, k75, e75, by kernel_rfl, by kernel_rfl⟩

/-! 76: slices.Contains[[]int,int]; parameters 2, captured 0 -/
def G76 : Cfg := ⟨[], [(0, [0, 1]), (1, [4])], 9, []⟩
def r76 : List CRes := [.tmp 4]
def c76 : CCode :=
(.seq (.region [
  ⟨(some 4), none, .simple (.move (.const (.bool false)))⟩] (some [0, 1]))
(.seq (.region [
  ⟨(some 5), none, .simple (.move (.tmp 0))⟩,
  ⟨(some 6), none, .simple (.move (.tmp 1))⟩,
  ⟨(some 7), none, .call (.func 97) [(.tmp 5), (.tmp 6)]⟩,
  ⟨(some 8), none, .simple (.bin .geq (.tmp 7) (.const (.int .i64 0)))⟩,
  ⟨(some 4), none, .simple (.move (.tmp 8))⟩] (some [4]))
.ret))
theorem k76 : Try.f76.body.bind (compC Try.prog G76) = some c76 := by kernel_rfl
theorem e76 : compRes Try.prog Try.f76.results.toList = some r76 := by kernel_rfl
def F76 : FunX := ⟨false, G76, c76, r76⟩
theorem o76 : FunOk Try.prog 76 F76 := ⟨Try.f76, by kernel_rfl, k76, e76, by kernel_rfl, by kernel_rfl⟩

/-! 77: (contango/coupon.Company).possible; parameters 1, captured 0 -/
def G77 : Cfg := ⟨[2], [(0, [1, 2]), (1, [2, 5]), (2, [2]), (3, [2])], 7, []⟩
def r77 : List CRes := [.cell 2 none]
def c77 : CCode :=
(.seq (.region [
  ⟨(some 1), none, .simple (.box false (.tmp 0))⟩,
  ⟨(some 2), none, .simple (.alloc [(.d (.bool false))])⟩] (some [1, 2]))
(.seq (.seq (.region [
  ⟨(some 3), none, .simple (.load (some 6) (.tmp 1))⟩,
  ⟨(some 4), none, .call (.func 72) [(.tmp 3)]⟩,
  ⟨(some 5), none, .call (.func 95) [(.tmp 4)]⟩] (some [2, 5]))
(.block 0 (.rangeF (.tmp 5) [6]
  .skip
  (.block 1 (.seq (.region [
     ⟨none, none, .simple (.store 1 (.tmp 2) (.const (.bool true)))⟩] (some [2]))
   .ret)))))
(.seq (.region [
  ⟨none, none, .simple (.store 1 (.tmp 2) (.const (.bool false)))⟩] (some [2]))
.ret)))
theorem k77 : Try.f77.body.bind (compC Try.prog G77) = some c77 := by kernel_rfl
theorem e77 : compRes Try.prog Try.f77.results.toList = some r77 := by kernel_rfl
def F77 : FunX := ⟨false, G77, c77, r77⟩
theorem o77 : FunOk Try.prog 77 F77 := ⟨Try.f77, by kernel_rfl, k77, e77, by kernel_rfl, by kernel_rfl⟩

/-! 78: slices.Clone[[]int,int]; parameters 1, captured 0 -/
def G78 : Cfg := ⟨[7, 5], [(0, [0]), (1, [0, 4]), (2, [2]), (3, [2])], 8, []⟩
def r78 : List CRes := [.tmp 2]
def c78 : CCode :=
(.seq (.region [
  ⟨(some 2), none, .simple (.move (.const (.slice none 0 0)))⟩] (some [0]))
(.seq (.seq (.region [
  ⟨(some 3), none, .simple (.move (.tmp 0))⟩,
  ⟨(some 4), none, .simple (.isNil 0 false (.tmp 3))⟩] (some [0, 4]))
(.cond (.tmp 4)
 (.seq (.region [
   ⟨(some 2), none, .simple (.move (.const (.slice none 0 0)))⟩] (some [2]))
 .ret)
 .skip))
(.seq (.region [
  ⟨(some 5), none, .simple (.bslice true 3 1 0 [] [])⟩,
  ⟨(some 6), none, .simple (.move (.tmp 0))⟩,
  ⟨(some 7), none, .app 3 1 8 (.tmp 5) (.tmp 6)⟩,
  ⟨(some 2), none, .simple (.move (.tmp 7))⟩] (some [2]))
.ret)))
theorem k78 : Try.f78.body.bind (compC Try.prog G78) = some c78 := by kernel_rfl
theorem e78 : compRes Try.prog Try.f78.results.toList = some r78 := by kernel_rfl
def F78 : FunX := ⟨false, G78, c78, r78⟩
theorem o78 : FunOk Try.prog 78 F78 := ⟨Try.f78, by kernel_rfl, k78, e78, by kernel_rfl, by kernel_rfl⟩

/-! 82: (contango/coupon.Company).registered; parameters 2, captured 0 -/
def G82 : Cfg := ⟨[3], [(0, [2, 3]), (1, [2, 3, 6]), (3, [2, 3, 13]), (4, [4]), (2, [2, 3]), (5, [4])], 15, []⟩
def r82 : List CRes := [.tmp 4]
def c82 : CCode :=
(.seq (.region [
  ⟨(some 2), none, .simple (.box false (.tmp 0))⟩,
  ⟨(some 3), none, .simple (.box true (.tmp 1))⟩,
  ⟨(some 4), none, .simple (.move (.const (.int .i64 0)))⟩] (some [2, 3]))
(.seq (.block 0 (.loop (.seq (.seq (.region [
    ⟨(some 5), none, .simple (.load none (.tmp 3))⟩,
    ⟨(some 6), none, .call (.func 59) [(.tmp 5)]⟩] (some [2, 3, 6]))
  (.cond (.tmp 6)
   .skip
   (.exit 0)))
  (.seq (.block 1 (.seq (.region [
     ⟨(some 9), none, .simple (.fieldAddr 5 (.tmp 2))⟩,
     ⟨(some 10), none, .simple (.load none (.tmp 9))⟩,
     ⟨(some 11), none, .simple (.mkfn (.func 99) [] [(.tmp 3)])⟩,
     ⟨(some 12), none, .call (.func 98) [(.tmp 10), (.tmp 11)]⟩,
     ⟨(some 13), none, .simple (.un .not (.tmp 12))⟩] (some [2, 3, 13]))
   (.cond (.tmp 13)
    (.seq (.region [
      ⟨(some 14), none, .simple (.load none (.tmp 3))⟩,
      ⟨(some 4), none, .simple (.move (.tmp 14))⟩] (some [4]))
    .ret)
    .skip)))
  (.region [
    ⟨(some 7), none, .simple (.load none (.tmp 3))⟩,
    ⟨(some 8), none, .simple (.bin .add (.tmp 7) (.const (.int .i64 1)))⟩,
    ⟨none, none, .simple (.store 1 (.tmp 3) (.tmp 8))⟩] (some [2, 3]))))))
(.seq (.region [
  ⟨(some 4), none, .simple (.move (.const (.int .i64 (-1))))⟩] (some [4]))
.ret)))
theorem k82 : Try.f82.body.bind (compC Try.prog G82) = some c82 := by kernel_rfl
theorem e82 : compRes Try.prog Try.f82.results.toList = some r82 := by kernel_rfl
def F82 : FunX := ⟨false, G82, c82, r82⟩
theorem o82 : FunOk Try.prog 82 F82 := ⟨Try.f82, by kernel_rfl, k82, e82, by kernel_rfl, by kernel_rfl⟩

/-! 83: (contango/coupon.Company).trade; parameters 2, captured 0 -/
def G83 : Cfg := ⟨[], [(0, [2, 3]), (1, [4])], 37, []⟩
def r83 : List CRes := [.tmp 4]
def c83 : CCode :=
(.seq (.region [
  ⟨(some 2), none, .simple (.box false (.tmp 0))⟩,
  ⟨(some 3), none, .simple (.box false (.tmp 1))⟩,
  ⟨(some 4), none, .simple (.move (.const (.bool false)))⟩] (some [2, 3]))
(.seq (.region [
  ⟨(some 5), none, .simple (.load (some 6) (.tmp 2))⟩,
  ⟨(some 6), none, .simple (.fieldAddr 0 (.tmp 3))⟩,
  ⟨(some 7), none, .simple (.load none (.tmp 6))⟩,
  ⟨(some 8), none, .call (.func 100) [(.tmp 5), (.tmp 7)]⟩,
  ⟨(some 9), none, .simple (.move (.tmp 8))⟩,
  ⟨(some 10), (some (9, true)), .simple (.load (some 6) (.tmp 2))⟩,
  ⟨(some 11), (some (9, true)), .simple (.fieldAddr 1 (.tmp 3))⟩,
  ⟨(some 12), (some (9, true)), .simple (.load none (.tmp 11))⟩,
  ⟨(some 13), (some (9, true)), .call (.func 100) [(.tmp 10), (.tmp 12)]⟩,
  ⟨(some 14), none, .simple (.pick (.tmp 9) (.tmp 13) (.const (.bool false)))⟩,
  ⟨(some 15), none, .simple (.move (.tmp 14))⟩,
  ⟨(some 16), (some (15, true)), .simple (.fieldAddr 0 (.tmp 3))⟩,
  ⟨(some 17), (some (15, true)), .simple (.load none (.tmp 16))⟩,
  ⟨(some 18), (some (15, true)), .simple (.fieldAddr 1 (.tmp 3))⟩,
  ⟨(some 19), (some (15, true)), .simple (.load none (.tmp 18))⟩,
  ⟨(some 20), (some (15, true)), .simple (.bin .neq (.tmp 17) (.tmp 19))⟩,
  ⟨(some 21), none, .simple (.pick (.tmp 15) (.tmp 20) (.const (.bool false)))⟩,
  ⟨(some 22), none, .simple (.move (.tmp 21))⟩,
  ⟨(some 23), (some (22, true)), .simple (.fieldAddr 2 (.tmp 3))⟩,
  ⟨(some 24), (some (22, true)), .simple (.load none (.tmp 23))⟩,
  ⟨(some 25), (some (22, true)), .call (.func 71) [(.tmp 24), (.const (.int .i64 1)), (.const (.int .i64 100))]⟩,
  ⟨(some 26), none, .simple (.pick (.tmp 22) (.tmp 25) (.const (.bool false)))⟩,
  ⟨(some 27), none, .simple (.move (.tmp 26))⟩,
  ⟨(some 28), (some (27, true)), .simple (.fieldAddr 3 (.tmp 3))⟩,
  ⟨(some 29), (some (27, true)), .simple (.load (some 2) (.tmp 28))⟩,
  ⟨(some 30), (some (27, true)), .call (.func 101) [(.tmp 29)]⟩,
  ⟨(some 31), none, .simple (.pick (.tmp 27) (.tmp 30) (.const (.bool false)))⟩,
  ⟨(some 32), none, .simple (.move (.tmp 31))⟩,
  ⟨(some 33), (some (32, true)), .simple (.fieldAddr 5 (.tmp 3))⟩,
  ⟨(some 34), (some (32, true)), .simple (.load (some 2) (.tmp 33))⟩,
  ⟨(some 35), (some (32, true)), .call (.func 101) [(.tmp 34)]⟩,
  ⟨(some 36), none, .simple (.pick (.tmp 32) (.tmp 35) (.const (.bool false)))⟩,
  ⟨(some 4), none, .simple (.move (.tmp 36))⟩] (some [4]))
.ret))
theorem k83 : Try.f83.body.bind (compC Try.prog G83) = some c83 := by kernel_rfl
theorem e83 : compRes Try.prog Try.f83.results.toList = some r83 := by kernel_rfl
def F83 : FunX := ⟨false, G83, c83, r83⟩
theorem o83 : FunOk Try.prog 83 F83 := ⟨Try.f83, by kernel_rfl, k83, e83, by kernel_rfl, by kernel_rfl⟩

/-! 84: contango/coupon.all[int]; parameters 2, captured 0 -/
def G84 : Cfg := ⟨[3], [(0, [0, 3]), (1, [4])], 9, []⟩
def r84 : List CRes := [.tmp 4]
def c84 : CCode :=
(.seq (.region [
  ⟨(some 3), none, .simple (.box true (.tmp 1))⟩,
  ⟨(some 4), none, .simple (.move (.const (.bool false)))⟩] (some [0, 3]))
(.seq (.region [
  ⟨(some 5), none, .simple (.move (.tmp 0))⟩,
  ⟨(some 6), none, .simple (.mkfn (.func 103) [] [(.tmp 3)])⟩,
  ⟨(some 7), none, .call (.func 102) [(.tmp 5), (.tmp 6)]⟩,
  ⟨(some 8), none, .simple (.un .not (.tmp 7))⟩,
  ⟨(some 4), none, .simple (.move (.tmp 8))⟩] (some [4]))
.ret))
theorem k84 : Try.f84.body.bind (compC Try.prog G84) = some c84 := by kernel_rfl
theorem e84 : compRes Try.prog Try.f84.results.toList = some r84 := by kernel_rfl
def F84 : FunX := ⟨false, G84, c84, r84⟩
theorem o84 : FunOk Try.prog 84 F84 := ⟨Try.f84, by kernel_rfl, k84, e84, by kernel_rfl, by kernel_rfl⟩

/-! 85: (contango/coupon.Range).has; parameters 2, captured 0 -/
def G85 : Cfg := ⟨[], [(0, [1, 2]), (1, [4])], 11, []⟩
def r85 : List CRes := [.tmp 4]
def c85 : CCode :=
(.seq (.region [
  ⟨(some 2), none, .simple (.box false (.tmp 0))⟩,
  ⟨(some 4), none, .simple (.move (.const (.bool false)))⟩] (some [1, 2]))
(.seq (.region [
  ⟨(some 5), none, .simple (.move (.tmp 1))⟩,
  ⟨(some 6), none, .simple (.fieldAddr 0 (.tmp 2))⟩,
  ⟨(some 7), none, .simple (.load none (.tmp 6))⟩,
  ⟨(some 8), none, .simple (.fieldAddr 1 (.tmp 2))⟩,
  ⟨(some 9), none, .simple (.load none (.tmp 8))⟩,
  ⟨(some 10), none, .call (.func 71) [(.tmp 5), (.tmp 7), (.tmp 9)]⟩,
  ⟨(some 4), none, .simple (.move (.tmp 10))⟩] (some [4]))
.ret))
theorem k85 : Try.f85.body.bind (compC Try.prog G85) = some c85 := by kernel_rfl
theorem e85 : compRes Try.prog Try.f85.results.toList = some r85 := by kernel_rfl
def F85 : FunX := ⟨false, G85, c85, r85⟩
theorem o85 : FunOk Try.prog 85 F85 := ⟨Try.f85, by kernel_rfl, k85, e85, by kernel_rfl, by kernel_rfl⟩

/-! 86: contango/coupon.all[contango/coupon.Trade]; parameters 2, captured 0 -/
def G86 : Cfg := ⟨[3], [(0, [0, 3]), (1, [4])], 9, []⟩
def r86 : List CRes := [.tmp 4]
def c86 : CCode :=
(.seq (.region [
  ⟨(some 3), none, .simple (.box true (.tmp 1))⟩,
  ⟨(some 4), none, .simple (.move (.const (.bool false)))⟩] (some [0, 3]))
(.seq (.region [
  ⟨(some 5), none, .simple (.move (.tmp 0))⟩,
  ⟨(some 6), none, .simple (.mkfn (.func 105) [] [(.tmp 3)])⟩,
  ⟨(some 7), none, .call (.func 104) [(.tmp 5), (.tmp 6)]⟩,
  ⟨(some 8), none, .simple (.un .not (.tmp 7))⟩,
  ⟨(some 4), none, .simple (.move (.tmp 8))⟩] (some [4]))
.ret))
theorem k86 : Try.f86.body.bind (compC Try.prog G86) = some c86 := by kernel_rfl
theorem e86 : compRes Try.prog Try.f86.results.toList = some r86 := by kernel_rfl
def F86 : FunX := ⟨false, G86, c86, r86⟩
theorem o86 : FunOk Try.prog 86 F86 := ⟨Try.f86, by kernel_rfl, k86, e86, by kernel_rfl, by kernel_rfl⟩

/-! 87: contango/coupon.all[contango/coupon.Dividend]; parameters 2, captured 0 -/
def G87 : Cfg := ⟨[3], [(0, [0, 3]), (1, [4])], 9, []⟩
def r87 : List CRes := [.tmp 4]
def c87 : CCode :=
(.seq (.region [
  ⟨(some 3), none, .simple (.box true (.tmp 1))⟩,
  ⟨(some 4), none, .simple (.move (.const (.bool false)))⟩] (some [0, 3]))
(.seq (.region [
  ⟨(some 5), none, .simple (.move (.tmp 0))⟩,
  ⟨(some 6), none, .simple (.mkfn (.func 107) [] [(.tmp 3)])⟩,
  ⟨(some 7), none, .call (.func 106) [(.tmp 5), (.tmp 6)]⟩,
  ⟨(some 8), none, .simple (.un .not (.tmp 7))⟩,
  ⟨(some 4), none, .simple (.move (.tmp 8))⟩] (some [4]))
.ret))
theorem k87 : Try.f87.body.bind (compC Try.prog G87) = some c87 := by kernel_rfl
theorem e87 : compRes Try.prog Try.f87.results.toList = some r87 := by kernel_rfl
def F87 : FunX := ⟨false, G87, c87, r87⟩
theorem o87 : FunOk Try.prog 87 F87 := ⟨Try.f87, by kernel_rfl, k87, e87, by kernel_rfl, by kernel_rfl⟩

/-! 88: (contango/coupon.Dividend).valid; parameters 1, captured 0 -/
def G88 : Cfg := ⟨[], [(0, [1]), (1, [2])], 14, []⟩
def r88 : List CRes := [.tmp 2]
def c88 : CCode :=
(.seq (.region [
  ⟨(some 1), none, .simple (.box false (.tmp 0))⟩,
  ⟨(some 2), none, .simple (.move (.const (.bool false)))⟩] (some [1]))
(.seq (.region [
  ⟨(some 3), none, .simple (.fieldAddr 0 (.tmp 1))⟩,
  ⟨(some 4), none, .simple (.load none (.tmp 3))⟩,
  ⟨(some 5), none, .simple (.fieldAddr 1 (.tmp 1))⟩,
  ⟨(some 6), none, .simple (.load none (.tmp 5))⟩,
  ⟨(some 7), none, .simple (.build [(.d (.int .i64 0)), (.d (.int .i64 0))] [(0, 1, (.tmp 4)), (1, 1, (.tmp 6))])⟩,
  ⟨(some 8), none, .call (.func 91) [(.tmp 7)]⟩,
  ⟨(some 9), none, .simple (.move (.tmp 8))⟩,
  ⟨(some 10), (some (9, true)), .simple (.fieldAddr 2 (.tmp 1))⟩,
  ⟨(some 11), (some (9, true)), .simple (.load none (.tmp 10))⟩,
  ⟨(some 12), (some (9, true)), .call (.func 71) [(.tmp 11), (.const (.int .i64 0)), (.const (.int .i64 50))]⟩,
  ⟨(some 13), none, .simple (.pick (.tmp 9) (.tmp 12) (.const (.bool false)))⟩,
  ⟨(some 2), none, .simple (.move (.tmp 13))⟩] (some [2]))
.ret))
theorem k88 : Try.f88.body.bind (compC Try.prog G88) = some c88 := by kernel_rfl
theorem e88 : compRes Try.prog Try.f88.results.toList = some r88 := by kernel_rfl
def F88 : FunX := ⟨false, G88, c88, r88⟩
theorem o88 : FunOk Try.prog 88 F88 := ⟨Try.f88, by kernel_rfl, k88, e88, by kernel_rfl, by kernel_rfl⟩

/-! 89: (contango/coupon.Company).split; parameters 1, captured 0 -/
def G89 : Cfg := ⟨[3], [(0, [1]), (1, [1, 3]), (2, [2])], 8, []⟩
def r89 : List CRes := [.tmp 2]
def c89 : CCode :=
(.seq (.region [
  ⟨(some 1), none, .simple (.box false (.tmp 0))⟩,
  ⟨(some 2), none, .simple (.move (.const (.bool false)))⟩] (some [1]))
(.seq (.region [
  ⟨(some 3), none, .simple (.alloc [(.d (.int .i64 0))])⟩,
  ⟨none, none, .simple (.store 1 (.tmp 3) (.const (.int .i64 (-1))))⟩] (some [1, 3]))
(.seq (.region [
  ⟨(some 4), none, .simple (.fieldAddr 4 (.tmp 1))⟩,
  ⟨(some 5), none, .simple (.load none (.tmp 4))⟩,
  ⟨(some 6), none, .simple (.mkfn (.func 109) [] [(.tmp 3)])⟩,
  ⟨(some 7), none, .call (.func 108) [(.tmp 5), (.tmp 6)]⟩,
  ⟨(some 2), none, .simple (.move (.tmp 7))⟩] (some [2]))
.ret)))
theorem k89 : Try.f89.body.bind (compC Try.prog G89) = some c89 := by kernel_rfl
theorem e89 : compRes Try.prog Try.f89.results.toList = some r89 := by kernel_rfl
def F89 : FunX := ⟨false, G89, c89, r89⟩
theorem o89 : FunOk Try.prog 89 F89 := ⟨Try.f89, by kernel_rfl, k89, e89, by kernel_rfl, by kernel_rfl⟩

/-! 90: contango/coupon.all[contango/coupon.Range]; parameters 2, captured 0 -/
def G90 : Cfg := ⟨[3], [(0, [0, 3]), (1, [4])], 9, []⟩
def r90 : List CRes := [.tmp 4]
def c90 : CCode :=
(.seq (.region [
  ⟨(some 3), none, .simple (.box true (.tmp 1))⟩,
  ⟨(some 4), none, .simple (.move (.const (.bool false)))⟩] (some [0, 3]))
(.seq (.region [
  ⟨(some 5), none, .simple (.move (.tmp 0))⟩,
  ⟨(some 6), none, .simple (.mkfn (.func 110) [] [(.tmp 3)])⟩,
  ⟨(some 7), none, .call (.func 98) [(.tmp 5), (.tmp 6)]⟩,
  ⟨(some 8), none, .simple (.un .not (.tmp 7))⟩,
  ⟨(some 4), none, .simple (.move (.tmp 8))⟩] (some [4]))
.ret))
theorem k90 : Try.f90.body.bind (compC Try.prog G90) = some c90 := by kernel_rfl
theorem e90 : compRes Try.prog Try.f90.results.toList = some r90 := by kernel_rfl
def F90 : FunX := ⟨false, G90, c90, r90⟩
theorem o90 : FunOk Try.prog 90 F90 := ⟨Try.f90, by kernel_rfl, k90, e90, by kernel_rfl, by kernel_rfl⟩

/-! 91: (contango/coupon.Range).days; parameters 1, captured 0 -/
def G91 : Cfg := ⟨[], [(0, [1]), (1, [2])], 18, []⟩
def r91 : List CRes := [.tmp 2]
def c91 : CCode :=
(.seq (.region [
  ⟨(some 1), none, .simple (.box false (.tmp 0))⟩,
  ⟨(some 2), none, .simple (.move (.const (.bool false)))⟩] (some [1]))
(.seq (.region [
  ⟨(some 3), none, .simple (.fieldAddr 0 (.tmp 1))⟩,
  ⟨(some 4), none, .simple (.load none (.tmp 3))⟩,
  ⟨(some 5), none, .call (.func 59) [(.tmp 4)]⟩,
  ⟨(some 6), none, .simple (.move (.tmp 5))⟩,
  ⟨(some 7), (some (6, true)), .simple (.fieldAddr 1 (.tmp 1))⟩,
  ⟨(some 8), (some (6, true)), .simple (.load none (.tmp 7))⟩,
  ⟨(some 9), (some (6, true)), .call (.func 59) [(.tmp 8)]⟩,
  ⟨(some 10), none, .simple (.pick (.tmp 6) (.tmp 9) (.const (.bool false)))⟩,
  ⟨(some 11), none, .simple (.move (.tmp 10))⟩,
  ⟨(some 12), (some (11, true)), .simple (.fieldAddr 0 (.tmp 1))⟩,
  ⟨(some 13), (some (11, true)), .simple (.load none (.tmp 12))⟩,
  ⟨(some 14), (some (11, true)), .simple (.fieldAddr 1 (.tmp 1))⟩,
  ⟨(some 15), (some (11, true)), .simple (.load none (.tmp 14))⟩,
  ⟨(some 16), (some (11, true)), .simple (.bin .leq (.tmp 13) (.tmp 15))⟩,
  ⟨(some 17), none, .simple (.pick (.tmp 11) (.tmp 16) (.const (.bool false)))⟩,
  ⟨(some 2), none, .simple (.move (.tmp 17))⟩] (some [2]))
.ret))
theorem k91 : Try.f91.body.bind (compC Try.prog G91) = some c91 := by kernel_rfl
theorem e91 : compRes Try.prog Try.f91.results.toList = some r91 := by kernel_rfl
def F91 : FunX := ⟨false, G91, c91, r91⟩
theorem o91 : FunOk Try.prog 91 F91 := ⟨Try.f91, by kernel_rfl, k91, e91, by kernel_rfl, by kernel_rfl⟩

/-! 92: (contango/coupon.Company).dated; parameters 2, captured 0 -/
def G92 : Cfg := ⟨[6], [(0, [2, 3]), (1, [2, 3, 22]), (2, [4]), (3, [3, 24, 25, 26]), (4, [3, 24, 25, 26, 27]), (5, [3, 5, 6, 24, 25, 26]), (6, [3, 24, 25, 26, 63]), (7, [4]), (8, [3, 24, 25, 26]), (9, [4])], 65, []⟩
def r92 : List CRes := [.tmp 4]
def c92 : CCode :=
(.seq (.region [
  ⟨(some 2), none, .simple (.box false (.tmp 0))⟩,
  ⟨(some 3), none, .simple (.box false (.tmp 1))⟩,
  ⟨(some 4), none, .simple (.move (.const (.bool false)))⟩] (some [2, 3]))
(.seq (.seq (.region [
  ⟨(some 7), none, .simple (.fieldAddr 0 (.tmp 3))⟩,
  ⟨(some 8), none, .simple (.load none (.tmp 7))⟩,
  ⟨(some 9), none, .simple (.len (.tmp 8))⟩,
  ⟨(some 10), none, .simple (.fieldAddr 2 (.tmp 2))⟩,
  ⟨(some 11), none, .simple (.load none (.tmp 10))⟩,
  ⟨(some 12), none, .simple (.len (.tmp 11))⟩,
  ⟨(some 13), none, .simple (.bin .neq (.tmp 9) (.tmp 12))⟩,
  ⟨(some 14), none, .simple (.move (.tmp 13))⟩,
  ⟨(some 15), (some (14, false)), .simple (.fieldAddr 1 (.tmp 3))⟩,
  ⟨(some 16), (some (14, false)), .simple (.load none (.tmp 15))⟩,
  ⟨(some 17), (some (14, false)), .simple (.len (.tmp 16))⟩,
  ⟨(some 18), (some (14, false)), .simple (.fieldAddr 2 (.tmp 2))⟩,
  ⟨(some 19), (some (14, false)), .simple (.load none (.tmp 18))⟩,
  ⟨(some 20), (some (14, false)), .simple (.len (.tmp 19))⟩,
  ⟨(some 21), (some (14, false)), .simple (.bin .neq (.tmp 17) (.tmp 20))⟩,
  ⟨(some 22), none, .simple (.pick (.tmp 14) (.const (.bool true)) (.tmp 21))⟩] (some [2, 3, 22]))
(.cond (.tmp 22)
 (.seq (.region [
   ⟨(some 4), none, .simple (.move (.const (.bool false)))⟩] (some [4]))
 .ret)
 .skip))
(.seq (.seq (.region [
  ⟨(some 23), none, .simple (.fieldAddr 2 (.tmp 2))⟩,
  ⟨(some 24), none, .simple (.load none (.tmp 23))⟩,
  ⟨(some 25), none, .simple (.len (.tmp 24))⟩,
  ⟨(some 26), none, .simple (.move (.const (.int .i64 0)))⟩] (some [3, 24, 25, 26]))
(.block 0 (.loop (.seq (.region [
    ⟨(some 27), none, .simple (.bin .lss (.tmp 26) (.tmp 25))⟩] (some [3, 24, 25, 26, 27]))
  (.seq (.cond (.tmp 27)
   .skip
   (.exit 0))
  (.seq (.block 1 (.seq (.region [
     ⟨(some 28), none, .simple (.move (.tmp 26))⟩,
     ⟨(some 29), none, .simple (.indexS 7 (.tmp 24) (.tmp 26))⟩,
     ⟨(some 30), none, .simple (.load (some 7) (.tmp 29))⟩,
     ⟨(some 6), none, .simple (.alloc [(.d (.int .i64 0)), (.d (.int .i64 0)), (.d (.int .i64 0)), (.d (.int .i64 0)), (.d (.int .i64 0)), (.d (.int .i64 0)), (.d (.int .i64 0))])⟩,
     ⟨(some 5), none, .simple (.move (.tmp 28))⟩,
     ⟨none, none, .simple (.store 7 (.tmp 6) (.tmp 30))⟩] (some [3, 5, 6, 24, 25, 26]))
   (.seq (.region [
     ⟨(some 31), none, .simple (.fieldAddr 3 (.tmp 6))⟩,
     ⟨(some 32), none, .simple (.load (some 2) (.tmp 31))⟩,
     ⟨(some 33), none, .simple (.fieldAddr 0 (.tmp 3))⟩,
     ⟨(some 34), none, .simple (.load none (.tmp 33))⟩,
     ⟨(some 35), none, .simple (.move (.tmp 5))⟩,
     ⟨(some 36), none, .simple (.indexS 1 (.tmp 34) (.tmp 35))⟩,
     ⟨(some 37), none, .simple (.load none (.tmp 36))⟩,
     ⟨(some 38), none, .call (.func 85) [(.tmp 32), (.tmp 37)]⟩,
     ⟨(some 39), none, .simple (.un .not (.tmp 38))⟩,
     ⟨(some 40), none, .simple (.move (.tmp 39))⟩,
     ⟨(some 41), (some (40, false)), .simple (.fieldAddr 5 (.tmp 6))⟩,
     ⟨(some 42), (some (40, false)), .simple (.load (some 2) (.tmp 41))⟩,
     ⟨(some 43), (some (40, false)), .simple (.fieldAddr 1 (.tmp 3))⟩,
     ⟨(some 44), (some (40, false)), .simple (.load none (.tmp 43))⟩,
     ⟨(some 45), (some (40, false)), .simple (.move (.tmp 5))⟩,
     ⟨(some 46), (some (40, false)), .simple (.indexS 1 (.tmp 44) (.tmp 45))⟩,
     ⟨(some 47), (some (40, false)), .simple (.load none (.tmp 46))⟩,
     ⟨(some 48), (some (40, false)), .call (.func 85) [(.tmp 42), (.tmp 47)]⟩,
     ⟨(some 49), (some (40, false)), .simple (.un .not (.tmp 48))⟩,
     ⟨(some 50), none, .simple (.pick (.tmp 40) (.const (.bool true)) (.tmp 49))⟩,
     ⟨(some 51), none, .simple (.move (.tmp 50))⟩,
     ⟨(some 52), (some (51, false)), .simple (.fieldAddr 1 (.tmp 3))⟩,
     ⟨(some 53), (some (51, false)), .simple (.load none (.tmp 52))⟩,
     ⟨(some 54), (some (51, false)), .simple (.move (.tmp 5))⟩,
     ⟨(some 55), (some (51, false)), .simple (.indexS 1 (.tmp 53) (.tmp 54))⟩,
     ⟨(some 56), (some (51, false)), .simple (.load none (.tmp 55))⟩,
     ⟨(some 57), (some (51, false)), .simple (.fieldAddr 0 (.tmp 3))⟩,
     ⟨(some 58), (some (51, false)), .simple (.load none (.tmp 57))⟩,
     ⟨(some 59), (some (51, false)), .simple (.move (.tmp 5))⟩,
     ⟨(some 60), (some (51, false)), .simple (.indexS 1 (.tmp 58) (.tmp 59))⟩,
     ⟨(some 61), (some (51, false)), .simple (.load none (.tmp 60))⟩,
     ⟨(some 62), (some (51, false)), .simple (.bin .lss (.tmp 56) (.tmp 61))⟩,
     ⟨(some 63), none, .simple (.pick (.tmp 51) (.const (.bool true)) (.tmp 62))⟩] (some [3, 24, 25, 26, 63]))
   (.cond (.tmp 63)
    (.seq (.region [
      ⟨(some 4), none, .simple (.move (.const (.bool false)))⟩] (some [4]))
    .ret)
    .skip))))
  (.region [
    ⟨(some 64), none, .simple (.bin .add (.tmp 26) (.const (.int .i64 1)))⟩,
    ⟨(some 26), none, .simple (.move (.tmp 64))⟩] (some [3, 24, 25, 26]))))))))
(.seq (.region [
  ⟨(some 4), none, .simple (.move (.const (.bool true)))⟩] (some [4]))
.ret))))
theorem k92 : Try.f92.body.bind (compC Try.prog G92) = some c92 := by kernel_rfl
theorem e92 : compRes Try.prog Try.f92.results.toList = some r92 := by kernel_rfl
def F92 : FunX := ⟨false, G92, c92, r92⟩
theorem o92 : FunOk Try.prog 92 F92 := ⟨Try.f92, by kernel_rfl, k92, e92, by kernel_rfl, by kernel_rfl⟩

/-! 93: (*contango/coupon.work).fits; parameters 2, captured 0 -/
def G93 : Cfg := ⟨[7, 5], [(0, [0, 3]), (1, [0, 3, 5]), (2, [0, 3, 5, 8]), (3, [0, 3, 5, 8, 9]), (4, [0, 3, 5, 6, 8]), (5, [0, 3, 5, 7, 8]), (6, [0, 3, 5, 7, 8, 17]), (7, [0, 3, 5, 7, 8, 20]), (8, [4]), (9, [0, 3, 5, 8]), (10, [0, 3, 5, 8]), (11, [4])], 23, [(7, [(7, none)])]⟩
def r93 : List CRes := [.tmp 4]
def c93 : CCode :=
(.seq (.region [
  ⟨(some 3), none, .simple (.box false (.tmp 1))⟩,
  ⟨(some 4), none, .simple (.move (.const (.bool false)))⟩] (some [0, 3]))
(.seq (.region [
  ⟨(some 5), none, .simple (.alloc [(.d (.int .i64 0)), (.d (.int .i64 0)), (.d (.int .i64 0)), (.d (.int .i64 0))])⟩] (some [0, 3, 5]))
(.seq (.seq (.region [
  ⟨(some 8), none, .simple (.move (.const (.int .i64 0)))⟩] (some [0, 3, 5, 8]))
(.block 0 (.loop (.seq (.region [
    ⟨(some 9), none, .simple (.bin .lss (.tmp 8) (.const (.int .i64 12)))⟩] (some [0, 3, 5, 8, 9]))
  (.seq (.cond (.tmp 9)
   .skip
   (.exit 0))
  (.seq (.block 1 (.seq (.region [
     ⟨(some 10), none, .simple (.move (.tmp 8))⟩,
     ⟨(some 6), none, .simple (.move (.tmp 10))⟩] (some [0, 3, 5, 6, 8]))
   (.seq (.region [
     ⟨(some 11), none, .simple (.move (.tmp 0))⟩,
     ⟨(some 12), none, .simple (.load (some 2) (.tmp 3))⟩,
     ⟨(some 13), none, .simple (.move (.tmp 6))⟩,
     ⟨(some 14), none, .call (.func 60) [(.tmp 11), (.tmp 12), (.tmp 13)]⟩,
     ⟨(some 7), none, .simple (.alloc [(.d (.int .i64 0)), (.d (.int .i64 0)), (.d (.int .i64 0)), (.d (.int .i64 0))])⟩,
     ⟨none, none, .simple (.store 4 (.tmp 7) (.tmp 14))⟩] (some [0, 3, 5, 7, 8]))
   (.seq (.seq (.region [
     ⟨(some 15), none, .simple (.load (some 4) (.tmp 7))⟩,
     ⟨(some 16), none, .simple (.load (some 4) (.tmp 5))⟩,
     ⟨(some 17), none, .simple (.eqA false [(.int .i64), (.int .i64), (.int .i64), (.int .i64)] (.tmp 15) (.tmp 16))⟩] (some [0, 3, 5, 7, 8, 17]))
   (.cond (.tmp 17)
    (.exit 1)
    .skip))
   (.seq (.seq (.seq (.frz (7, none))
   (.region [
     ⟨(some 18), none, .simple (.sliceA 4 1 (.tmp 7) none none)⟩,
     ⟨(some 19), none, .call (.func 96) [(.tmp 18)]⟩,
     ⟨(some 20), none, .simple (.bin .lss (.tmp 19) (.const (.int .i64 0)))⟩] (some [0, 3, 5, 7, 8, 20])))
   (.cond (.tmp 20)
    (.seq (.region [
      ⟨(some 4), none, .simple (.move (.const (.bool false)))⟩] (some [4]))
    .ret)
    .skip))
   (.region [
     ⟨(some 21), none, .simple (.load (some 4) (.tmp 7))⟩,
     ⟨none, none, .simple (.store 4 (.tmp 5) (.tmp 21))⟩] (some [0, 3, 5, 8])))))))
  (.region [
    ⟨(some 22), none, .simple (.bin .add (.tmp 8) (.const (.int .i64 1)))⟩,
    ⟨(some 8), none, .simple (.move (.tmp 22))⟩] (some [0, 3, 5, 8]))))))))
(.seq (.region [
  ⟨(some 4), none, .simple (.move (.const (.bool true)))⟩] (some [4]))
.ret))))
theorem k93 : Try.f93.body.bind (compC Try.prog G93) = some c93 := by kernel_rfl
theorem e93 : compRes Try.prog Try.f93.results.toList = some r93 := by kernel_rfl
def F93 : FunX := ⟨false, G93, c93, r93⟩
theorem o93 : FunOk Try.prog 93 F93 := ⟨Try.f93, by kernel_rfl, k93, e93, by kernel_rfl, by kernel_rfl⟩

/-! 94: (*contango/coupon.work).units; parameters 3, captured 0 -/
def G94 : Cfg := ⟨[10], [(0, [0, 1, 5]), (1, [0, 1, 5, 7, 8]), (2, [0, 1, 5, 7, 21]), (3, [0, 1, 5, 7]), (4, [0, 1, 5, 7, 26, 27, 28]), (5, [0, 1, 5, 7, 26, 27, 28, 29]), (6, [0, 1, 5, 7, 10, 26, 27, 28]), (7, [0, 1, 5, 7, 10, 26, 27, 28, 43]), (8, [0, 1, 5, 7, 26, 27, 28]), (9, [0, 1, 5, 7, 26, 27, 28]), (10, [1, 7]), (11, [6])], 61, []⟩
def r94 : List CRes := [.tmp 6]
def c94 : CCode :=
(.seq (.region [
  ⟨(some 5), none, .simple (.box false (.tmp 2))⟩,
  ⟨(some 6), none, .simple (.move (.const (.int .i64 0)))⟩] (some [0, 1, 5]))
(.seq (.region [
  ⟨(some 12), none, .simple (.move (.tmp 0))⟩,
  ⟨(some 13), none, .simple (.nilCheck (.tmp 12))⟩,
  ⟨(some 14), none, .simple (.fieldAddr 6 (.tmp 13))⟩,
  ⟨(some 15), none, .simple (.load none (.tmp 14))⟩,
  ⟨(some 16), none, .simple (.load (some 2) (.tmp 5))⟩,
  ⟨(some 17), none, .simple (.lookup true [(.int .i64), (.int .i64)] (.d (.int .i64 0)) true (.tmp 15) (.tmp 16))⟩,
  ⟨(some 11), none, .simple (.move (.tmp 17))⟩,
  ⟨(some 18), none, .simple (.extract (.tmp 11) 0)⟩,
  ⟨(some 19), none, .simple (.extract (.tmp 11) 1)⟩,
  ⟨(some 7), none, .simple (.move (.tmp 18))⟩,
  ⟨(some 8), none, .simple (.move (.tmp 19))⟩] (some [0, 1, 5, 7, 8]))
(.seq (.seq (.region [
  ⟨(some 20), none, .simple (.move (.tmp 8))⟩,
  ⟨(some 21), none, .simple (.un .not (.tmp 20))⟩] (some [0, 1, 5, 7, 21]))
(.cond (.tmp 21)
 (.seq (.region [
   ⟨(some 7), none, .simple (.move (.const (.int .i64 720)))⟩] (some [0, 1, 5, 7]))
 (.seq (.seq (.region [
   ⟨(some 22), none, .simple (.move (.tmp 0))⟩,
   ⟨(some 23), none, .simple (.nilCheck (.tmp 22))⟩,
   ⟨(some 24), none, .simple (.fieldAddr 0 (.tmp 23))⟩,
   ⟨(some 25), none, .simple (.fieldAddr 4 (.tmp 24))⟩,
   ⟨(some 26), none, .simple (.load none (.tmp 25))⟩,
   ⟨(some 27), none, .simple (.len (.tmp 26))⟩,
   ⟨(some 28), none, .simple (.move (.const (.int .i64 0)))⟩] (some [0, 1, 5, 7, 26, 27, 28]))
 (.block 0 (.loop (.seq (.region [
     ⟨(some 29), none, .simple (.bin .lss (.tmp 28) (.tmp 27))⟩] (some [0, 1, 5, 7, 26, 27, 28, 29]))
   (.seq (.cond (.tmp 29)
    .skip
    (.exit 0))
   (.seq (.block 1 (.seq (.region [
      ⟨(some 30), none, .simple (.indexS 3 (.tmp 26) (.tmp 28))⟩,
      ⟨(some 31), none, .simple (.load (some 3) (.tmp 30))⟩,
      ⟨(some 10), none, .simple (.alloc [(.d (.int .i64 0)), (.d (.int .i64 0)), (.d (.int .i64 0))])⟩,
      ⟨none, none, .simple (.store 3 (.tmp 10) (.tmp 31))⟩] (some [0, 1, 5, 7, 10, 26, 27, 28]))
    (.seq (.region [
      ⟨(some 32), none, .simple (.fieldAddr 0 (.tmp 5))⟩,
      ⟨(some 33), none, .simple (.load none (.tmp 32))⟩,
      ⟨(some 34), none, .simple (.fieldAddr 0 (.tmp 10))⟩,
      ⟨(some 35), none, .simple (.load none (.tmp 34))⟩,
      ⟨(some 36), none, .simple (.bin .lss (.tmp 33) (.tmp 35))⟩,
      ⟨(some 37), none, .simple (.move (.tmp 36))⟩,
      ⟨(some 38), (some (37, true)), .simple (.fieldAddr 0 (.tmp 10))⟩,
      ⟨(some 39), (some (37, true)), .simple (.load none (.tmp 38))⟩,
      ⟨(some 40), (some (37, true)), .simple (.fieldAddr 1 (.tmp 5))⟩,
      ⟨(some 41), (some (37, true)), .simple (.load none (.tmp 40))⟩,
      ⟨(some 42), (some (37, true)), .simple (.bin .leq (.tmp 39) (.tmp 41))⟩,
      ⟨(some 43), none, .simple (.pick (.tmp 37) (.tmp 42) (.const (.bool false)))⟩] (some [0, 1, 5, 7, 10, 26, 27, 28, 43]))
    (.cond (.tmp 43)
     (.region [
       ⟨(some 44), none, .simple (.move (.tmp 7))⟩,
       ⟨(some 45), none, .simple (.fieldAddr 1 (.tmp 10))⟩,
       ⟨(some 46), none, .simple (.load none (.tmp 45))⟩,
       ⟨(some 47), none, .simple (.bin .mul (.tmp 44) (.tmp 46))⟩,
       ⟨(some 48), none, .simple (.fieldAddr 2 (.tmp 10))⟩,
       ⟨(some 49), none, .simple (.load none (.tmp 48))⟩,
       ⟨(some 50), none, .simple (.bin .quo (.tmp 47) (.tmp 49))⟩,
       ⟨(some 7), none, .simple (.move (.tmp 50))⟩] (some [0, 1, 5, 7, 26, 27, 28]))
     .skip))))
   (.region [
     ⟨(some 51), none, .simple (.bin .add (.tmp 28) (.const (.int .i64 1)))⟩,
     ⟨(some 28), none, .simple (.move (.tmp 51))⟩] (some [0, 1, 5, 7, 26, 27, 28]))))))))
 (.region [
   ⟨(some 52), none, .simple (.move (.tmp 0))⟩,
   ⟨(some 53), none, .simple (.nilCheck (.tmp 52))⟩,
   ⟨(some 54), none, .simple (.fieldAddr 6 (.tmp 53))⟩,
   ⟨(some 55), none, .simple (.load none (.tmp 54))⟩,
   ⟨(some 56), none, .simple (.load (some 2) (.tmp 5))⟩,
   ⟨(some 57), none, .simple (.move (.tmp 7))⟩,
   ⟨none, none, .simple (.mupd true [(.int .i64), (.int .i64)] (.tmp 55) (.tmp 56) (.tmp 57))⟩] (some [1, 7]))))
 .skip))
(.seq (.region [
  ⟨(some 58), none, .simple (.move (.tmp 1))⟩,
  ⟨(some 59), none, .simple (.move (.tmp 7))⟩,
  ⟨(some 60), none, .simple (.bin .mul (.tmp 58) (.tmp 59))⟩,
  ⟨(some 6), none, .simple (.move (.tmp 60))⟩] (some [6]))
.ret))))
theorem k94 : Try.f94.body.bind (compC Try.prog G94) = some c94 := by kernel_rfl
theorem e94 : compRes Try.prog Try.f94.results.toList = some r94 := by kernel_rfl
def F94 : FunX := ⟨false, G94, c94, r94⟩
theorem o94 : FunOk Try.prog 94 F94 := ⟨Try.f94, by kernel_rfl, k94, e94, by kernel_rfl, by kernel_rfl⟩

/-! 95: (*contango/coupon.work).truths; parameters 1, captured 0 -/
def G95 : Cfg := ⟨[1], [(0, [1]), (1, [2])], 4, []⟩
def r95 : List CRes := [.tmp 2]
def c95 : CCode :=
(.seq (.region [
  ⟨(some 1), none, .simple (.box true (.tmp 0))⟩,
  ⟨(some 2), none, .simple (.move (.const .nilFunc))⟩] (some [1]))
(.seq (.region [
  ⟨(some 3), none, .simple (.mkfn (.func 111) [] [(.tmp 1)])⟩,
  ⟨(some 2), none, .simple (.move (.tmp 3))⟩] (some [2]))
.ret))
theorem k95 : Try.f95.body.bind (compC Try.prog G95) = some c95 := by kernel_rfl
theorem e95 : compRes Try.prog Try.f95.results.toList = some r95 := by kernel_rfl
def F95 : FunX := ⟨false, G95, c95, r95⟩
theorem o95 : FunOk Try.prog 95 F95 := ⟨Try.f95, by kernel_rfl, k95, e95, by kernel_rfl, by kernel_rfl⟩

end Go.Proofs.Ytdnefcjbcieecaa
