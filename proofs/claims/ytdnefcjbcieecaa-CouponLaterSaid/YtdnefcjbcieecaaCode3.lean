import Derived.Test.YtdnefcjbcieecaaCoreX
import Derived.Test.YtdnefcjbcieecaaProg
import Derived.KernelRfl
namespace Go.Proofs.Ytdnefcjbcieecaa
open Go Go.Proofs

/-! 96: contango/coupon.minimum; parameters 1, captured 0 -/
def G96 : Cfg := ⟨[], [(0, [0]), (1, [2])], 5, []⟩
def r96 : List CRes := [.tmp 2]
def c96 : CCode :=
(.seq (.region [
  ⟨(some 2), none, .simple (.move (.const (.int .i64 0)))⟩] (some [0]))
(.seq (.region [
  ⟨(some 3), none, .simple (.move (.tmp 0))⟩,
  ⟨(some 4), none, .call (.func 113) [(.tmp 3)]⟩,
  ⟨(some 2), none, .simple (.move (.tmp 4))⟩] (some [2]))
.ret))
theorem k96 : Try.f96.body.bind (compC Try.prog G96) = some c96 := by kernel_rfl
theorem e96 : compRes Try.prog Try.f96.results.toList = some r96 := by kernel_rfl
def F96 : FunX := ⟨false, G96, c96, r96⟩
theorem o96 : FunOk Try.prog 96 F96 := ⟨Try.f96, by kernel_rfl, k96, e96, by kernel_rfl, by kernel_rfl⟩

/-! 97: slices.Index[[]int,int]; parameters 2, captured 0 -/
def G97 : Cfg := ⟨[], [(0, [0, 1]), (1, [0, 1, 7, 8]), (2, [0, 1, 7, 8, 9]), (3, [0, 1, 5, 7, 8]), (4, [0, 1, 5, 7, 8, 16]), (5, [4]), (6, [0, 1, 7, 8]), (7, [4])], 19, []⟩
def r97 : List CRes := [.tmp 4]
def c97 : CCode :=
(.seq (.region [
  ⟨(some 4), none, .simple (.move (.const (.int .i64 0)))⟩] (some [0, 1]))
(.seq (.seq (.region [
  ⟨(some 6), none, .simple (.move (.tmp 0))⟩,
  ⟨(some 7), none, .simple (.len (.tmp 6))⟩,
  ⟨(some 8), none, .simple (.move (.const (.int .i64 0)))⟩] (some [0, 1, 7, 8]))
(.block 0 (.loop (.seq (.region [
    ⟨(some 9), none, .simple (.bin .lss (.tmp 8) (.tmp 7))⟩] (some [0, 1, 7, 8, 9]))
  (.seq (.cond (.tmp 9)
   .skip
   (.exit 0))
  (.seq (.block 1 (.seq (.region [
     ⟨(some 10), none, .simple (.move (.tmp 8))⟩,
     ⟨(some 5), none, .simple (.move (.tmp 10))⟩] (some [0, 1, 5, 7, 8]))
   (.seq (.region [
     ⟨(some 11), none, .simple (.move (.tmp 1))⟩,
     ⟨(some 12), none, .simple (.move (.tmp 0))⟩,
     ⟨(some 13), none, .simple (.move (.tmp 5))⟩,
     ⟨(some 14), none, .simple (.indexS 1 (.tmp 12) (.tmp 13))⟩,
     ⟨(some 15), none, .simple (.load none (.tmp 14))⟩,
     ⟨(some 16), none, .simple (.bin .eql (.tmp 11) (.tmp 15))⟩] (some [0, 1, 5, 7, 8, 16]))
   (.cond (.tmp 16)
    (.seq (.region [
      ⟨(some 17), none, .simple (.move (.tmp 5))⟩,
      ⟨(some 4), none, .simple (.move (.tmp 17))⟩] (some [4]))
    .ret)
    .skip))))
  (.region [
    ⟨(some 18), none, .simple (.bin .add (.tmp 8) (.const (.int .i64 1)))⟩,
    ⟨(some 8), none, .simple (.move (.tmp 18))⟩] (some [0, 1, 7, 8]))))))))
(.seq (.region [
  ⟨(some 4), none, .simple (.move (.const (.int .i64 (-1))))⟩] (some [4]))
.ret)))
theorem k97 : Try.f97.body.bind (compC Try.prog G97) = some c97 := by kernel_rfl
theorem e97 : compRes Try.prog Try.f97.results.toList = some r97 := by kernel_rfl
def F97 : FunX := ⟨false, G97, c97, r97⟩
theorem o97 : FunOk Try.prog 97 F97 := ⟨Try.f97, by kernel_rfl, k97, e97, by kernel_rfl, by kernel_rfl⟩

/-! 98: slices.ContainsFunc[[]contango/coupon.Range,contango/coupon.Range]; parameters 2, captured 0 -/
def G98 : Cfg := ⟨[], [(0, [0, 1]), (1, [4])], 9, []⟩
def r98 : List CRes := [.tmp 4]
def c98 : CCode :=
(.seq (.region [
  ⟨(some 4), none, .simple (.move (.const (.bool false)))⟩] (some [0, 1]))
(.seq (.region [
  ⟨(some 5), none, .simple (.move (.tmp 0))⟩,
  ⟨(some 6), none, .simple (.move (.tmp 1))⟩,
  ⟨(some 7), none, .call (.func 114) [(.tmp 5), (.tmp 6)]⟩,
  ⟨(some 8), none, .simple (.bin .geq (.tmp 7) (.const (.int .i64 0)))⟩,
  ⟨(some 4), none, .simple (.move (.tmp 8))⟩] (some [4]))
.ret))
theorem k98 : Try.f98.body.bind (compC Try.prog G98) = some c98 := by kernel_rfl
theorem e98 : compRes Try.prog Try.f98.results.toList = some r98 := by kernel_rfl
def F98 : FunX := ⟨false, G98, c98, r98⟩
theorem o98 : FunOk Try.prog 98 F98 := ⟨Try.f98, by kernel_rfl, k98, e98, by kernel_rfl, by kernel_rfl⟩

/-! 99: (contango/coupon.Company).registered$1; parameters 1, captured 1 -/
def G99 : Cfg := ⟨[], [(0, [1, 2]), (1, [3])], 7, []⟩
def r99 : List CRes := [.tmp 3]
def c99 : CCode :=
(.seq (.region [
  ⟨(some 2), none, .simple (.box false (.tmp 0))⟩,
  ⟨(some 3), none, .simple (.move (.const (.bool false)))⟩] (some [1, 2]))
(.seq (.region [
  ⟨(some 4), none, .simple (.load (some 2) (.tmp 2))⟩,
  ⟨(some 5), none, .simple (.load none (.tmp 1))⟩,
  ⟨(some 6), none, .call (.func 85) [(.tmp 4), (.tmp 5)]⟩,
  ⟨(some 3), none, .simple (.move (.tmp 6))⟩] (some [3]))
.ret))
theorem k99 : Try.f99.body.bind (compC Try.prog G99) = some c99 := by kernel_rfl
theorem e99 : compRes Try.prog Try.f99.results.toList = some r99 := by kernel_rfl
def F99 : FunX := ⟨false, G99, c99, r99⟩
theorem o99 : FunOk Try.prog 99 F99 := ⟨Try.f99, by kernel_rfl, k99, e99, by kernel_rfl, by kernel_rfl⟩

/-! 100: (contango/coupon.Company).house; parameters 2, captured 0 -/
def G100 : Cfg := ⟨[], [(0, [1, 2]), (1, [4])], 10, []⟩
def r100 : List CRes := [.tmp 4]
def c100 : CCode :=
(.seq (.region [
  ⟨(some 2), none, .simple (.box false (.tmp 0))⟩,
  ⟨(some 4), none, .simple (.move (.const (.bool false)))⟩] (some [1, 2]))
(.seq (.region [
  ⟨(some 5), none, .simple (.move (.tmp 1))⟩,
  ⟨(some 6), none, .simple (.fieldAddr 0 (.tmp 2))⟩,
  ⟨(some 7), none, .simple (.load none (.tmp 6))⟩,
  ⟨(some 8), none, .simple (.bin .sub (.tmp 7) (.const (.int .i64 1)))⟩,
  ⟨(some 9), none, .call (.func 71) [(.tmp 5), (.const (.int .i64 0)), (.tmp 8)]⟩,
  ⟨(some 4), none, .simple (.move (.tmp 9))⟩] (some [4]))
.ret))
theorem k100 : Try.f100.body.bind (compC Try.prog G100) = some c100 := by kernel_rfl
theorem e100 : compRes Try.prog Try.f100.results.toList = some r100 := by kernel_rfl
def F100 : FunX := ⟨false, G100, c100, r100⟩
theorem o100 : FunOk Try.prog 100 F100 := ⟨Try.f100, by kernel_rfl, k100, e100, by kernel_rfl, by kernel_rfl⟩

/-! 101: (contango/coupon.Range).short; parameters 1, captured 0 -/
def G101 : Cfg := ⟨[], [(0, [1]), (1, [2])], 13, []⟩
def r101 : List CRes := [.tmp 2]
def c101 : CCode :=
(.seq (.region [
  ⟨(some 1), none, .simple (.box false (.tmp 0))⟩,
  ⟨(some 2), none, .simple (.move (.const (.bool false)))⟩] (some [1]))
(.seq (.region [
  ⟨(some 3), none, .simple (.load (some 2) (.tmp 1))⟩,
  ⟨(some 4), none, .call (.func 91) [(.tmp 3)]⟩,
  ⟨(some 5), none, .simple (.move (.tmp 4))⟩,
  ⟨(some 6), (some (5, true)), .simple (.fieldAddr 1 (.tmp 1))⟩,
  ⟨(some 7), (some (5, true)), .simple (.load none (.tmp 6))⟩,
  ⟨(some 8), (some (5, true)), .simple (.fieldAddr 0 (.tmp 1))⟩,
  ⟨(some 9), (some (5, true)), .simple (.load none (.tmp 8))⟩,
  ⟨(some 10), (some (5, true)), .simple (.bin .sub (.tmp 7) (.tmp 9))⟩,
  ⟨(some 11), (some (5, true)), .simple (.bin .leq (.tmp 10) (.const (.int .i64 2)))⟩,
  ⟨(some 12), none, .simple (.pick (.tmp 5) (.tmp 11) (.const (.bool false)))⟩,
  ⟨(some 2), none, .simple (.move (.tmp 12))⟩] (some [2]))
.ret))
theorem k101 : Try.f101.body.bind (compC Try.prog G101) = some c101 := by kernel_rfl
theorem e101 : compRes Try.prog Try.f101.results.toList = some r101 := by kernel_rfl
def F101 : FunX := ⟨false, G101, c101, r101⟩
theorem o101 : FunOk Try.prog 101 F101 := ⟨Try.f101, by kernel_rfl, k101, e101, by kernel_rfl, by kernel_rfl⟩

/-! 102: slices.ContainsFunc[[]int,int]; parameters 2, captured 0 -/
def G102 : Cfg := ⟨[], [(0, [0, 1]), (1, [4])], 9, []⟩
def r102 : List CRes := [.tmp 4]
def c102 : CCode :=
(.seq (.region [
  ⟨(some 4), none, .simple (.move (.const (.bool false)))⟩] (some [0, 1]))
(.seq (.region [
  ⟨(some 5), none, .simple (.move (.tmp 0))⟩,
  ⟨(some 6), none, .simple (.move (.tmp 1))⟩,
  ⟨(some 7), none, .call (.func 115) [(.tmp 5), (.tmp 6)]⟩,
  ⟨(some 8), none, .simple (.bin .geq (.tmp 7) (.const (.int .i64 0)))⟩,
  ⟨(some 4), none, .simple (.move (.tmp 8))⟩] (some [4]))
.ret))
theorem k102 : Try.f102.body.bind (compC Try.prog G102) = some c102 := by kernel_rfl
theorem e102 : compRes Try.prog Try.f102.results.toList = some r102 := by kernel_rfl
def F102 : FunX := ⟨false, G102, c102, r102⟩
theorem o102 : FunOk Try.prog 102 F102 := ⟨Try.f102, by kernel_rfl, k102, e102, by kernel_rfl, by kernel_rfl⟩

/-! 103: contango/coupon.all[int]$1; parameters 1, captured 1 -/
def G103 : Cfg := ⟨[], [(0, [0, 1]), (1, [3])], 8, []⟩
def r103 : List CRes := [.tmp 3]
def c103 : CCode :=
(.seq (.region [
  ⟨(some 3), none, .simple (.move (.const (.bool false)))⟩] (some [0, 1]))
(.seq (.region [
  ⟨(some 4), none, .simple (.load none (.tmp 1))⟩,
  ⟨(some 5), none, .simple (.move (.tmp 0))⟩,
  ⟨(some 6), none, .call (.tmp 4) [(.tmp 5)]⟩,
  ⟨(some 7), none, .simple (.un .not (.tmp 6))⟩,
  ⟨(some 3), none, .simple (.move (.tmp 7))⟩] (some [3]))
.ret))
theorem k103 : Try.f103.body.bind (compC Try.prog G103) = some c103 := by kernel_rfl
theorem e103 : compRes Try.prog Try.f103.results.toList = some r103 := by kernel_rfl
def F103 : FunX := ⟨false, G103, c103, r103⟩
theorem o103 : FunOk Try.prog 103 F103 := ⟨Try.f103, by kernel_rfl, k103, e103, by kernel_rfl, by kernel_rfl⟩

/-! 104: slices.ContainsFunc[[]contango/coupon.Trade,contango/coupon.Trade]; parameters 2, captured 0 -/
def G104 : Cfg := ⟨[], [(0, [0, 1]), (1, [4])], 9, []⟩
def r104 : List CRes := [.tmp 4]
def c104 : CCode :=
(.seq (.region [
  ⟨(some 4), none, .simple (.move (.const (.bool false)))⟩] (some [0, 1]))
(.seq (.region [
  ⟨(some 5), none, .simple (.move (.tmp 0))⟩,
  ⟨(some 6), none, .simple (.move (.tmp 1))⟩,
  ⟨(some 7), none, .call (.func 116) [(.tmp 5), (.tmp 6)]⟩,
  ⟨(some 8), none, .simple (.bin .geq (.tmp 7) (.const (.int .i64 0)))⟩,
  ⟨(some 4), none, .simple (.move (.tmp 8))⟩] (some [4]))
.ret))
theorem k104 : Try.f104.body.bind (compC Try.prog G104) = some c104 := by kernel_rfl
theorem e104 : compRes Try.prog Try.f104.results.toList = some r104 := by kernel_rfl
def F104 : FunX := ⟨false, G104, c104, r104⟩
theorem o104 : FunOk Try.prog 104 F104 := ⟨Try.f104, by kernel_rfl, k104, e104, by kernel_rfl, by kernel_rfl⟩

/-! 105: contango/coupon.all[contango/coupon.Trade]$1; parameters 1, captured 1 -/
def G105 : Cfg := ⟨[], [(0, [1, 2]), (1, [3])], 8, []⟩
def r105 : List CRes := [.tmp 3]
def c105 : CCode :=
(.seq (.region [
  ⟨(some 2), none, .simple (.box false (.tmp 0))⟩,
  ⟨(some 3), none, .simple (.move (.const (.bool false)))⟩] (some [1, 2]))
(.seq (.region [
  ⟨(some 4), none, .simple (.load none (.tmp 1))⟩,
  ⟨(some 5), none, .simple (.load (some 7) (.tmp 2))⟩,
  ⟨(some 6), none, .call (.tmp 4) [(.tmp 5)]⟩,
  ⟨(some 7), none, .simple (.un .not (.tmp 6))⟩,
  ⟨(some 3), none, .simple (.move (.tmp 7))⟩] (some [3]))
.ret))
theorem k105 : Try.f105.body.bind (compC Try.prog G105) = some c105 := by kernel_rfl
theorem e105 : compRes Try.prog Try.f105.results.toList = some r105 := by kernel_rfl
def F105 : FunX := ⟨false, G105, c105, r105⟩
theorem o105 : FunOk Try.prog 105 F105 := ⟨Try.f105, by kernel_rfl, k105, e105, by kernel_rfl, by kernel_rfl⟩

/-! 106: slices.ContainsFunc[[]contango/coupon.Dividend,contango/coupon.Dividend]; parameters 2, captured 0 -/
def G106 : Cfg := ⟨[], [(0, [0, 1]), (1, [4])], 9, []⟩
def r106 : List CRes := [.tmp 4]
def c106 : CCode :=
(.seq (.region [
  ⟨(some 4), none, .simple (.move (.const (.bool false)))⟩] (some [0, 1]))
(.seq (.region [
  ⟨(some 5), none, .simple (.move (.tmp 0))⟩,
  ⟨(some 6), none, .simple (.move (.tmp 1))⟩,
  ⟨(some 7), none, .call (.func 117) [(.tmp 5), (.tmp 6)]⟩,
  ⟨(some 8), none, .simple (.bin .geq (.tmp 7) (.const (.int .i64 0)))⟩,
  ⟨(some 4), none, .simple (.move (.tmp 8))⟩] (some [4]))
.ret))
theorem k106 : Try.f106.body.bind (compC Try.prog G106) = some c106 := by kernel_rfl
theorem e106 : compRes Try.prog Try.f106.results.toList = some r106 := by kernel_rfl
def F106 : FunX := ⟨false, G106, c106, r106⟩
theorem o106 : FunOk Try.prog 106 F106 := ⟨Try.f106, by kernel_rfl, k106, e106, by kernel_rfl, by kernel_rfl⟩

/-! 107: contango/coupon.all[contango/coupon.Dividend]$1; parameters 1, captured 1 -/
def G107 : Cfg := ⟨[], [(0, [1, 2]), (1, [3])], 8, []⟩
def r107 : List CRes := [.tmp 3]
def c107 : CCode :=
(.seq (.region [
  ⟨(some 2), none, .simple (.box false (.tmp 0))⟩,
  ⟨(some 3), none, .simple (.move (.const (.bool false)))⟩] (some [1, 2]))
(.seq (.region [
  ⟨(some 4), none, .simple (.load none (.tmp 1))⟩,
  ⟨(some 5), none, .simple (.load (some 3) (.tmp 2))⟩,
  ⟨(some 6), none, .call (.tmp 4) [(.tmp 5)]⟩,
  ⟨(some 7), none, .simple (.un .not (.tmp 6))⟩,
  ⟨(some 3), none, .simple (.move (.tmp 7))⟩] (some [3]))
.ret))
theorem k107 : Try.f107.body.bind (compC Try.prog G107) = some c107 := by kernel_rfl
theorem e107 : compRes Try.prog Try.f107.results.toList = some r107 := by kernel_rfl
def F107 : FunX := ⟨false, G107, c107, r107⟩
theorem o107 : FunOk Try.prog 107 F107 := ⟨Try.f107, by kernel_rfl, k107, e107, by kernel_rfl, by kernel_rfl⟩

/-! 108: contango/coupon.all[contango/coupon.Split]; parameters 2, captured 0 -/
def G108 : Cfg := ⟨[3], [(0, [0, 3]), (1, [4])], 9, []⟩
def r108 : List CRes := [.tmp 4]
def c108 : CCode :=
(.seq (.region [
  ⟨(some 3), none, .simple (.box true (.tmp 1))⟩,
  ⟨(some 4), none, .simple (.move (.const (.bool false)))⟩] (some [0, 3]))
(.seq (.region [
  ⟨(some 5), none, .simple (.move (.tmp 0))⟩,
  ⟨(some 6), none, .simple (.mkfn (.func 119) [] [(.tmp 3)])⟩,
  ⟨(some 7), none, .call (.func 118) [(.tmp 5), (.tmp 6)]⟩,
  ⟨(some 8), none, .simple (.un .not (.tmp 7))⟩,
  ⟨(some 4), none, .simple (.move (.tmp 8))⟩] (some [4]))
.ret))
theorem k108 : Try.f108.body.bind (compC Try.prog G108) = some c108 := by kernel_rfl
theorem e108 : compRes Try.prog Try.f108.results.toList = some r108 := by kernel_rfl
def F108 : FunX := ⟨false, G108, c108, r108⟩
theorem o108 : FunOk Try.prog 108 F108 := ⟨Try.f108, by kernel_rfl, k108, e108, by kernel_rfl, by kernel_rfl⟩

/-! 109: (contango/coupon.Company).split$1; parameters 1, captured 1 -/
def G109 : Cfg := ⟨[], [(0, [1, 2]), (1, [1, 2, 4]), (2, [4]), (3, [3])], 23, []⟩
def r109 : List CRes := [.tmp 3]
def c109 : CCode :=
(.seq (.region [
  ⟨(some 2), none, .simple (.box false (.tmp 0))⟩,
  ⟨(some 3), none, .simple (.move (.const (.bool false)))⟩] (some [1, 2]))
(.seq (.region [
  ⟨(some 5), none, .simple (.fieldAddr 0 (.tmp 2))⟩,
  ⟨(some 6), none, .simple (.load none (.tmp 5))⟩,
  ⟨(some 7), none, .simple (.load none (.tmp 1))⟩,
  ⟨(some 8), none, .simple (.bin .add (.tmp 7) (.const (.int .i64 1)))⟩,
  ⟨(some 9), none, .call (.func 71) [(.tmp 6), (.tmp 8), (.const (.int .i64 11))]⟩,
  ⟨(some 10), none, .simple (.move (.tmp 9))⟩,
  ⟨(some 11), (some (10, true)), .simple (.fieldAddr 1 (.tmp 2))⟩,
  ⟨(some 12), (some (10, true)), .simple (.load none (.tmp 11))⟩,
  ⟨(some 13), (some (10, true)), .call (.func 71) [(.tmp 12), (.const (.int .i64 1)), (.const (.int .i64 6))]⟩,
  ⟨(some 14), none, .simple (.pick (.tmp 10) (.tmp 13) (.const (.bool false)))⟩,
  ⟨(some 15), none, .simple (.move (.tmp 14))⟩,
  ⟨(some 16), (some (15, true)), .simple (.fieldAddr 2 (.tmp 2))⟩,
  ⟨(some 17), (some (15, true)), .simple (.load none (.tmp 16))⟩,
  ⟨(some 18), (some (15, true)), .call (.func 71) [(.tmp 17), (.const (.int .i64 1)), (.const (.int .i64 4))]⟩,
  ⟨(some 19), none, .simple (.pick (.tmp 15) (.tmp 18) (.const (.bool false)))⟩,
  ⟨(some 4), none, .simple (.move (.tmp 19))⟩] (some [1, 2, 4]))
(.seq (.region [
  ⟨(some 20), none, .simple (.fieldAddr 0 (.tmp 2))⟩,
  ⟨(some 21), none, .simple (.load none (.tmp 20))⟩,
  ⟨none, none, .simple (.store 1 (.tmp 1) (.tmp 21))⟩] (some [4]))
(.seq (.region [
  ⟨(some 22), none, .simple (.move (.tmp 4))⟩,
  ⟨(some 3), none, .simple (.move (.tmp 22))⟩] (some [3]))
.ret))))
theorem k109 : Try.f109.body.bind (compC Try.prog G109) = some c109 := by kernel_rfl
theorem e109 : compRes Try.prog Try.f109.results.toList = some r109 := by kernel_rfl
def F109 : FunX := ⟨false, G109, c109, r109⟩
theorem o109 : FunOk Try.prog 109 F109 := ⟨Try.f109, by kernel_rfl, k109, e109, by kernel_rfl, by kernel_rfl⟩

/-! 110: contango/coupon.all[contango/coupon.Range]$1; parameters 1, captured 1 -/
def G110 : Cfg := ⟨[], [(0, [1, 2]), (1, [3])], 8, []⟩
def r110 : List CRes := [.tmp 3]
def c110 : CCode :=
(.seq (.region [
  ⟨(some 2), none, .simple (.box false (.tmp 0))⟩,
  ⟨(some 3), none, .simple (.move (.const (.bool false)))⟩] (some [1, 2]))
(.seq (.region [
  ⟨(some 4), none, .simple (.load none (.tmp 1))⟩,
  ⟨(some 5), none, .simple (.load (some 2) (.tmp 2))⟩,
  ⟨(some 6), none, .call (.tmp 4) [(.tmp 5)]⟩,
  ⟨(some 7), none, .simple (.un .not (.tmp 6))⟩,
  ⟨(some 3), none, .simple (.move (.tmp 7))⟩] (some [3]))
.ret))
theorem k110 : Try.f110.body.bind (compC Try.prog G110) = some c110 := by kernel_rfl
theorem e110 : compRes Try.prog Try.f110.results.toList = some r110 := by kernel_rfl
def F110 : FunX := ⟨false, G110, c110, r110⟩
theorem o110 : FunOk Try.prog 110 F110 := ⟨Try.f110, by kernel_rfl, k110, e110, by kernel_rfl, by kernel_rfl⟩

/-! 111: (*contango/coupon.work).truths$1; parameters 1, captured 1 -/
def G111 : Cfg := ⟨[3, 2, 4], [(0, [1, 2]), (1, [1, 2, 3]), (2, [1, 2, 3, 4]), (3, [4]), (4, [])], 8, []⟩
def r111 : List CRes := []
def c111 : CCode :=
(.seq (.region [
  ⟨(some 2), none, .simple (.box true (.tmp 0))⟩] (some [1, 2]))
(.seq (.region [
  ⟨(some 3), none, .simple (.alloc [(.d .nils), (.d .nils)])⟩] (some [1, 2, 3]))
(.seq (.region [
  ⟨(some 4), none, .simple (.alloc [(.d .nilf)])⟩] (some [1, 2, 3, 4]))
(.seq (.region [
  ⟨(some 5), none, .simple (.mkfn (.func 112) [] [(.tmp 1), (.tmp 3), (.tmp 2), (.tmp 4)])⟩,
  ⟨none, none, .simple (.store 1 (.tmp 4) (.tmp 5))⟩] (some [4]))
(.region [
  ⟨(some 6), none, .simple (.load none (.tmp 4))⟩,
  ⟨(some 7), none, .call (.tmp 6) [(.const (.int .i64 0))]⟩] (some []))))))
theorem k111 : Try.f111.body.bind (compC Try.prog G111) = some c111 := by kernel_rfl
theorem e111 : compRes Try.prog Try.f111.results.toList = some r111 := by kernel_rfl
def F111 : FunX := ⟨false, G111, c111, r111⟩
theorem o111 : FunOk Try.prog 111 F111 := ⟨Try.f111, by kernel_rfl, k111, e111, by kernel_rfl, by kernel_rfl⟩

/-! 112: (*contango/coupon.work).truths$1$1; parameters 1, captured 4 -/
def G112 : Cfg := ⟨[7], [(0, [0, 1, 2, 3, 4]), (1, [0, 1, 2, 3, 4, 19]), (2, [6]), (3, [0, 2, 4, 7]), (4, [0, 2, 4, 7, 8, 9]), (5, [0, 2, 4, 7, 8, 9, 10]), (6, [0, 2, 4, 7, 8, 9, 10, 48]), (8, [0, 2, 4, 7, 8, 9, 10, 11]), (9, [0, 2, 4, 7, 8, 9, 10, 11, 60]), (11, [0, 2, 4, 7, 8, 9, 10, 11]), (12, [0, 2, 4, 7, 8, 9, 10, 11, 83]), (13, [6]), (10, [0, 2, 4, 7, 8, 9, 10, 11]), (7, [0, 2, 4, 7, 8, 9, 10]), (14, [6])], 84, []⟩
def r112 : List CRes := [.tmp 6]
def c112 : CCode :=
(.seq (.region [
  ⟨(some 6), none, .simple (.move (.const (.bool false)))⟩] (some [0, 1, 2, 3, 4]))
(.seq (.seq (.region [
  ⟨(some 12), none, .simple (.move (.tmp 0))⟩,
  ⟨(some 13), none, .simple (.load none (.tmp 1))⟩,
  ⟨(some 14), none, .simple (.nilCheck (.tmp 13))⟩,
  ⟨(some 15), none, .simple (.fieldAddr 0 (.tmp 14))⟩,
  ⟨(some 16), none, .simple (.fieldAddr 2 (.tmp 15))⟩,
  ⟨(some 17), none, .simple (.load none (.tmp 16))⟩,
  ⟨(some 18), none, .simple (.len (.tmp 17))⟩,
  ⟨(some 19), none, .simple (.bin .eql (.tmp 12) (.tmp 18))⟩] (some [0, 1, 2, 3, 4, 19]))
(.cond (.tmp 19)
 (.seq (.region [
   ⟨(some 20), none, .simple (.load none (.tmp 1))⟩,
   ⟨(some 21), none, .simple (.load (some 2) (.tmp 2))⟩,
   ⟨(some 22), none, .call (.func 93) [(.tmp 20), (.tmp 21)]⟩,
   ⟨(some 23), none, .simple (.un .not (.tmp 22))⟩,
   ⟨(some 24), none, .simple (.move (.tmp 23))⟩,
   ⟨(some 25), (some (24, false)), .simple (.load none (.tmp 3))⟩,
   ⟨(some 26), (some (24, false)), .simple (.load (some 2) (.tmp 2))⟩,
   ⟨(some 27), (some (24, false)), .call (.tmp 25) [(.tmp 26)]⟩,
   ⟨(some 28), none, .simple (.pick (.tmp 24) (.const (.bool true)) (.tmp 27))⟩,
   ⟨(some 6), none, .simple (.move (.tmp 28))⟩] (some [6]))
 .ret)
 .skip))
(.seq (.region [
  ⟨(some 29), none, .simple (.load none (.tmp 1))⟩,
  ⟨(some 30), none, .simple (.nilCheck (.tmp 29))⟩,
  ⟨(some 31), none, .simple (.fieldAddr 0 (.tmp 30))⟩,
  ⟨(some 32), none, .simple (.fieldAddr 2 (.tmp 31))⟩,
  ⟨(some 33), none, .simple (.load none (.tmp 32))⟩,
  ⟨(some 34), none, .simple (.move (.tmp 0))⟩,
  ⟨(some 35), none, .simple (.indexS 7 (.tmp 33) (.tmp 34))⟩,
  ⟨(some 36), none, .simple (.load (some 7) (.tmp 35))⟩,
  ⟨(some 7), none, .simple (.alloc [(.d (.int .i64 0)), (.d (.int .i64 0)), (.d (.int .i64 0)), (.d (.int .i64 0)), (.d (.int .i64 0)), (.d (.int .i64 0)), (.d (.int .i64 0))])⟩,
  ⟨none, none, .simple (.store 7 (.tmp 7) (.tmp 36))⟩] (some [0, 2, 4, 7]))
(.seq (.region [
  ⟨(some 37), none, .simple (.fieldAddr 0 (.tmp 2))⟩,
  ⟨(some 38), none, .simple (.load none (.tmp 37))⟩,
  ⟨(some 39), none, .simple (.fieldAddr 1 (.tmp 2))⟩,
  ⟨(some 40), none, .simple (.load none (.tmp 39))⟩,
  ⟨(some 8), none, .simple (.move (.tmp 38))⟩,
  ⟨(some 9), none, .simple (.move (.tmp 40))⟩] (some [0, 2, 4, 7, 8, 9]))
(.seq (.seq (.region [
  ⟨(some 41), none, .simple (.fieldAddr 3 (.tmp 7))⟩,
  ⟨(some 42), none, .simple (.fieldAddr 0 (.tmp 41))⟩,
  ⟨(some 43), none, .simple (.load none (.tmp 42))⟩,
  ⟨(some 10), none, .simple (.move (.tmp 43))⟩] (some [0, 2, 4, 7, 8, 9, 10]))
(.block 0 (.loop (.seq (.seq (.region [
    ⟨(some 44), none, .simple (.move (.tmp 10))⟩,
    ⟨(some 45), none, .simple (.fieldAddr 3 (.tmp 7))⟩,
    ⟨(some 46), none, .simple (.fieldAddr 1 (.tmp 45))⟩,
    ⟨(some 47), none, .simple (.load none (.tmp 46))⟩,
    ⟨(some 48), none, .simple (.bin .leq (.tmp 44) (.tmp 47))⟩] (some [0, 2, 4, 7, 8, 9, 10, 48]))
  (.cond (.tmp 48)
   .skip
   (.exit 0)))
  (.seq (.block 1 (.seq (.region [
     ⟨(some 51), none, .simple (.move (.tmp 10))⟩,
     ⟨(some 52), none, .simple (.fieldAddr 5 (.tmp 7))⟩,
     ⟨(some 53), none, .simple (.fieldAddr 0 (.tmp 52))⟩,
     ⟨(some 54), none, .simple (.load none (.tmp 53))⟩,
     ⟨(some 55), none, .simple (.max [(.tmp 51), (.tmp 54)])⟩,
     ⟨(some 11), none, .simple (.move (.tmp 55))⟩] (some [0, 2, 4, 7, 8, 9, 10, 11]))
   (.block 2 (.loop (.seq (.seq (.region [
       ⟨(some 56), none, .simple (.move (.tmp 11))⟩,
       ⟨(some 57), none, .simple (.fieldAddr 5 (.tmp 7))⟩,
       ⟨(some 58), none, .simple (.fieldAddr 1 (.tmp 57))⟩,
       ⟨(some 59), none, .simple (.load none (.tmp 58))⟩,
       ⟨(some 60), none, .simple (.bin .leq (.tmp 56) (.tmp 59))⟩] (some [0, 2, 4, 7, 8, 9, 10, 11, 60]))
     (.cond (.tmp 60)
      .skip
      (.exit 2)))
     (.seq (.block 3 (.seq (.region [
        ⟨(some 63), none, .simple (.move (.tmp 8))⟩,
        ⟨(some 64), none, .simple (.move (.tmp 0))⟩,
        ⟨(some 65), none, .simple (.move (.tmp 0))⟩,
        ⟨(some 66), none, .simple (.sliceS 1 (.tmp 63) none (some (.tmp 64)) (some (.tmp 65)))⟩,
        ⟨(some 67), none, .simple (.move (.tmp 10))⟩,
        ⟨(some 68), none, .simple (.bslice false 3 1 1 [(.int .i64 0)] [(0, (.tmp 67))])⟩,
        ⟨(some 69), none, .simple (.append false 3 1 8 (.tmp 66) (.tmp 68))⟩,
        ⟨(some 70), none, .simple (.move (.tmp 9))⟩,
        ⟨(some 71), none, .simple (.move (.tmp 0))⟩,
        ⟨(some 72), none, .simple (.move (.tmp 0))⟩,
        ⟨(some 73), none, .simple (.sliceS 1 (.tmp 70) none (some (.tmp 71)) (some (.tmp 72)))⟩,
        ⟨(some 74), none, .simple (.move (.tmp 11))⟩,
        ⟨(some 75), none, .simple (.bslice false 3 1 1 [(.int .i64 0)] [(0, (.tmp 74))])⟩,
        ⟨(some 76), none, .simple (.append false 3 1 8 (.tmp 73) (.tmp 75))⟩,
        ⟨(some 77), none, .simple (.fieldAddr 0 (.tmp 2))⟩,
        ⟨none, none, .simple (.store 1 (.tmp 77) (.tmp 69))⟩,
        ⟨(some 78), none, .simple (.fieldAddr 1 (.tmp 2))⟩,
        ⟨none, none, .simple (.store 1 (.tmp 78) (.tmp 76))⟩] (some [0, 2, 4, 7, 8, 9, 10, 11]))
      (.seq (.region [
        ⟨(some 79), none, .simple (.load none (.tmp 4))⟩,
        ⟨(some 80), none, .simple (.move (.tmp 0))⟩,
        ⟨(some 81), none, .simple (.bin .add (.tmp 80) (.const (.int .i64 1)))⟩,
        ⟨(some 82), none, .call (.tmp 79) [(.tmp 81)]⟩,
        ⟨(some 83), none, .simple (.un .not (.tmp 82))⟩] (some [0, 2, 4, 7, 8, 9, 10, 11, 83]))
      (.cond (.tmp 83)
       (.seq (.region [
         ⟨(some 6), none, .simple (.move (.const (.bool false)))⟩] (some [6]))
       .ret)
       .skip))))
     (.region [
       ⟨(some 61), none, .simple (.move (.tmp 11))⟩,
       ⟨(some 62), none, .simple (.bin .add (.tmp 61) (.const (.int .i64 1)))⟩,
       ⟨(some 11), none, .simple (.move (.tmp 62))⟩] (some [0, 2, 4, 7, 8, 9, 10, 11]))))))))
  (.region [
    ⟨(some 49), none, .simple (.move (.tmp 10))⟩,
    ⟨(some 50), none, .simple (.bin .add (.tmp 49) (.const (.int .i64 1)))⟩,
    ⟨(some 10), none, .simple (.move (.tmp 50))⟩] (some [0, 2, 4, 7, 8, 9, 10])))))))
(.seq (.region [
  ⟨(some 6), none, .simple (.move (.const (.bool true)))⟩] (some [6]))
.ret))))))
theorem k112 : Try.f112.body.bind (compC Try.prog G112) = some c112 := by kernel_rfl
theorem e112 : compRes Try.prog Try.f112.results.toList = some r112 := by kernel_rfl
def F112 : FunX := ⟨false, G112, c112, r112⟩
theorem o112 : FunOk Try.prog 112 F112 := ⟨Try.f112, by kernel_rfl, k112, e112, by kernel_rfl, by kernel_rfl⟩

/-! 113: slices.Min[[]int,int]; parameters 1, captured 0 -/
def G113 : Cfg := ⟨[], [(0, [0]), (1, [0, 7]), (2, [0]), (3, [0, 3]), (4, [0, 3, 4]), (5, [0, 3, 4, 15]), (7, [0, 3, 4]), (6, [0, 3, 4]), (8, [2])], 25, []⟩
-- BAD 113 region 2 at sort.go:67: other op
def r113 : List CRes := [.tmp 2]
def c113 : CCode :=
(.seq (.region [
  ⟨(some 2), none, .simple (.move (.const (.int .i64 0)))⟩] (some [0]))
(.seq (.seq (.region [
  ⟨(some 5), none, .simple (.move (.tmp 0))⟩,
  ⟨(some 6), none, .simple (.len (.tmp 5))⟩,
  ⟨(some 7), none, .simple (.bin .lss (.tmp 6) (.const (.int .i64 1)))⟩] (some [0, 7]))
(.cond (.tmp 7)
 (.region [
   ⟨(some 8), none, .simple (.bad)⟩,
   ⟨none, none, .simple (.panic (.tmp 8))⟩] (some [0]))
 .skip))
(.seq (.region [
  ⟨(some 9), none, .simple (.move (.tmp 0))⟩,
  ⟨(some 10), none, .simple (.indexS 1 (.tmp 9) (.const (.int .i64 0)))⟩,
  ⟨(some 11), none, .simple (.load none (.tmp 10))⟩,
  ⟨(some 3), none, .simple (.move (.tmp 11))⟩] (some [0, 3]))
(.seq (.seq (.region [
  ⟨(some 4), none, .simple (.move (.const (.int .i64 1)))⟩] (some [0, 3, 4]))
(.block 0 (.loop (.seq (.seq (.region [
    ⟨(some 12), none, .simple (.move (.tmp 4))⟩,
    ⟨(some 13), none, .simple (.move (.tmp 0))⟩,
    ⟨(some 14), none, .simple (.len (.tmp 13))⟩,
    ⟨(some 15), none, .simple (.bin .lss (.tmp 12) (.tmp 14))⟩] (some [0, 3, 4, 15]))
  (.cond (.tmp 15)
   .skip
   (.exit 0)))
  (.seq (.block 1 (.region [
     ⟨(some 18), none, .simple (.move (.tmp 3))⟩,
     ⟨(some 19), none, .simple (.move (.tmp 0))⟩,
     ⟨(some 20), none, .simple (.move (.tmp 4))⟩,
     ⟨(some 21), none, .simple (.indexS 1 (.tmp 19) (.tmp 20))⟩,
     ⟨(some 22), none, .simple (.load none (.tmp 21))⟩,
     ⟨(some 23), none, .simple (.min [(.tmp 18), (.tmp 22)])⟩,
     ⟨(some 3), none, .simple (.move (.tmp 23))⟩] (some [0, 3, 4])))
  (.region [
    ⟨(some 16), none, .simple (.move (.tmp 4))⟩,
    ⟨(some 17), none, .simple (.bin .add (.tmp 16) (.const (.int .i64 1)))⟩,
    ⟨(some 4), none, .simple (.move (.tmp 17))⟩] (some [0, 3, 4])))))))
(.seq (.region [
  ⟨(some 24), none, .simple (.move (.tmp 3))⟩,
  ⟨(some 2), none, .simple (.move (.tmp 24))⟩] (some [2]))
.ret)))))
theorem k113 : Try.f113.body.bind (compC Try.prog G113) = some c113 := by kernel_rfl
theorem e113 : compRes Try.prog Try.f113.results.toList = some r113 := by kernel_rfl
def F113 : FunX := ⟨false, G113, c113, r113⟩
theorem o113 : FunOk Try.prog 113 F113 := ⟨Try.f113, by kernel_rfl, k113, e113, by kernel_rfl, by kernel_rfl⟩

/-! 114: slices.IndexFunc[[]contango/coupon.Range,contango/coupon.Range]; parameters 2, captured 0 -/
def G114 : Cfg := ⟨[], [(0, [0, 1]), (1, [0, 1, 7, 8]), (2, [0, 1, 7, 8, 9]), (3, [0, 1, 5, 7, 8]), (4, [0, 1, 5, 7, 8, 16]), (5, [4]), (6, [0, 1, 7, 8]), (7, [4])], 19, []⟩
def r114 : List CRes := [.tmp 4]
def c114 : CCode :=
(.seq (.region [
  ⟨(some 4), none, .simple (.move (.const (.int .i64 0)))⟩] (some [0, 1]))
(.seq (.seq (.region [
  ⟨(some 6), none, .simple (.move (.tmp 0))⟩,
  ⟨(some 7), none, .simple (.len (.tmp 6))⟩,
  ⟨(some 8), none, .simple (.move (.const (.int .i64 0)))⟩] (some [0, 1, 7, 8]))
(.block 0 (.loop (.seq (.region [
    ⟨(some 9), none, .simple (.bin .lss (.tmp 8) (.tmp 7))⟩] (some [0, 1, 7, 8, 9]))
  (.seq (.cond (.tmp 9)
   .skip
   (.exit 0))
  (.seq (.block 1 (.seq (.region [
     ⟨(some 10), none, .simple (.move (.tmp 8))⟩,
     ⟨(some 5), none, .simple (.move (.tmp 10))⟩] (some [0, 1, 5, 7, 8]))
   (.seq (.region [
     ⟨(some 11), none, .simple (.move (.tmp 1))⟩,
     ⟨(some 12), none, .simple (.move (.tmp 0))⟩,
     ⟨(some 13), none, .simple (.move (.tmp 5))⟩,
     ⟨(some 14), none, .simple (.indexS 2 (.tmp 12) (.tmp 13))⟩,
     ⟨(some 15), none, .simple (.load (some 2) (.tmp 14))⟩,
     ⟨(some 16), none, .call (.tmp 11) [(.tmp 15)]⟩] (some [0, 1, 5, 7, 8, 16]))
   (.cond (.tmp 16)
    (.seq (.region [
      ⟨(some 17), none, .simple (.move (.tmp 5))⟩,
      ⟨(some 4), none, .simple (.move (.tmp 17))⟩] (some [4]))
    .ret)
    .skip))))
  (.region [
    ⟨(some 18), none, .simple (.bin .add (.tmp 8) (.const (.int .i64 1)))⟩,
    ⟨(some 8), none, .simple (.move (.tmp 18))⟩] (some [0, 1, 7, 8]))))))))
(.seq (.region [
  ⟨(some 4), none, .simple (.move (.const (.int .i64 (-1))))⟩] (some [4]))
.ret)))
theorem k114 : Try.f114.body.bind (compC Try.prog G114) = some c114 := by kernel_rfl
theorem e114 : compRes Try.prog Try.f114.results.toList = some r114 := by kernel_rfl
def F114 : FunX := ⟨false, G114, c114, r114⟩
theorem o114 : FunOk Try.prog 114 F114 := ⟨Try.f114, by kernel_rfl, k114, e114, by kernel_rfl, by kernel_rfl⟩

/-! 115: slices.IndexFunc[[]int,int]; parameters 2, captured 0 -/
def G115 : Cfg := ⟨[], [(0, [0, 1]), (1, [0, 1, 7, 8]), (2, [0, 1, 7, 8, 9]), (3, [0, 1, 5, 7, 8]), (4, [0, 1, 5, 7, 8, 16]), (5, [4]), (6, [0, 1, 7, 8]), (7, [4])], 19, []⟩
def r115 : List CRes := [.tmp 4]
def c115 : CCode :=
(.seq (.region [
  ⟨(some 4), none, .simple (.move (.const (.int .i64 0)))⟩] (some [0, 1]))
(.seq (.seq (.region [
  ⟨(some 6), none, .simple (.move (.tmp 0))⟩,
  ⟨(some 7), none, .simple (.len (.tmp 6))⟩,
  ⟨(some 8), none, .simple (.move (.const (.int .i64 0)))⟩] (some [0, 1, 7, 8]))
(.block 0 (.loop (.seq (.region [
    ⟨(some 9), none, .simple (.bin .lss (.tmp 8) (.tmp 7))⟩] (some [0, 1, 7, 8, 9]))
  (.seq (.cond (.tmp 9)
   .skip
   (.exit 0))
  (.seq (.block 1 (.seq (.region [
     ⟨(some 10), none, .simple (.move (.tmp 8))⟩,
     ⟨(some 5), none, .simple (.move (.tmp 10))⟩] (some [0, 1, 5, 7, 8]))
   (.seq (.region [
     ⟨(some 11), none, .simple (.move (.tmp 1))⟩,
     ⟨(some 12), none, .simple (.move (.tmp 0))⟩,
     ⟨(some 13), none, .simple (.move (.tmp 5))⟩,
     ⟨(some 14), none, .simple (.indexS 1 (.tmp 12) (.tmp 13))⟩,
     ⟨(some 15), none, .simple (.load none (.tmp 14))⟩,
     ⟨(some 16), none, .call (.tmp 11) [(.tmp 15)]⟩] (some [0, 1, 5, 7, 8, 16]))
   (.cond (.tmp 16)
    (.seq (.region [
      ⟨(some 17), none, .simple (.move (.tmp 5))⟩,
      ⟨(some 4), none, .simple (.move (.tmp 17))⟩] (some [4]))
    .ret)
    .skip))))
  (.region [
    ⟨(some 18), none, .simple (.bin .add (.tmp 8) (.const (.int .i64 1)))⟩,
    ⟨(some 8), none, .simple (.move (.tmp 18))⟩] (some [0, 1, 7, 8]))))))))
(.seq (.region [
  ⟨(some 4), none, .simple (.move (.const (.int .i64 (-1))))⟩] (some [4]))
.ret)))
theorem k115 : Try.f115.body.bind (compC Try.prog G115) = some c115 := by kernel_rfl
theorem e115 : compRes Try.prog Try.f115.results.toList = some r115 := by kernel_rfl
def F115 : FunX := ⟨false, G115, c115, r115⟩
theorem o115 : FunOk Try.prog 115 F115 := ⟨Try.f115, by kernel_rfl, k115, e115, by kernel_rfl, by kernel_rfl⟩

/-! 116: slices.IndexFunc[[]contango/coupon.Trade,contango/coupon.Trade]; parameters 2, captured 0 -/
def G116 : Cfg := ⟨[], [(0, [0, 1]), (1, [0, 1, 7, 8]), (2, [0, 1, 7, 8, 9]), (3, [0, 1, 5, 7, 8]), (4, [0, 1, 5, 7, 8, 16]), (5, [4]), (6, [0, 1, 7, 8]), (7, [4])], 19, []⟩
def r116 : List CRes := [.tmp 4]
def c116 : CCode :=
(.seq (.region [
  ⟨(some 4), none, .simple (.move (.const (.int .i64 0)))⟩] (some [0, 1]))
(.seq (.seq (.region [
  ⟨(some 6), none, .simple (.move (.tmp 0))⟩,
  ⟨(some 7), none, .simple (.len (.tmp 6))⟩,
  ⟨(some 8), none, .simple (.move (.const (.int .i64 0)))⟩] (some [0, 1, 7, 8]))
(.block 0 (.loop (.seq (.region [
    ⟨(some 9), none, .simple (.bin .lss (.tmp 8) (.tmp 7))⟩] (some [0, 1, 7, 8, 9]))
  (.seq (.cond (.tmp 9)
   .skip
   (.exit 0))
  (.seq (.block 1 (.seq (.region [
     ⟨(some 10), none, .simple (.move (.tmp 8))⟩,
     ⟨(some 5), none, .simple (.move (.tmp 10))⟩] (some [0, 1, 5, 7, 8]))
   (.seq (.region [
     ⟨(some 11), none, .simple (.move (.tmp 1))⟩,
     ⟨(some 12), none, .simple (.move (.tmp 0))⟩,
     ⟨(some 13), none, .simple (.move (.tmp 5))⟩,
     ⟨(some 14), none, .simple (.indexS 7 (.tmp 12) (.tmp 13))⟩,
     ⟨(some 15), none, .simple (.load (some 7) (.tmp 14))⟩,
     ⟨(some 16), none, .call (.tmp 11) [(.tmp 15)]⟩] (some [0, 1, 5, 7, 8, 16]))
   (.cond (.tmp 16)
    (.seq (.region [
      ⟨(some 17), none, .simple (.move (.tmp 5))⟩,
      ⟨(some 4), none, .simple (.move (.tmp 17))⟩] (some [4]))
    .ret)
    .skip))))
  (.region [
    ⟨(some 18), none, .simple (.bin .add (.tmp 8) (.const (.int .i64 1)))⟩,
    ⟨(some 8), none, .simple (.move (.tmp 18))⟩] (some [0, 1, 7, 8]))))))))
(.seq (.region [
  ⟨(some 4), none, .simple (.move (.const (.int .i64 (-1))))⟩] (some [4]))
.ret)))
theorem k116 : Try.f116.body.bind (compC Try.prog G116) = some c116 := by kernel_rfl
theorem e116 : compRes Try.prog Try.f116.results.toList = some r116 := by kernel_rfl
def F116 : FunX := ⟨false, G116, c116, r116⟩
theorem o116 : FunOk Try.prog 116 F116 := ⟨Try.f116, by kernel_rfl, k116, e116, by kernel_rfl, by kernel_rfl⟩

/-! 117: slices.IndexFunc[[]contango/coupon.Dividend,contango/coupon.Dividend]; parameters 2, captured 0 -/
def G117 : Cfg := ⟨[], [(0, [0, 1]), (1, [0, 1, 7, 8]), (2, [0, 1, 7, 8, 9]), (3, [0, 1, 5, 7, 8]), (4, [0, 1, 5, 7, 8, 16]), (5, [4]), (6, [0, 1, 7, 8]), (7, [4])], 19, []⟩
def r117 : List CRes := [.tmp 4]
def c117 : CCode :=
(.seq (.region [
  ⟨(some 4), none, .simple (.move (.const (.int .i64 0)))⟩] (some [0, 1]))
(.seq (.seq (.region [
  ⟨(some 6), none, .simple (.move (.tmp 0))⟩,
  ⟨(some 7), none, .simple (.len (.tmp 6))⟩,
  ⟨(some 8), none, .simple (.move (.const (.int .i64 0)))⟩] (some [0, 1, 7, 8]))
(.block 0 (.loop (.seq (.region [
    ⟨(some 9), none, .simple (.bin .lss (.tmp 8) (.tmp 7))⟩] (some [0, 1, 7, 8, 9]))
  (.seq (.cond (.tmp 9)
   .skip
   (.exit 0))
  (.seq (.block 1 (.seq (.region [
     ⟨(some 10), none, .simple (.move (.tmp 8))⟩,
     ⟨(some 5), none, .simple (.move (.tmp 10))⟩] (some [0, 1, 5, 7, 8]))
   (.seq (.region [
     ⟨(some 11), none, .simple (.move (.tmp 1))⟩,
     ⟨(some 12), none, .simple (.move (.tmp 0))⟩,
     ⟨(some 13), none, .simple (.move (.tmp 5))⟩,
     ⟨(some 14), none, .simple (.indexS 3 (.tmp 12) (.tmp 13))⟩,
     ⟨(some 15), none, .simple (.load (some 3) (.tmp 14))⟩,
     ⟨(some 16), none, .call (.tmp 11) [(.tmp 15)]⟩] (some [0, 1, 5, 7, 8, 16]))
   (.cond (.tmp 16)
    (.seq (.region [
      ⟨(some 17), none, .simple (.move (.tmp 5))⟩,
      ⟨(some 4), none, .simple (.move (.tmp 17))⟩] (some [4]))
    .ret)
    .skip))))
  (.region [
    ⟨(some 18), none, .simple (.bin .add (.tmp 8) (.const (.int .i64 1)))⟩,
    ⟨(some 8), none, .simple (.move (.tmp 18))⟩] (some [0, 1, 7, 8]))))))))
(.seq (.region [
  ⟨(some 4), none, .simple (.move (.const (.int .i64 (-1))))⟩] (some [4]))
.ret)))
theorem k117 : Try.f117.body.bind (compC Try.prog G117) = some c117 := by kernel_rfl
theorem e117 : compRes Try.prog Try.f117.results.toList = some r117 := by kernel_rfl
def F117 : FunX := ⟨false, G117, c117, r117⟩
theorem o117 : FunOk Try.prog 117 F117 := ⟨Try.f117, by kernel_rfl, k117, e117, by kernel_rfl, by kernel_rfl⟩

/-! 118: slices.ContainsFunc[[]contango/coupon.Split,contango/coupon.Split]; parameters 2, captured 0 -/
def G118 : Cfg := ⟨[], [(0, [0, 1]), (1, [4])], 9, []⟩
def r118 : List CRes := [.tmp 4]
def c118 : CCode :=
(.seq (.region [
  ⟨(some 4), none, .simple (.move (.const (.bool false)))⟩] (some [0, 1]))
(.seq (.region [
  ⟨(some 5), none, .simple (.move (.tmp 0))⟩,
  ⟨(some 6), none, .simple (.move (.tmp 1))⟩,
  ⟨(some 7), none, .call (.func 120) [(.tmp 5), (.tmp 6)]⟩,
  ⟨(some 8), none, .simple (.bin .geq (.tmp 7) (.const (.int .i64 0)))⟩,
  ⟨(some 4), none, .simple (.move (.tmp 8))⟩] (some [4]))
.ret))
theorem k118 : Try.f118.body.bind (compC Try.prog G118) = some c118 := by kernel_rfl
theorem e118 : compRes Try.prog Try.f118.results.toList = some r118 := by kernel_rfl
def F118 : FunX := ⟨false, G118, c118, r118⟩
theorem o118 : FunOk Try.prog 118 F118 := ⟨Try.f118, by kernel_rfl, k118, e118, by kernel_rfl, by kernel_rfl⟩

end Go.Proofs.Ytdnefcjbcieecaa
