import Derived.Test.YtdnefcjbcieecaaCoreX
import Derived.Test.YtdnefcjbcieecaaProg
import Derived.KernelRfl
namespace Go.Proofs.Ytdnefcjbcieecaa
open Go Go.Proofs

/-! 54: contango/contangolaw07.when; parameters 2, captured 0 -/
def G54 : Cfg := ⟨[4], [(0, [0, 1, 4]), (1, [4])], 10, []⟩
def r54 : List CRes := [.cell 4 (some 2)]
def c54 : CCode :=
(.seq (.region [
  ⟨(some 4), none, .simple (.alloc [(.d .nils), (.d .nils)])⟩] (some [0, 1, 4]))
(.seq (.region [
  ⟨(some 5), none, .simple (.move (.tmp 0))⟩,
  ⟨(some 6), none, .simple (.bslice false 3 1 1 [(.int .i64 0)] [(0, (.tmp 5))])⟩,
  ⟨(some 7), none, .simple (.move (.tmp 1))⟩,
  ⟨(some 8), none, .simple (.bslice false 3 1 1 [(.int .i64 0)] [(0, (.tmp 7))])⟩,
  ⟨(some 9), none, .simple (.build [(.d .nils), (.d .nils)] [(0, 1, (.tmp 6)), (1, 1, (.tmp 8))])⟩,
  ⟨none, none, .simple (.store 2 (.tmp 4) (.tmp 9))⟩] (some [4]))
.ret))
theorem k54 : Try.f54.body.bind (compC Try.prog G54) = some c54 := by kernel_rfl
theorem e54 : compRes Try.prog Try.f54.results.toList = some r54 := by kernel_rfl
def F54 : FunX := ⟨false, G54, c54, r54⟩
theorem o54 : FunOk Try.prog 54 F54 := ⟨Try.f54, by kernel_rfl, k54, e54, by kernel_rfl, by kernel_rfl⟩

/-! 55: contango/contangolaw07.between; parameters 2, captured 0 -/
def G55 : Cfg := ⟨[4], [(0, [0, 1, 4]), (1, [4])], 8, []⟩
def r55 : List CRes := [.cell 4 (some 2)]
def c55 : CCode :=
(.seq (.region [
  ⟨(some 4), none, .simple (.alloc [(.d (.int .i64 0)), (.d (.int .i64 0))])⟩] (some [0, 1, 4]))
(.seq (.region [
  ⟨(some 5), none, .simple (.move (.tmp 0))⟩,
  ⟨(some 6), none, .simple (.move (.tmp 1))⟩,
  ⟨(some 7), none, .simple (.build [(.d (.int .i64 0)), (.d (.int .i64 0))] [(0, 1, (.tmp 5)), (1, 1, (.tmp 6))])⟩,
  ⟨none, none, .simple (.store 2 (.tmp 4) (.tmp 7))⟩] (some [4]))
.ret))
theorem k55 : Try.f55.body.bind (compC Try.prog G55) = some c55 := by kernel_rfl
theorem e55 : compRes Try.prog Try.f55.results.toList = some r55 := by kernel_rfl
def F55 : FunX := ⟨false, G55, c55, r55⟩
theorem o55 : FunOk Try.prog 55 F55 := ⟨Try.f55, by kernel_rfl, k55, e55, by kernel_rfl, by kernel_rfl⟩

/-! 58: (contango/coupon.Company).asked; parameters 2, captured 0 -/
def G58 : Cfg := ⟨[], [(0, [2, 3]), (1, [2, 3, 6]), (2, [2, 3, 6, 11]), (3, [4, 5]), (4, [2, 3, 7]), (5, [3, 7, 15]), (7, [7, 20]), (8, [4, 5]), (6, [4, 5]), (9, [4, 5])], 26, []⟩
def r58 : List CRes := [.tmp 4, .tmp 5]
def c58 : CCode :=
(.seq (.region [
  ⟨(some 2), none, .simple (.box false (.tmp 0))⟩,
  ⟨(some 3), none, .simple (.box false (.tmp 1))⟩,
  ⟨(some 4), none, .simple (.move (.const (.pointer none)))⟩,
  ⟨(some 5), none, .simple (.move (.const (.int .i64 0)))⟩] (some [2, 3]))
(.seq (.seq (.region [
  ⟨(some 8), none, .simple (.load (some 6) (.tmp 2))⟩,
  ⟨(some 9), none, .call (.func 52) [(.tmp 8)]⟩,
  ⟨(some 6), none, .simple (.move (.tmp 9))⟩] (some [2, 3, 6]))
(.seq (.region [
  ⟨(some 10), none, .simple (.move (.tmp 6))⟩,
  ⟨(some 11), none, .simple (.bin .neq (.tmp 10) (.const (.int .i64 0)))⟩] (some [2, 3, 6, 11]))
(.cond (.tmp 11)
 (.seq (.region [
   ⟨(some 12), none, .simple (.move (.tmp 6))⟩,
   ⟨(some 4), none, .simple (.move (.const (.pointer none)))⟩,
   ⟨(some 5), none, .simple (.move (.tmp 12))⟩] (some [4, 5]))
 .ret)
 .skip)))
(.seq (.region [
  ⟨(some 13), none, .simple (.load (some 6) (.tmp 2))⟩,
  ⟨(some 14), none, .call (.func 72) [(.tmp 13)]⟩,
  ⟨(some 7), none, .simple (.move (.tmp 14))⟩] (some [2, 3, 7]))
(.seq (.block 0 (.seq (.region [
   ⟨(some 16), none, .simple (.load (some 6) (.tmp 2))⟩,
   ⟨(some 17), none, .simple (.load (some 2) (.tmp 3))⟩,
   ⟨(some 18), none, .call (.func 92) [(.tmp 16), (.tmp 17)]⟩,
   ⟨(some 19), none, .simple (.un .not (.tmp 18))⟩,
   ⟨(some 15), none, .simple (.move (.tmp 19))⟩] (some [3, 7, 15]))
 (.cond (.tmp 15)
  (.seq (.region [
    ⟨(some 4), none, .simple (.move (.const (.pointer none)))⟩,
    ⟨(some 5), none, .simple (.move (.const (.int .i64 2)))⟩] (some [4, 5]))
  .ret)
  (.seq (.region [
    ⟨(some 21), none, .simple (.move (.tmp 7))⟩,
    ⟨(some 22), none, .simple (.load (some 2) (.tmp 3))⟩,
    ⟨(some 23), none, .call (.func 93) [(.tmp 21), (.tmp 22)]⟩,
    ⟨(some 24), none, .simple (.un .not (.tmp 23))⟩,
    ⟨(some 20), none, .simple (.move (.tmp 24))⟩] (some [7, 20]))
  (.cond (.tmp 20)
   (.seq (.region [
     ⟨(some 4), none, .simple (.move (.const (.pointer none)))⟩,
     ⟨(some 5), none, .simple (.move (.const (.int .i64 11)))⟩] (some [4, 5]))
   .ret)
   .skip)))))
(.seq (.region [
  ⟨(some 25), none, .simple (.move (.tmp 7))⟩,
  ⟨(some 4), none, .simple (.move (.tmp 25))⟩,
  ⟨(some 5), none, .simple (.move (.const (.int .i64 0)))⟩] (some [4, 5]))
.ret)))))
theorem k58 : Try.f58.body.bind (compC Try.prog G58) = some c58 := by kernel_rfl
theorem e58 : compRes Try.prog Try.f58.results.toList = some r58 := by kernel_rfl
def F58 : FunX := ⟨false, G58, c58, r58⟩
theorem o58 : FunOk Try.prog 58 F58 := ⟨Try.f58, by kernel_rfl, k58, e58, by kernel_rfl, by kernel_rfl⟩

/-! 59: contango/coupon.day; parameters 1, captured 0 -/
def G59 : Cfg := ⟨[], [(0, [0]), (1, [2])], 5, []⟩
def r59 : List CRes := [.tmp 2]
def c59 : CCode :=
(.seq (.region [
  ⟨(some 2), none, .simple (.move (.const (.bool false)))⟩] (some [0]))
(.seq (.region [
  ⟨(some 3), none, .simple (.move (.tmp 0))⟩,
  ⟨(some 4), none, .call (.func 71) [(.tmp 3), (.const (.int .i64 0)), (.const (.int .i64 11))]⟩,
  ⟨(some 2), none, .simple (.move (.tmp 4))⟩] (some [2]))
.ret))
theorem k59 : Try.f59.body.bind (compC Try.prog G59) = some c59 := by kernel_rfl
theorem e59 : compRes Try.prog Try.f59.results.toList = some r59 := by kernel_rfl
def F59 : FunX := ⟨false, G59, c59, r59⟩
theorem o59 : FunOk Try.prog 59 F59 := ⟨Try.f59, by kernel_rfl, k59, e59, by kernel_rfl, by kernel_rfl⟩

/-! 60: (*contango/coupon.work).held; parameters 3, captured 0 -/
def G60 : Cfg := ⟨[6, 10], [(0, [0, 2, 4, 6]), (1, [0, 2, 4, 6, 17, 18, 19]), (2, [0, 2, 4, 6, 17, 18, 19, 20]), (3, [0, 2, 4, 6, 7, 8, 17, 18, 19]), (4, [0, 2, 4, 6, 17, 18, 19]), (5, [0, 2, 4, 6, 17, 18, 19]), (6, [0, 2, 4, 6, 36, 37, 38]), (7, [0, 2, 4, 6, 36, 37, 38, 39]), (8, [0, 2, 4, 6, 9, 10, 36, 37, 38]), (9, [0, 2, 4, 6, 9, 10, 11, 36, 37, 38]), (10, [0, 2, 4, 6, 9, 10, 36, 37, 38, 59]), (11, [0, 2, 4, 6, 10, 12, 36, 37, 38]), (12, [0, 2, 4, 6, 10, 12, 36, 37, 38]), (13, [0, 2, 4, 6, 36, 37, 38]), (14, [0, 2, 4, 6, 36, 37, 38]), (15, [6])], 87, []⟩
def r60 : List CRes := [.cell 6 (some 4)]
def c60 : CCode :=
(.seq (.region [
  ⟨(some 4), none, .simple (.box false (.tmp 1))⟩,
  ⟨(some 6), none, .simple (.alloc [(.d (.int .i64 0)), (.d (.int .i64 0)), (.d (.int .i64 0)), (.d (.int .i64 0))])⟩] (some [0, 2, 4, 6]))
(.seq (.seq (.region [
  ⟨(some 13), none, .simple (.move (.tmp 0))⟩,
  ⟨(some 14), none, .simple (.nilCheck (.tmp 13))⟩,
  ⟨(some 15), none, .simple (.fieldAddr 0 (.tmp 14))⟩,
  ⟨(some 16), none, .simple (.fieldAddr 1 (.tmp 15))⟩,
  ⟨(some 17), none, .simple (.load none (.tmp 16))⟩,
  ⟨(some 18), none, .simple (.len (.tmp 17))⟩,
  ⟨(some 19), none, .simple (.move (.const (.int .i64 0)))⟩] (some [0, 2, 4, 6, 17, 18, 19]))
(.block 0 (.loop (.seq (.region [
    ⟨(some 20), none, .simple (.bin .lss (.tmp 19) (.tmp 18))⟩] (some [0, 2, 4, 6, 17, 18, 19, 20]))
  (.seq (.cond (.tmp 20)
   .skip
   (.exit 0))
  (.seq (.block 1 (.seq (.region [
     ⟨(some 21), none, .simple (.move (.tmp 19))⟩,
     ⟨(some 22), none, .simple (.indexS 1 (.tmp 17) (.tmp 19))⟩,
     ⟨(some 23), none, .simple (.load none (.tmp 22))⟩,
     ⟨(some 7), none, .simple (.move (.tmp 21))⟩,
     ⟨(some 8), none, .simple (.move (.tmp 23))⟩] (some [0, 2, 4, 6, 7, 8, 17, 18, 19]))
   (.region [
     ⟨(some 24), none, .simple (.move (.tmp 7))⟩,
     ⟨(some 25), none, .simple (.move (.tmp 0))⟩,
     ⟨(some 26), none, .simple (.move (.tmp 8))⟩,
     ⟨(some 27), none, .simple (.move (.tmp 2))⟩,
     ⟨(some 28), none, .simple (.build [(.d (.int .i64 0)), (.d (.int .i64 0))] [(0, 1, (.const (.int .i64 (-1)))), (1, 1, (.tmp 27))])⟩,
     ⟨(some 29), none, .call (.func 94) [(.tmp 25), (.tmp 26), (.tmp 28)]⟩,
     ⟨(some 30), none, .simple (.indexA 4 1 (.tmp 6) (.tmp 24))⟩,
     ⟨none, none, .simple (.store 1 (.tmp 30) (.tmp 29))⟩] (some [0, 2, 4, 6, 17, 18, 19]))))
  (.region [
    ⟨(some 31), none, .simple (.bin .add (.tmp 19) (.const (.int .i64 1)))⟩,
    ⟨(some 19), none, .simple (.move (.tmp 31))⟩] (some [0, 2, 4, 6, 17, 18, 19]))))))))
(.seq (.seq (.region [
  ⟨(some 32), none, .simple (.move (.tmp 0))⟩,
  ⟨(some 33), none, .simple (.nilCheck (.tmp 32))⟩,
  ⟨(some 34), none, .simple (.fieldAddr 0 (.tmp 33))⟩,
  ⟨(some 35), none, .simple (.fieldAddr 2 (.tmp 34))⟩,
  ⟨(some 36), none, .simple (.load none (.tmp 35))⟩,
  ⟨(some 37), none, .simple (.len (.tmp 36))⟩,
  ⟨(some 38), none, .simple (.move (.const (.int .i64 0)))⟩] (some [0, 2, 4, 6, 36, 37, 38]))
(.block 2 (.loop (.seq (.region [
    ⟨(some 39), none, .simple (.bin .lss (.tmp 38) (.tmp 37))⟩] (some [0, 2, 4, 6, 36, 37, 38, 39]))
  (.seq (.cond (.tmp 39)
   .skip
   (.exit 2))
  (.seq (.block 3 (.seq (.region [
     ⟨(some 40), none, .simple (.move (.tmp 38))⟩,
     ⟨(some 41), none, .simple (.indexS 7 (.tmp 36) (.tmp 38))⟩,
     ⟨(some 42), none, .simple (.load (some 7) (.tmp 41))⟩,
     ⟨(some 10), none, .simple (.alloc [(.d (.int .i64 0)), (.d (.int .i64 0)), (.d (.int .i64 0)), (.d (.int .i64 0)), (.d (.int .i64 0)), (.d (.int .i64 0)), (.d (.int .i64 0))])⟩,
     ⟨(some 9), none, .simple (.move (.tmp 40))⟩,
     ⟨none, none, .simple (.store 7 (.tmp 10) (.tmp 42))⟩] (some [0, 2, 4, 6, 9, 10, 36, 37, 38]))
   (.seq (.region [
     ⟨(some 43), none, .simple (.move (.tmp 0))⟩,
     ⟨(some 44), none, .simple (.nilCheck (.tmp 43))⟩,
     ⟨(some 45), none, .simple (.fieldAddr 0 (.tmp 44))⟩,
     ⟨(some 46), none, .simple (.load (some 6) (.tmp 45))⟩,
     ⟨(some 47), none, .simple (.fieldAddr 1 (.tmp 4))⟩,
     ⟨(some 48), none, .simple (.load none (.tmp 47))⟩,
     ⟨(some 49), none, .simple (.move (.tmp 9))⟩,
     ⟨(some 50), none, .simple (.indexS 1 (.tmp 48) (.tmp 49))⟩,
     ⟨(some 51), none, .simple (.load none (.tmp 50))⟩,
     ⟨(some 52), none, .call (.func 82) [(.tmp 46), (.tmp 51)]⟩,
     ⟨(some 11), none, .simple (.move (.tmp 52))⟩] (some [0, 2, 4, 6, 9, 10, 11, 36, 37, 38]))
   (.seq (.region [
     ⟨(some 53), none, .simple (.move (.tmp 11))⟩,
     ⟨(some 54), none, .simple (.bin .neq (.tmp 53) (.const (.int .i64 (-1))))⟩,
     ⟨(some 55), none, .simple (.move (.tmp 54))⟩,
     ⟨(some 56), (some (55, true)), .simple (.move (.tmp 11))⟩,
     ⟨(some 57), (some (55, true)), .simple (.move (.tmp 2))⟩,
     ⟨(some 58), (some (55, true)), .simple (.bin .leq (.tmp 56) (.tmp 57))⟩,
     ⟨(some 59), none, .simple (.pick (.tmp 55) (.tmp 58) (.const (.bool false)))⟩] (some [0, 2, 4, 6, 9, 10, 36, 37, 38, 59]))
   (.cond (.tmp 59)
    (.seq (.region [
      ⟨(some 60), none, .simple (.move (.tmp 0))⟩,
      ⟨(some 61), none, .simple (.fieldAddr 2 (.tmp 10))⟩,
      ⟨(some 62), none, .simple (.load none (.tmp 61))⟩,
      ⟨(some 63), none, .simple (.fieldAddr 0 (.tmp 4))⟩,
      ⟨(some 64), none, .simple (.load none (.tmp 63))⟩,
      ⟨(some 65), none, .simple (.move (.tmp 9))⟩,
      ⟨(some 66), none, .simple (.indexS 1 (.tmp 64) (.tmp 65))⟩,
      ⟨(some 67), none, .simple (.load none (.tmp 66))⟩,
      ⟨(some 68), none, .simple (.move (.tmp 2))⟩,
      ⟨(some 69), none, .simple (.build [(.d (.int .i64 0)), (.d (.int .i64 0))] [(0, 1, (.tmp 67)), (1, 1, (.tmp 68))])⟩,
      ⟨(some 70), none, .call (.func 94) [(.tmp 60), (.tmp 62), (.tmp 69)]⟩,
      ⟨(some 12), none, .simple (.move (.tmp 70))⟩] (some [0, 2, 4, 6, 10, 12, 36, 37, 38]))
    (.seq (.region [
      ⟨(some 71), none, .simple (.fieldAddr 0 (.tmp 10))⟩,
      ⟨(some 72), none, .simple (.load none (.tmp 71))⟩,
      ⟨(some 73), none, .simple (.indexA 4 1 (.tmp 6) (.tmp 72))⟩,
      ⟨(some 74), none, .simple (.load none (.tmp 73))⟩,
      ⟨(some 75), none, .simple (.move (.tmp 12))⟩,
      ⟨(some 76), none, .simple (.bin .sub (.tmp 74) (.tmp 75))⟩,
      ⟨(some 77), none, .simple (.indexA 4 1 (.tmp 6) (.tmp 72))⟩,
      ⟨none, none, .simple (.store 1 (.tmp 77) (.tmp 76))⟩] (some [0, 2, 4, 6, 10, 12, 36, 37, 38]))
    (.region [
      ⟨(some 78), none, .simple (.fieldAddr 1 (.tmp 10))⟩,
      ⟨(some 79), none, .simple (.load none (.tmp 78))⟩,
      ⟨(some 80), none, .simple (.indexA 4 1 (.tmp 6) (.tmp 79))⟩,
      ⟨(some 81), none, .simple (.load none (.tmp 80))⟩,
      ⟨(some 82), none, .simple (.move (.tmp 12))⟩,
      ⟨(some 83), none, .simple (.bin .add (.tmp 81) (.tmp 82))⟩,
      ⟨(some 84), none, .simple (.indexA 4 1 (.tmp 6) (.tmp 79))⟩,
      ⟨none, none, .simple (.store 1 (.tmp 84) (.tmp 83))⟩] (some [0, 2, 4, 6, 36, 37, 38]))))
    .skip)))))
  (.region [
    ⟨(some 85), none, .simple (.bin .add (.tmp 38) (.const (.int .i64 1)))⟩,
    ⟨(some 38), none, .simple (.move (.tmp 85))⟩] (some [0, 2, 4, 6, 36, 37, 38]))))))))
(.seq (.region [
  ⟨(some 86), none, .simple (.load (some 4) (.tmp 6))⟩,
  ⟨none, none, .simple (.store 4 (.tmp 6) (.tmp 86))⟩] (some [6]))
.ret))))
theorem k60 : Try.f60.body.bind (compC Try.prog G60) = some c60 := by kernel_rfl
theorem e60 : compRes Try.prog Try.f60.results.toList = some r60 := by kernel_rfl
def F60 : FunX := ⟨false, G60, c60, r60⟩
theorem o60 : FunOk Try.prog 60 F60 := ⟨Try.f60, by kernel_rfl, k60, e60, by kernel_rfl, by kernel_rfl⟩

/-! 64: (*contango/coupon.work).paid; parameters 3, captured 0 -/
def G64 : Cfg := ⟨[32, 7], [(0, [0, 4, 5, 6]), (1, [0, 5, 6, 7]), (2, [5, 6, 20, 21, 22]), (3, [5, 6, 20, 21, 22, 23]), (4, [5, 6, 9, 20, 21, 22]), (5, [5, 6, 20, 21, 22]), (6, [5, 6, 20, 21, 22]), (7, [6])], 35, [(2, [(7, none)])]⟩
def r64 : List CRes := [.tmp 6]
def c64 : CCode :=
(.seq (.region [
  ⟨(some 4), none, .simple (.box false (.tmp 1))⟩,
  ⟨(some 5), none, .simple (.box false (.tmp 2))⟩,
  ⟨(some 6), none, .simple (.move (.const (.slice none 0 0)))⟩] (some [0, 4, 5, 6]))
(.seq (.region [
  ⟨(some 10), none, .simple (.move (.tmp 0))⟩,
  ⟨(some 11), none, .simple (.load (some 2) (.tmp 4))⟩,
  ⟨(some 12), none, .simple (.fieldAddr 1 (.tmp 5))⟩,
  ⟨(some 13), none, .simple (.load none (.tmp 12))⟩,
  ⟨(some 14), none, .call (.func 60) [(.tmp 10), (.tmp 11), (.tmp 13)]⟩,
  ⟨(some 7), none, .simple (.alloc [(.d (.int .i64 0)), (.d (.int .i64 0)), (.d (.int .i64 0)), (.d (.int .i64 0))])⟩,
  ⟨none, none, .simple (.store 4 (.tmp 7) (.tmp 14))⟩] (some [0, 5, 6, 7]))
(.seq (.seq (.seq (.frz (7, none))
(.region [
  ⟨(some 15), none, .simple (.move (.tmp 0))⟩,
  ⟨(some 16), none, .simple (.nilCheck (.tmp 15))⟩,
  ⟨(some 17), none, .simple (.fieldAddr 0 (.tmp 16))⟩,
  ⟨(some 18), none, .simple (.fieldAddr 0 (.tmp 17))⟩,
  ⟨(some 19), none, .simple (.load none (.tmp 18))⟩,
  ⟨(some 20), none, .simple (.sliceA 4 1 (.tmp 7) none (some (.tmp 19)))⟩,
  ⟨(some 21), none, .simple (.len (.tmp 20))⟩,
  ⟨(some 22), none, .simple (.move (.const (.int .i64 0)))⟩] (some [5, 6, 20, 21, 22])))
(.block 0 (.loop (.seq (.region [
    ⟨(some 23), none, .simple (.bin .lss (.tmp 22) (.tmp 21))⟩] (some [5, 6, 20, 21, 22, 23]))
  (.seq (.cond (.tmp 23)
   .skip
   (.exit 0))
  (.seq (.block 1 (.seq (.region [
     ⟨(some 24), none, .simple (.indexS 1 (.tmp 20) (.tmp 22))⟩,
     ⟨(some 25), none, .simple (.load none (.tmp 24))⟩,
     ⟨(some 9), none, .simple (.move (.tmp 25))⟩] (some [5, 6, 9, 20, 21, 22]))
   (.region [
     ⟨(some 26), none, .simple (.move (.tmp 6))⟩,
     ⟨(some 27), none, .simple (.fieldAddr 2 (.tmp 5))⟩,
     ⟨(some 28), none, .simple (.load none (.tmp 27))⟩,
     ⟨(some 29), none, .simple (.move (.tmp 9))⟩,
     ⟨(some 30), none, .simple (.bin .mul (.tmp 28) (.tmp 29))⟩,
     ⟨(some 31), none, .simple (.bslice false 3 1 1 [(.int .i64 0)] [(0, (.tmp 30))])⟩,
     ⟨(some 32), none, .app 3 1 8 (.tmp 26) (.tmp 31)⟩,
     ⟨(some 6), none, .simple (.move (.tmp 32))⟩] (some [5, 6, 20, 21, 22]))))
  (.region [
    ⟨(some 33), none, .simple (.bin .add (.tmp 22) (.const (.int .i64 1)))⟩,
    ⟨(some 22), none, .simple (.move (.tmp 33))⟩] (some [5, 6, 20, 21, 22]))))))))
(.seq (.region [
  ⟨(some 34), none, .simple (.move (.tmp 6))⟩,
  ⟨(some 6), none, .simple (.move (.tmp 34))⟩] (some [6]))
.ret))))
theorem k64 : Try.f64.body.bind (compC Try.prog G64) = some c64 := by kernel_rfl
theorem e64 : compRes Try.prog Try.f64.results.toList = some r64 := by kernel_rfl
def F64 : FunX := ⟨true, G64, c64, r64⟩
theorem o64 : FunOk Try.prog 64 F64 := ⟨Try.f64, by kernel_rfl, k64, e64, by kernel_rfl, by kernel_rfl⟩

/-! 65: (contango/coupon.sum).in; parameters 4, captured 0 -/
def G65 : Cfg := ⟨[], [(0, [3, 4, 5, 6]), (1, [3, 4, 5, 6, 10, 11]), (2, [3, 4, 5, 6, 10, 11, 19]), (3, [8, 9]), (4, [3, 4, 5, 6, 10, 27]), (5, [8, 9]), (6, [8, 9])], 38, []⟩
def r65 : List CRes := [.tmp 8, .tmp 9]
def c65 : CCode :=
(.seq (.region [
  ⟨(some 4), none, .simple (.box false (.tmp 0))⟩,
  ⟨(some 5), none, .simple (.box false (.tmp 1))⟩,
  ⟨(some 6), none, .simple (.box false (.tmp 2))⟩,
  ⟨(some 8), none, .simple (.move (.const (.slice none 0 0)))⟩,
  ⟨(some 9), none, .simple (.move (.const (.int .i64 0)))⟩] (some [3, 4, 5, 6]))
(.seq (.region [
  ⟨(some 13), none, .simple (.load (some 6) (.tmp 5))⟩,
  ⟨(some 14), none, .simple (.load (some 2) (.tmp 6))⟩,
  ⟨(some 15), none, .call (.func 58) [(.tmp 13), (.tmp 14)]⟩,
  ⟨(some 12), none, .simple (.move (.tmp 15))⟩,
  ⟨(some 16), none, .simple (.extract (.tmp 12) 0)⟩,
  ⟨(some 17), none, .simple (.extract (.tmp 12) 1)⟩,
  ⟨(some 10), none, .simple (.move (.tmp 16))⟩,
  ⟨(some 11), none, .simple (.move (.tmp 17))⟩] (some [3, 4, 5, 6, 10, 11]))
(.seq (.seq (.region [
  ⟨(some 18), none, .simple (.move (.tmp 11))⟩,
  ⟨(some 19), none, .simple (.bin .neq (.tmp 18) (.const (.int .i64 0)))⟩] (some [3, 4, 5, 6, 10, 11, 19]))
(.cond (.tmp 19)
 (.seq (.region [
   ⟨(some 20), none, .simple (.move (.tmp 11))⟩,
   ⟨(some 8), none, .simple (.move (.const (.slice none 0 0)))⟩,
   ⟨(some 9), none, .simple (.move (.tmp 20))⟩] (some [8, 9]))
 .ret)
 .skip))
(.seq (.seq (.region [
  ⟨(some 21), none, .simple (.move (.tmp 3))⟩,
  ⟨(some 22), none, .simple (.fieldAddr 3 (.tmp 5))⟩,
  ⟨(some 23), none, .simple (.load none (.tmp 22))⟩,
  ⟨(some 24), none, .simple (.len (.tmp 23))⟩,
  ⟨(some 25), none, .simple (.bin .sub (.tmp 24) (.const (.int .i64 1)))⟩,
  ⟨(some 26), none, .call (.func 71) [(.tmp 21), (.const (.int .i64 0)), (.tmp 25)]⟩,
  ⟨(some 27), none, .simple (.un .not (.tmp 26))⟩] (some [3, 4, 5, 6, 10, 27]))
(.cond (.tmp 27)
 (.seq (.region [
   ⟨(some 8), none, .simple (.move (.const (.slice none 0 0)))⟩,
   ⟨(some 9), none, .simple (.move (.const (.int .i64 2)))⟩] (some [8, 9]))
 .ret)
 .skip))
(.seq (.region [
  ⟨(some 28), none, .simple (.fieldAddr 0 (.tmp 4))⟩,
  ⟨(some 29), none, .simple (.load none (.tmp 28))⟩,
  ⟨(some 30), none, .simple (.move (.tmp 10))⟩,
  ⟨(some 31), none, .simple (.load (some 2) (.tmp 6))⟩,
  ⟨(some 32), none, .simple (.fieldAddr 3 (.tmp 5))⟩,
  ⟨(some 33), none, .simple (.load none (.tmp 32))⟩,
  ⟨(some 34), none, .simple (.move (.tmp 3))⟩,
  ⟨(some 35), none, .simple (.indexS 3 (.tmp 33) (.tmp 34))⟩,
  ⟨(some 36), none, .simple (.load (some 3) (.tmp 35))⟩,
  ⟨(some 37), none, .call (.tmp 29) [(.tmp 30), (.tmp 31), (.tmp 36)]⟩,
  ⟨(some 8), none, .simple (.move (.tmp 37))⟩,
  ⟨(some 9), none, .simple (.move (.const (.int .i64 0)))⟩] (some [8, 9]))
.ret)))))
theorem k65 : Try.f65.body.bind (compC Try.prog G65) = some c65 := by kernel_rfl
theorem e65 : compRes Try.prog Try.f65.results.toList = some r65 := by kernel_rfl
def F65 : FunX := ⟨false, G65, c65, r65⟩
theorem o65 : FunOk Try.prog 65 F65 := ⟨Try.f65, by kernel_rfl, k65, e65, by kernel_rfl, by kernel_rfl⟩

/-! 66: (*contango/coupon.work).claims; parameters 3, captured 0 -/
def G66 : Cfg := ⟨[96, 8], [(0, [0, 4, 5, 6]), (1, [0, 4, 5, 6, 17, 18, 19]), (2, [0, 4, 5, 6, 17, 18, 19, 20]), (3, [0, 4, 5, 6, 7, 8, 17, 18, 19]), (4, [0, 4, 5, 6, 7, 8, 9, 17, 18, 19]), (5, [0, 4, 5, 6, 7, 8, 9, 10, 17, 18, 19]), (6, [0, 4, 5, 6, 7, 8, 9, 11, 12, 17, 18, 19]), (7, [0, 4, 5, 6, 7, 8, 9, 11, 12, 17, 18, 19, 50]), (9, [0, 4, 5, 6, 7, 8, 9, 17, 18, 19, 70]), (10, [0, 4, 5, 6, 9, 17, 18, 19]), (8, [0, 4, 5, 6, 9, 17, 18, 19]), (11, [0, 4, 5, 6, 17, 18, 19]), (12, [0, 4, 5, 6, 17, 18, 19]), (13, [6])], 99, []⟩
def r66 : List CRes := [.tmp 6]
def c66 : CCode :=
(.seq (.region [
  ⟨(some 4), none, .simple (.box false (.tmp 1))⟩,
  ⟨(some 5), none, .simple (.box false (.tmp 2))⟩,
  ⟨(some 6), none, .simple (.move (.const (.slice none 0 0)))⟩] (some [0, 4, 5, 6]))
(.seq (.seq (.region [
  ⟨(some 13), none, .simple (.move (.tmp 0))⟩,
  ⟨(some 14), none, .simple (.nilCheck (.tmp 13))⟩,
  ⟨(some 15), none, .simple (.fieldAddr 0 (.tmp 14))⟩,
  ⟨(some 16), none, .simple (.fieldAddr 2 (.tmp 15))⟩,
  ⟨(some 17), none, .simple (.load none (.tmp 16))⟩,
  ⟨(some 18), none, .simple (.len (.tmp 17))⟩,
  ⟨(some 19), none, .simple (.move (.const (.int .i64 0)))⟩] (some [0, 4, 5, 6, 17, 18, 19]))
(.block 0 (.loop (.seq (.region [
    ⟨(some 20), none, .simple (.bin .lss (.tmp 19) (.tmp 18))⟩] (some [0, 4, 5, 6, 17, 18, 19, 20]))
  (.seq (.cond (.tmp 20)
   .skip
   (.exit 0))
  (.seq (.block 1 (.seq (.region [
     ⟨(some 21), none, .simple (.move (.tmp 19))⟩,
     ⟨(some 22), none, .simple (.indexS 7 (.tmp 17) (.tmp 19))⟩,
     ⟨(some 23), none, .simple (.load (some 7) (.tmp 22))⟩,
     ⟨(some 8), none, .simple (.alloc [(.d (.int .i64 0)), (.d (.int .i64 0)), (.d (.int .i64 0)), (.d (.int .i64 0)), (.d (.int .i64 0)), (.d (.int .i64 0)), (.d (.int .i64 0))])⟩,
     ⟨(some 7), none, .simple (.move (.tmp 21))⟩,
     ⟨none, none, .simple (.store 7 (.tmp 8) (.tmp 23))⟩] (some [0, 4, 5, 6, 7, 8, 17, 18, 19]))
   (.seq (.region [
     ⟨(some 9), none, .simple (.move (.const (.int .i64 0)))⟩] (some [0, 4, 5, 6, 7, 8, 9, 17, 18, 19]))
   (.seq (.region [
     ⟨(some 24), none, .simple (.move (.tmp 0))⟩,
     ⟨(some 25), none, .simple (.nilCheck (.tmp 24))⟩,
     ⟨(some 26), none, .simple (.fieldAddr 0 (.tmp 25))⟩,
     ⟨(some 27), none, .simple (.load (some 6) (.tmp 26))⟩,
     ⟨(some 28), none, .simple (.fieldAddr 1 (.tmp 4))⟩,
     ⟨(some 29), none, .simple (.load none (.tmp 28))⟩,
     ⟨(some 30), none, .simple (.move (.tmp 7))⟩,
     ⟨(some 31), none, .simple (.indexS 1 (.tmp 29) (.tmp 30))⟩,
     ⟨(some 32), none, .simple (.load none (.tmp 31))⟩,
     ⟨(some 33), none, .call (.func 82) [(.tmp 27), (.tmp 32)]⟩,
     ⟨(some 10), none, .simple (.move (.tmp 33))⟩] (some [0, 4, 5, 6, 7, 8, 9, 10, 17, 18, 19]))
   (.seq (.region [
     ⟨(some 34), none, .simple (.fieldAddr 0 (.tmp 4))⟩,
     ⟨(some 35), none, .simple (.load none (.tmp 34))⟩,
     ⟨(some 36), none, .simple (.move (.tmp 7))⟩,
     ⟨(some 37), none, .simple (.indexS 1 (.tmp 35) (.tmp 36))⟩,
     ⟨(some 38), none, .simple (.load none (.tmp 37))⟩,
     ⟨(some 39), none, .simple (.fieldAddr 0 (.tmp 5))⟩,
     ⟨(some 40), none, .simple (.load none (.tmp 39))⟩,
     ⟨(some 41), none, .simple (.bin .lss (.tmp 38) (.tmp 40))⟩,
     ⟨(some 42), none, .simple (.move (.tmp 10))⟩,
     ⟨(some 43), none, .simple (.bin .eql (.tmp 42) (.const (.int .i64 (-1))))⟩,
     ⟨(some 44), none, .simple (.move (.tmp 43))⟩,
     ⟨(some 45), (some (44, false)), .simple (.move (.tmp 10))⟩,
     ⟨(some 46), (some (44, false)), .simple (.fieldAddr 1 (.tmp 5))⟩,
     ⟨(some 47), (some (44, false)), .simple (.load none (.tmp 46))⟩,
     ⟨(some 48), (some (44, false)), .simple (.bin .gtr (.tmp 45) (.tmp 47))⟩,
     ⟨(some 49), none, .simple (.pick (.tmp 44) (.const (.bool true)) (.tmp 48))⟩,
     ⟨(some 11), none, .simple (.move (.tmp 41))⟩,
     ⟨(some 12), none, .simple (.move (.tmp 49))⟩] (some [0, 4, 5, 6, 7, 8, 9, 11, 12, 17, 18, 19]))
   (.seq (.block 2 (.seq (.region [
      ⟨(some 51), none, .simple (.move (.tmp 11))⟩,
      ⟨(some 52), none, .simple (.move (.tmp 51))⟩,
      ⟨(some 53), (some (52, true)), .simple (.move (.tmp 12))⟩,
      ⟨(some 54), none, .simple (.pick (.tmp 52) (.tmp 53) (.const (.bool false)))⟩,
      ⟨(some 50), none, .simple (.move (.tmp 54))⟩] (some [0, 4, 5, 6, 7, 8, 9, 11, 12, 17, 18, 19, 50]))
    (.cond (.tmp 50)
     (.region [
       ⟨(some 55), none, .simple (.fieldAddr 2 (.tmp 5))⟩,
       ⟨(some 56), none, .simple (.load none (.tmp 55))⟩,
       ⟨(some 57), none, .simple (.move (.tmp 0))⟩,
       ⟨(some 58), none, .simple (.fieldAddr 2 (.tmp 8))⟩,
       ⟨(some 59), none, .simple (.load none (.tmp 58))⟩,
       ⟨(some 60), none, .simple (.fieldAddr 0 (.tmp 4))⟩,
       ⟨(some 61), none, .simple (.load none (.tmp 60))⟩,
       ⟨(some 62), none, .simple (.move (.tmp 7))⟩,
       ⟨(some 63), none, .simple (.indexS 1 (.tmp 61) (.tmp 62))⟩,
       ⟨(some 64), none, .simple (.load none (.tmp 63))⟩,
       ⟨(some 65), none, .simple (.fieldAddr 1 (.tmp 5))⟩,
       ⟨(some 66), none, .simple (.load none (.tmp 65))⟩,
       ⟨(some 67), none, .simple (.build [(.d (.int .i64 0)), (.d (.int .i64 0))] [(0, 1, (.tmp 64)), (1, 1, (.tmp 66))])⟩,
       ⟨(some 68), none, .callx (.func 94) [(.tmp 57), (.tmp 59), (.tmp 67)]⟩,
       ⟨(some 69), none, .simple (.bin .mul (.tmp 56) (.tmp 68))⟩,
       ⟨(some 9), none, .simple (.move (.tmp 69))⟩] (some [0, 4, 5, 6, 9, 17, 18, 19]))
     (.seq (.region [
       ⟨(some 71), none, .simple (.move (.tmp 11))⟩,
       ⟨(some 72), none, .simple (.un .not (.tmp 71))⟩,
       ⟨(some 73), none, .simple (.move (.tmp 72))⟩,
       ⟨(some 74), (some (73, true)), .simple (.move (.tmp 12))⟩,
       ⟨(some 75), (some (73, true)), .simple (.un .not (.tmp 74))⟩,
       ⟨(some 76), none, .simple (.pick (.tmp 73) (.tmp 75) (.const (.bool false)))⟩,
       ⟨(some 70), none, .simple (.move (.tmp 76))⟩] (some [0, 4, 5, 6, 7, 8, 9, 17, 18, 19, 70]))
     (.cond (.tmp 70)
      (.region [
        ⟨(some 77), none, .simple (.fieldAddr 2 (.tmp 5))⟩,
        ⟨(some 78), none, .simple (.load none (.tmp 77))⟩,
        ⟨(some 79), none, .simple (.un .neg (.tmp 78))⟩,
        ⟨(some 80), none, .simple (.move (.tmp 0))⟩,
        ⟨(some 81), none, .simple (.fieldAddr 2 (.tmp 8))⟩,
        ⟨(some 82), none, .simple (.load none (.tmp 81))⟩,
        ⟨(some 83), none, .simple (.fieldAddr 0 (.tmp 4))⟩,
        ⟨(some 84), none, .simple (.load none (.tmp 83))⟩,
        ⟨(some 85), none, .simple (.move (.tmp 7))⟩,
        ⟨(some 86), none, .simple (.indexS 1 (.tmp 84) (.tmp 85))⟩,
        ⟨(some 87), none, .simple (.load none (.tmp 86))⟩,
        ⟨(some 88), none, .simple (.fieldAddr 1 (.tmp 5))⟩,
        ⟨(some 89), none, .simple (.load none (.tmp 88))⟩,
        ⟨(some 90), none, .simple (.build [(.d (.int .i64 0)), (.d (.int .i64 0))] [(0, 1, (.tmp 87)), (1, 1, (.tmp 89))])⟩,
        ⟨(some 91), none, .callx (.func 94) [(.tmp 80), (.tmp 82), (.tmp 90)]⟩,
        ⟨(some 92), none, .simple (.bin .mul (.tmp 79) (.tmp 91))⟩,
        ⟨(some 9), none, .simple (.move (.tmp 92))⟩] (some [0, 4, 5, 6, 9, 17, 18, 19]))
      .skip)))))
   (.region [
     ⟨(some 93), none, .simple (.move (.tmp 6))⟩,
     ⟨(some 94), none, .simple (.move (.tmp 9))⟩,
     ⟨(some 95), none, .simple (.bslice false 3 1 1 [(.int .i64 0)] [(0, (.tmp 94))])⟩,
     ⟨(some 96), none, .app 3 1 8 (.tmp 93) (.tmp 95)⟩,
     ⟨(some 6), none, .simple (.move (.tmp 96))⟩] (some [0, 4, 5, 6, 17, 18, 19]))))))))
  (.region [
    ⟨(some 97), none, .simple (.bin .add (.tmp 19) (.const (.int .i64 1)))⟩,
    ⟨(some 19), none, .simple (.move (.tmp 97))⟩] (some [0, 4, 5, 6, 17, 18, 19]))))))))
(.seq (.region [
  ⟨(some 98), none, .simple (.move (.tmp 6))⟩,
  ⟨(some 6), none, .simple (.move (.tmp 98))⟩] (some [6]))
.ret)))
theorem k66 : Try.f66.body.bind (compC Try.prog G66) = some c66 := by kernel_rfl
theorem e66 : compRes Try.prog Try.f66.results.toList = some r66 := by kernel_rfl
def F66 : FunX := ⟨false, G66, c66, r66⟩
theorem o66 : FunOk Try.prog 66 F66 := ⟨Try.f66, by kernel_rfl, k66, e66, by kernel_rfl, by kernel_rfl⟩

/-! 67: (*contango/coupon.work).rights; parameters 3, captured 0 -/
def G67 : Cfg := ⟨[], [(0, [0, 4, 5]), (1, [0, 4, 5, 7]), (2, [0, 7, 17, 18, 19]), (3, [0, 7, 17, 18, 19, 20]), (4, [0, 7, 8, 9, 17, 18, 19]), (5, [0, 7, 8, 9, 17, 18, 19]), (6, [0, 7, 17, 18, 19]), (7, [0, 7, 17, 18, 19]), (8, [6])], 56, []⟩
def r67 : List CRes := [.tmp 6]
def c67 : CCode :=
(.seq (.region [
  ⟨(some 4), none, .simple (.box false (.tmp 1))⟩,
  ⟨(some 5), none, .simple (.box false (.tmp 2))⟩,
  ⟨(some 6), none, .simple (.move (.const (.slice none 0 0)))⟩] (some [0, 4, 5]))
(.seq (.region [
  ⟨(some 10), none, .simple (.move (.tmp 0))⟩,
  ⟨(some 11), none, .simple (.load (some 2) (.tmp 4))⟩,
  ⟨(some 12), none, .simple (.load (some 3) (.tmp 5))⟩,
  ⟨(some 13), none, .call (.func 64) [(.tmp 10), (.tmp 11), (.tmp 12)]⟩,
  ⟨(some 7), none, .simple (.move (.tmp 13))⟩] (some [0, 4, 5, 7]))
(.seq (.seq (.region [
  ⟨(some 14), none, .simple (.move (.tmp 0))⟩,
  ⟨(some 15), none, .simple (.load (some 2) (.tmp 4))⟩,
  ⟨(some 16), none, .simple (.load (some 3) (.tmp 5))⟩,
  ⟨(some 17), none, .call (.func 66) [(.tmp 14), (.tmp 15), (.tmp 16)]⟩,
  ⟨(some 18), none, .simple (.len (.tmp 17))⟩,
  ⟨(some 19), none, .simple (.move (.const (.int .i64 0)))⟩] (some [0, 7, 17, 18, 19]))
(.block 0 (.loop (.seq (.region [
    ⟨(some 20), none, .simple (.bin .lss (.tmp 19) (.tmp 18))⟩] (some [0, 7, 17, 18, 19, 20]))
  (.seq (.cond (.tmp 20)
   .skip
   (.exit 0))
  (.seq (.block 1 (.seq (.region [
     ⟨(some 21), none, .simple (.move (.tmp 19))⟩,
     ⟨(some 22), none, .simple (.indexS 1 (.tmp 17) (.tmp 19))⟩,
     ⟨(some 23), none, .simple (.load none (.tmp 22))⟩,
     ⟨(some 8), none, .simple (.move (.tmp 21))⟩,
     ⟨(some 9), none, .simple (.move (.tmp 23))⟩] (some [0, 7, 8, 9, 17, 18, 19]))
   (.seq (.region [
     ⟨(some 24), none, .simple (.move (.tmp 7))⟩,
     ⟨(some 25), none, .simple (.move (.tmp 0))⟩,
     ⟨(some 26), none, .simple (.nilCheck (.tmp 25))⟩,
     ⟨(some 27), none, .simple (.fieldAddr 0 (.tmp 26))⟩,
     ⟨(some 28), none, .simple (.fieldAddr 2 (.tmp 27))⟩,
     ⟨(some 29), none, .simple (.load none (.tmp 28))⟩,
     ⟨(some 30), none, .simple (.move (.tmp 8))⟩,
     ⟨(some 31), none, .simple (.indexS 7 (.tmp 29) (.tmp 30))⟩,
     ⟨(some 32), none, .simple (.fieldAddr 0 (.tmp 31))⟩,
     ⟨(some 33), none, .simple (.load none (.tmp 32))⟩,
     ⟨(some 34), none, .simple (.indexS 1 (.tmp 24) (.tmp 33))⟩,
     ⟨(some 35), none, .simple (.load none (.tmp 34))⟩,
     ⟨(some 36), none, .simple (.move (.tmp 9))⟩,
     ⟨(some 37), none, .simple (.bin .sub (.tmp 35) (.tmp 36))⟩,
     ⟨(some 38), none, .simple (.indexS 1 (.tmp 24) (.tmp 33))⟩,
     ⟨none, none, .simple (.store 1 (.tmp 38) (.tmp 37))⟩] (some [0, 7, 8, 9, 17, 18, 19]))
   (.region [
     ⟨(some 39), none, .simple (.move (.tmp 7))⟩,
     ⟨(some 40), none, .simple (.move (.tmp 0))⟩,
     ⟨(some 41), none, .simple (.nilCheck (.tmp 40))⟩,
     ⟨(some 42), none, .simple (.fieldAddr 0 (.tmp 41))⟩,
     ⟨(some 43), none, .simple (.fieldAddr 2 (.tmp 42))⟩,
     ⟨(some 44), none, .simple (.load none (.tmp 43))⟩,
     ⟨(some 45), none, .simple (.move (.tmp 8))⟩,
     ⟨(some 46), none, .simple (.indexS 7 (.tmp 44) (.tmp 45))⟩,
     ⟨(some 47), none, .simple (.fieldAddr 1 (.tmp 46))⟩,
     ⟨(some 48), none, .simple (.load none (.tmp 47))⟩,
     ⟨(some 49), none, .simple (.indexS 1 (.tmp 39) (.tmp 48))⟩,
     ⟨(some 50), none, .simple (.load none (.tmp 49))⟩,
     ⟨(some 51), none, .simple (.move (.tmp 9))⟩,
     ⟨(some 52), none, .simple (.bin .add (.tmp 50) (.tmp 51))⟩,
     ⟨(some 53), none, .simple (.indexS 1 (.tmp 39) (.tmp 48))⟩,
     ⟨none, none, .simple (.store 1 (.tmp 53) (.tmp 52))⟩] (some [0, 7, 17, 18, 19])))))
  (.region [
    ⟨(some 54), none, .simple (.bin .add (.tmp 19) (.const (.int .i64 1)))⟩,
    ⟨(some 19), none, .simple (.move (.tmp 54))⟩] (some [0, 7, 17, 18, 19]))))))))
(.seq (.region [
  ⟨(some 55), none, .simple (.move (.tmp 7))⟩,
  ⟨(some 6), none, .simple (.move (.tmp 55))⟩] (some [6]))
.ret))))
theorem k67 : Try.f67.body.bind (compC Try.prog G67) = some c67 := by kernel_rfl
theorem e67 : compRes Try.prog Try.f67.results.toList = some r67 := by kernel_rfl
def F67 : FunX := ⟨false, G67, c67, r67⟩
theorem o67 : FunOk Try.prog 67 F67 := ⟨Try.f67, by kernel_rfl, k67, e67, by kernel_rfl, by kernel_rfl⟩

/-! 68: contango/contangoref07.Before; parameters 2, captured 0 -/
def G68 : Cfg := ⟨[], [(0, [0, 1]), (1, [0, 1, 5]), (2, [0, 1, 5, 15]), (4, [0, 1, 5, 26]), (5, [4]), (3, [0, 1, 5]), (6, [4])], 41, []⟩
def r68 : List CRes := [.tmp 4]
def c68 : CCode :=
(.seq (.region [
  ⟨(some 4), none, .simple (.move (.const (.bool false)))⟩] (some [0, 1]))
(.seq (.seq (.region [
  ⟨(some 5), none, .simple (.move (.const (.int .i64 0)))⟩] (some [0, 1, 5]))
(.block 0 (.loop (.seq (.seq (.region [
    ⟨(some 6), none, .simple (.move (.tmp 5))⟩,
    ⟨(some 7), none, .simple (.move (.tmp 0))⟩,
    ⟨(some 8), none, .simple (.len (.tmp 7))⟩,
    ⟨(some 9), none, .simple (.bin .lss (.tmp 6) (.tmp 8))⟩,
    ⟨(some 10), none, .simple (.move (.tmp 9))⟩,
    ⟨(some 11), (some (10, true)), .simple (.move (.tmp 5))⟩,
    ⟨(some 12), (some (10, true)), .simple (.move (.tmp 1))⟩,
    ⟨(some 13), (some (10, true)), .simple (.len (.tmp 12))⟩,
    ⟨(some 14), (some (10, true)), .simple (.bin .lss (.tmp 11) (.tmp 13))⟩,
    ⟨(some 15), none, .simple (.pick (.tmp 10) (.tmp 14) (.const (.bool false)))⟩] (some [0, 1, 5, 15]))
  (.cond (.tmp 15)
   .skip
   (.exit 0)))
  (.seq (.block 1 (.seq (.region [
     ⟨(some 18), none, .simple (.move (.tmp 0))⟩,
     ⟨(some 19), none, .simple (.move (.tmp 5))⟩,
     ⟨(some 20), none, .simple (.indexS 1 (.tmp 18) (.tmp 19))⟩,
     ⟨(some 21), none, .simple (.load none (.tmp 20))⟩,
     ⟨(some 22), none, .simple (.move (.tmp 1))⟩,
     ⟨(some 23), none, .simple (.move (.tmp 5))⟩,
     ⟨(some 24), none, .simple (.indexS 1 (.tmp 22) (.tmp 23))⟩,
     ⟨(some 25), none, .simple (.load none (.tmp 24))⟩,
     ⟨(some 26), none, .simple (.bin .neq (.tmp 21) (.tmp 25))⟩] (some [0, 1, 5, 26]))
   (.cond (.tmp 26)
    (.seq (.region [
      ⟨(some 27), none, .simple (.move (.tmp 0))⟩,
      ⟨(some 28), none, .simple (.move (.tmp 5))⟩,
      ⟨(some 29), none, .simple (.indexS 1 (.tmp 27) (.tmp 28))⟩,
      ⟨(some 30), none, .simple (.load none (.tmp 29))⟩,
      ⟨(some 31), none, .simple (.move (.tmp 1))⟩,
      ⟨(some 32), none, .simple (.move (.tmp 5))⟩,
      ⟨(some 33), none, .simple (.indexS 1 (.tmp 31) (.tmp 32))⟩,
      ⟨(some 34), none, .simple (.load none (.tmp 33))⟩,
      ⟨(some 35), none, .simple (.bin .lss (.tmp 30) (.tmp 34))⟩,
      ⟨(some 4), none, .simple (.move (.tmp 35))⟩] (some [4]))
    .ret)
    .skip)))
  (.region [
    ⟨(some 16), none, .simple (.move (.tmp 5))⟩,
    ⟨(some 17), none, .simple (.bin .add (.tmp 16) (.const (.int .i64 1)))⟩,
    ⟨(some 5), none, .simple (.move (.tmp 17))⟩] (some [0, 1, 5])))))))
(.seq (.region [
  ⟨(some 36), none, .simple (.move (.tmp 0))⟩,
  ⟨(some 37), none, .simple (.len (.tmp 36))⟩,
  ⟨(some 38), none, .simple (.move (.tmp 1))⟩,
  ⟨(some 39), none, .simple (.len (.tmp 38))⟩,
  ⟨(some 40), none, .simple (.bin .lss (.tmp 37) (.tmp 39))⟩,
  ⟨(some 4), none, .simple (.move (.tmp 40))⟩] (some [4]))
.ret)))
theorem k68 : Try.f68.body.bind (compC Try.prog G68) = some c68 := by kernel_rfl
theorem e68 : compRes Try.prog Try.f68.results.toList = some r68 := by kernel_rfl
def F68 : FunX := ⟨false, G68, c68, r68⟩
theorem o68 : FunOk Try.prog 68 F68 := ⟨Try.f68, by kernel_rfl, k68, e68, by kernel_rfl, by kernel_rfl⟩

/-! 71: contango/coupon.within; parameters 3, captured 0 -/
def G71 : Cfg := ⟨[], [(0, [0, 1, 2]), (1, [6])], 15, []⟩
def r71 : List CRes := [.tmp 6]
def c71 : CCode :=
(.seq (.region [
  ⟨(some 6), none, .simple (.move (.const (.bool false)))⟩] (some [0, 1, 2]))
(.seq (.region [
  ⟨(some 7), none, .simple (.move (.tmp 1))⟩,
  ⟨(some 8), none, .simple (.move (.tmp 0))⟩,
  ⟨(some 9), none, .simple (.bin .leq (.tmp 7) (.tmp 8))⟩,
  ⟨(some 10), none, .simple (.move (.tmp 9))⟩,
  ⟨(some 11), (some (10, true)), .simple (.move (.tmp 0))⟩,
  ⟨(some 12), (some (10, true)), .simple (.move (.tmp 2))⟩,
  ⟨(some 13), (some (10, true)), .simple (.bin .leq (.tmp 11) (.tmp 12))⟩,
  ⟨(some 14), none, .simple (.pick (.tmp 10) (.tmp 13) (.const (.bool false)))⟩,
  ⟨(some 6), none, .simple (.move (.tmp 14))⟩] (some [6]))
.ret))
theorem k71 : Try.f71.body.bind (compC Try.prog G71) = some c71 := by kernel_rfl
theorem e71 : compRes Try.prog Try.f71.results.toList = some r71 := by kernel_rfl
def F71 : FunX := ⟨false, G71, c71, r71⟩
theorem o71 : FunOk Try.prog 71 F71 := ⟨Try.f71, by kernel_rfl, k71, e71, by kernel_rfl, by kernel_rfl⟩

/-! 72: (contango/coupon.Company).work; parameters 1, captured 0 -/
def G72 : Cfg := ⟨[6], [(0, [1]), (1, [2])], 7, []⟩
def r72 : List CRes := [.tmp 2]
def c72 : CCode :=
(.seq (.region [
  ⟨(some 1), none, .simple (.box false (.tmp 0))⟩,
  ⟨(some 2), none, .simple (.move (.const (.pointer none)))⟩] (some [1]))
(.seq (.region [
  ⟨(some 3), none, .simple (.load (some 6) (.tmp 1))⟩,
  ⟨(some 4), none, .simple (.mkmap)⟩,
  ⟨(some 5), none, .simple (.build [(.d (.int .i64 0)), (.d .nils), (.d .nils), (.d .nils), (.d .nils), (.d .nils), (.d .any)] [(0, 6, (.tmp 3)), (6, 1, (.tmp 4))])⟩,
  ⟨(some 6), none, .simple (.box true (.tmp 5))⟩,
  ⟨(some 2), none, .simple (.move (.tmp 6))⟩] (some [2]))
.ret))
theorem k72 : Try.f72.body.bind (compC Try.prog G72) = some c72 := by kernel_rfl
theorem e72 : compRes Try.prog Try.f72.results.toList = some r72 := by kernel_rfl
def F72 : FunX := ⟨false, G72, c72, r72⟩
theorem o72 : FunOk Try.prog 72 F72 := ⟨Try.f72, by kernel_rfl, k72, e72, by kernel_rfl, by kernel_rfl⟩

/-! 73: (*contango/coupon.work).bounds; parameters 3, captured 0 -/
def G73 : Cfg := ⟨[3, 33, 8, 6, 7], [(0, [3, 4, 5, 6, 7, 13]), (1, [3, 4, 5, 6, 7, 12, 13]), (2, [3, 4, 5, 6, 7, 8]), (3, [6, 7, 19, 20, 21]), (4, [6, 7, 19, 20, 21, 22]), (5, [6, 7, 9, 10, 19, 20, 21]), (6, [6, 7, 9, 10, 19, 20, 21, 27]), (7, [6, 7, 9, 10, 19, 20, 21]), (8, [6, 7, 19, 20, 21]), (9, [6, 7, 19, 20, 21]), (10, []), (11, [6, 7])], 56, []⟩
def r73 : List CRes := [.cell 6 none, .cell 7 none]
def c73 : CCode :=
(.seq (.region [
  ⟨(some 3), none, .simple (.box true (.tmp 0))⟩,
  ⟨(some 4), none, .simple (.box false (.tmp 1))⟩,
  ⟨(some 5), none, .simple (.box false (.tmp 2))⟩,
  ⟨(some 6), none, .simple (.alloc [(.d .nils)])⟩,
  ⟨(some 7), none, .simple (.alloc [(.d (.bool false))])⟩] (some [3, 4, 5, 6, 7, 13]))
(.seq (.seq (.region [
  ⟨(some 11), none, .simple (.load none (.tmp 3))⟩,
  ⟨(some 12), none, .call (.func 95) [(.tmp 11)]⟩] (some [3, 4, 5, 6, 7, 12, 13]))
(.block 0 (.rangeF (.tmp 12) [13]
  (.region [
    ⟨(some 8), none, .simple (.alloc [(.d .nils), (.d .nils)])⟩,
    ⟨none, none, .simple (.store 2 (.tmp 8) (.tmp 13))⟩] (some [3, 4, 5, 6, 7, 8]))
  (.block 1 (.seq (.seq (.region [
     ⟨(some 14), none, .simple (.fieldAddr 0 (.tmp 4))⟩,
     ⟨(some 15), none, .simple (.load none (.tmp 14))⟩,
     ⟨(some 16), none, .simple (.load none (.tmp 3))⟩,
     ⟨(some 17), none, .simple (.load (some 2) (.tmp 8))⟩,
     ⟨(some 18), none, .simple (.load (some 3) (.tmp 5))⟩,
     ⟨(some 19), none, .call (.tmp 15) [(.tmp 16), (.tmp 17), (.tmp 18)]⟩,
     ⟨(some 20), none, .simple (.len (.tmp 19))⟩,
     ⟨(some 21), none, .simple (.move (.const (.int .i64 0)))⟩] (some [6, 7, 19, 20, 21]))
   (.block 2 (.loop (.seq (.region [
       ⟨(some 22), none, .simple (.bin .lss (.tmp 21) (.tmp 20))⟩] (some [6, 7, 19, 20, 21, 22]))
     (.seq (.cond (.tmp 22)
      .skip
      (.exit 2))
     (.seq (.block 3 (.seq (.region [
        ⟨(some 23), none, .simple (.move (.tmp 21))⟩,
        ⟨(some 24), none, .simple (.indexS 1 (.tmp 19) (.tmp 21))⟩,
        ⟨(some 25), none, .simple (.load none (.tmp 24))⟩,
        ⟨(some 9), none, .simple (.move (.tmp 23))⟩,
        ⟨(some 10), none, .simple (.move (.tmp 25))⟩] (some [6, 7, 9, 10, 19, 20, 21]))
      (.seq (.seq (.region [
        ⟨(some 26), none, .simple (.load none (.tmp 7))⟩,
        ⟨(some 27), none, .simple (.un .not (.tmp 26))⟩] (some [6, 7, 9, 10, 19, 20, 21, 27]))
      (.cond (.tmp 27)
       (.region [
         ⟨(some 28), none, .simple (.load none (.tmp 6))⟩,
         ⟨(some 29), none, .simple (.move (.tmp 10))⟩,
         ⟨(some 30), none, .simple (.move (.tmp 10))⟩,
         ⟨(some 31), none, .simple (.build [(.d (.int .i64 0)), (.d (.int .i64 0))] [(0, 1, (.tmp 29)), (1, 1, (.tmp 30))])⟩,
         ⟨(some 32), none, .simple (.bslice false 71 2 1 [(.int .i64 0), (.int .i64 0)] [(0, (.tmp 31))])⟩,
         ⟨(some 33), none, .app 71 2 16 (.tmp 28) (.tmp 32)⟩,
         ⟨none, none, .simple (.store 1 (.tmp 6) (.tmp 33))⟩] (some [6, 7, 9, 10, 19, 20, 21]))
       .skip))
      (.region [
        ⟨(some 34), none, .simple (.load none (.tmp 6))⟩,
        ⟨(some 35), none, .simple (.move (.tmp 9))⟩,
        ⟨(some 36), none, .simple (.load none (.tmp 6))⟩,
        ⟨(some 37), none, .simple (.move (.tmp 9))⟩,
        ⟨(some 38), none, .simple (.indexS 2 (.tmp 36) (.tmp 37))⟩,
        ⟨(some 39), none, .simple (.fieldAddr 0 (.tmp 38))⟩,
        ⟨(some 40), none, .simple (.load none (.tmp 39))⟩,
        ⟨(some 41), none, .simple (.move (.tmp 10))⟩,
        ⟨(some 42), none, .simple (.bslice false 3 1 2 [(.int .i64 0), (.int .i64 0)] [(0, (.tmp 40)), (1, (.tmp 41))])⟩,
        ⟨(some 44), none, .simple (.load none (.tmp 6))⟩,
        ⟨(some 45), none, .simple (.move (.tmp 9))⟩,
        ⟨(some 46), none, .simple (.indexS 2 (.tmp 44) (.tmp 45))⟩,
        ⟨(some 47), none, .simple (.fieldAddr 1 (.tmp 46))⟩,
        ⟨(some 48), none, .simple (.load none (.tmp 47))⟩,
        ⟨(some 49), none, .simple (.move (.tmp 10))⟩,
        ⟨(some 50), none, .simple (.max [(.tmp 48), (.tmp 49)])⟩,
        ⟨(some 43), none, .callx (.func 96) [(.tmp 42)]⟩,
        ⟨(some 51), none, .simple (.build [(.d (.int .i64 0)), (.d (.int .i64 0))] [(0, 1, (.tmp 43)), (1, 1, (.tmp 50))])⟩,
        ⟨(some 52), none, .simple (.indexS 2 (.tmp 34) (.tmp 35))⟩,
        ⟨none, none, .simple (.store 2 (.tmp 52) (.tmp 51))⟩] (some [6, 7, 19, 20, 21])))))
     (.region [
       ⟨(some 53), none, .simple (.bin .add (.tmp 21) (.const (.int .i64 1)))⟩,
       ⟨(some 21), none, .simple (.move (.tmp 53))⟩] (some [6, 7, 19, 20, 21]))))))))
   (.region [
     ⟨none, none, .simple (.store 1 (.tmp 7) (.const (.bool true)))⟩] (some [])))))))
(.seq (.seq (.region [
  ⟨(some 54), none, .simple (.load none (.tmp 6))⟩] none)
(.both (.region [
   ⟨(some 55), none, .simple (.load none (.tmp 7))⟩,
   ⟨none, none, .simple (.store 1 (.tmp 6) (.tmp 54))⟩,
   ⟨none, none, .simple (.store 1 (.tmp 7) (.tmp 55))⟩] (some [6, 7]))
 (.region [
   ⟨none, none, .simple (.store 1 (.tmp 6) (.tmp 54))⟩,
   ⟨(some 55), none, .simple (.load none (.tmp 7))⟩,
   ⟨none, none, .simple (.store 1 (.tmp 7) (.tmp 55))⟩] (some [6, 7]))))
.ret)))
theorem k73 : Try.f73.body.bind (compC Try.prog G73) = some c73 := by kernel_rfl
theorem e73 : compRes Try.prog Try.f73.results.toList = some r73 := by kernel_rfl
def F73 : FunX := ⟨false, G73, c73, r73⟩
theorem o73 : FunOk Try.prog 73 F73 := ⟨Try.f73, by kernel_rfl, k73, e73, by kernel_rfl, by kernel_rfl⟩

end Go.Proofs.Ytdnefcjbcieecaa
