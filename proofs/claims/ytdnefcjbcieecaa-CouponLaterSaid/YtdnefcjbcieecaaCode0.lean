import Derived.Test.YtdnefcjbcieecaaCoreX
import Derived.Test.YtdnefcjbcieecaaProg
import Derived.KernelRfl
namespace Go.Proofs.Ytdnefcjbcieecaa
open Go Go.Proofs

/-! 18: contango/contangolaw07.awake; parameters 0, captured 0 -/
def G18 : Cfg := ⟨[], [(0, []), (1, [1, 2]), (2, [1, 2, 3, 4, 5]), (3, [1, 2, 3, 4, 5, 6, 7]), (4, [1, 2, 3, 4, 5, 6, 7, 8, 9]), (5, [1, 2, 3, 4, 5, 6, 7, 8, 9, 10, 11]), (6, [1, 2, 3, 4, 5, 6, 7, 8, 9, 10, 11, 12, 13, 14, 15]), (7, [1, 2, 3, 4, 5, 6, 7, 8, 9, 10, 11, 12, 13, 14, 15, 16, 17]), (8, [0])], 156, []⟩
def r18 : List CRes := [.tmp 0]
def c18 : CCode :=
(.seq (.region [
  ⟨(some 0), none, .simple (.move (.const (.bool false)))⟩] (some []))
(.seq (.region [
  ⟨(some 19), none, .call (.func 53) [(.const (.int .i64 4))]⟩,
  ⟨(some 20), none, .call (.func 50) [(.tmp 19), (.const (.int .i64 5))]⟩,
  ⟨(some 18), none, .simple (.move (.tmp 20))⟩,
  ⟨(some 21), none, .simple (.extract (.tmp 18) 0)⟩,
  ⟨(some 22), none, .simple (.extract (.tmp 18) 1)⟩,
  ⟨(some 1), none, .simple (.move (.tmp 21))⟩,
  ⟨(some 2), none, .simple (.move (.tmp 22))⟩] (some [1, 2]))
(.seq (.region [
  ⟨(some 24), none, .call (.func 53) [(.const (.int .i64 4))]⟩,
  ⟨(some 25), none, .call (.func 54) [(.const (.int .i64 2)), (.const (.int .i64 4))]⟩,
  ⟨(some 26), none, .call (.func 19) [(.tmp 24), (.tmp 25), (.const (.int .i64 4))]⟩,
  ⟨(some 23), none, .simple (.move (.tmp 26))⟩,
  ⟨(some 27), none, .simple (.extract (.tmp 23) 0)⟩,
  ⟨(some 28), none, .simple (.extract (.tmp 23) 1)⟩,
  ⟨(some 29), none, .simple (.extract (.tmp 23) 2)⟩,
  ⟨(some 3), none, .simple (.move (.tmp 27))⟩,
  ⟨(some 4), none, .simple (.move (.tmp 28))⟩,
  ⟨(some 5), none, .simple (.move (.tmp 29))⟩] (some [1, 2, 3, 4, 5]))
(.seq (.region [
  ⟨(some 31), none, .call (.func 53) [(.const (.int .i64 4))]⟩,
  ⟨(some 32), none, .call (.func 54) [(.const (.int .i64 2)), (.const (.int .i64 5))]⟩,
  ⟨(some 33), none, .call (.func 25) [(.tmp 31), (.tmp 32), (.const (.int .i64 0))]⟩,
  ⟨(some 30), none, .simple (.move (.tmp 33))⟩,
  ⟨(some 34), none, .simple (.extract (.tmp 30) 0)⟩,
  ⟨(some 35), none, .simple (.extract (.tmp 30) 1)⟩,
  ⟨(some 6), none, .simple (.move (.tmp 34))⟩,
  ⟨(some 7), none, .simple (.move (.tmp 35))⟩] (some [1, 2, 3, 4, 5, 6, 7]))
(.seq (.region [
  ⟨(some 37), none, .call (.func 53) [(.const (.int .i64 4))]⟩,
  ⟨(some 38), none, .call (.func 54) [(.const (.int .i64 3)), (.const (.int .i64 4))]⟩,
  ⟨(some 39), none, .call (.func 26) [(.tmp 37), (.tmp 38), (.const (.int .i64 0))]⟩,
  ⟨(some 36), none, .simple (.move (.tmp 39))⟩,
  ⟨(some 40), none, .simple (.extract (.tmp 36) 0)⟩,
  ⟨(some 41), none, .simple (.extract (.tmp 36) 1)⟩,
  ⟨(some 8), none, .simple (.move (.tmp 40))⟩,
  ⟨(some 9), none, .simple (.move (.tmp 41))⟩] (some [1, 2, 3, 4, 5, 6, 7, 8, 9]))
(.seq (.region [
  ⟨(some 43), none, .call (.func 53) [(.const (.int .i64 4))]⟩,
  ⟨(some 44), none, .call (.func 54) [(.const (.int .i64 2)), (.const (.int .i64 5))]⟩,
  ⟨(some 45), none, .call (.func 27) [(.tmp 43), (.tmp 44), (.const (.int .i64 0))]⟩,
  ⟨(some 42), none, .simple (.move (.tmp 45))⟩,
  ⟨(some 46), none, .simple (.extract (.tmp 42) 0)⟩,
  ⟨(some 47), none, .simple (.extract (.tmp 42) 1)⟩,
  ⟨(some 10), none, .simple (.move (.tmp 46))⟩,
  ⟨(some 11), none, .simple (.move (.tmp 47))⟩] (some [1, 2, 3, 4, 5, 6, 7, 8, 9, 10, 11]))
(.seq (.region [
  ⟨(some 49), none, .call (.func 53) [(.const (.int .i64 4))]⟩,
  ⟨(some 50), none, .call (.func 33) [(.tmp 49), (.const (.int .i64 0))]⟩,
  ⟨(some 48), none, .simple (.move (.tmp 50))⟩,
  ⟨(some 51), none, .simple (.extract (.tmp 48) 0)⟩,
  ⟨(some 52), none, .simple (.extract (.tmp 48) 1)⟩,
  ⟨(some 53), none, .simple (.extract (.tmp 48) 2)⟩,
  ⟨(some 54), none, .simple (.extract (.tmp 48) 3)⟩,
  ⟨(some 12), none, .simple (.move (.tmp 51))⟩,
  ⟨(some 13), none, .simple (.move (.tmp 52))⟩,
  ⟨(some 14), none, .simple (.move (.tmp 53))⟩,
  ⟨(some 15), none, .simple (.move (.tmp 54))⟩] (some [1, 2, 3, 4, 5, 6, 7, 8, 9, 10, 11, 12, 13, 14, 15]))
(.seq (.region [
  ⟨(some 56), none, .call (.func 53) [(.const (.int .i64 11))]⟩,
  ⟨(some 57), none, .call (.func 38) [(.tmp 56)]⟩,
  ⟨(some 55), none, .simple (.move (.tmp 57))⟩,
  ⟨(some 58), none, .simple (.extract (.tmp 55) 0)⟩,
  ⟨(some 59), none, .simple (.extract (.tmp 55) 1)⟩,
  ⟨(some 16), none, .simple (.move (.tmp 58))⟩,
  ⟨(some 17), none, .simple (.move (.tmp 59))⟩] (some [1, 2, 3, 4, 5, 6, 7, 8, 9, 10, 11, 12, 13, 14, 15, 16, 17]))
(.seq (.region [
  ⟨(some 60), none, .simple (.move (.tmp 2))⟩,
  ⟨(some 61), none, .simple (.bin .eql (.tmp 60) (.const (.int .i64 0)))⟩,
  ⟨(some 62), none, .simple (.move (.tmp 61))⟩,
  ⟨(some 63), (some (62, true)), .simple (.move (.tmp 1))⟩,
  ⟨(some 64), (some (62, true)), .simple (.bin .eql (.tmp 63) (.const (.int .i64 7)))⟩,
  ⟨(some 65), none, .simple (.pick (.tmp 62) (.tmp 64) (.const (.bool false)))⟩,
  ⟨(some 66), none, .simple (.move (.tmp 65))⟩,
  ⟨(some 67), (some (66, true)), .simple (.move (.tmp 5))⟩,
  ⟨(some 68), (some (66, true)), .simple (.bin .eql (.tmp 67) (.const (.int .i64 0)))⟩,
  ⟨(some 69), none, .simple (.pick (.tmp 66) (.tmp 68) (.const (.bool false)))⟩,
  ⟨(some 70), none, .simple (.move (.tmp 69))⟩,
  ⟨(some 71), (some (70, true)), .simple (.move (.tmp 3))⟩,
  ⟨(some 72), (some (70, true)), .simple (.bslice false 3 1 2 [(.int .i64 0), (.int .i64 0)] [(0, (.const (.int .i64 9))), (1, (.const (.int .i64 6)))])⟩,
  ⟨(some 73), (some (70, true)), .call (.func 28) [(.tmp 71), (.tmp 72)]⟩,
  ⟨(some 74), none, .simple (.pick (.tmp 70) (.tmp 73) (.const (.bool false)))⟩,
  ⟨(some 75), none, .simple (.move (.tmp 74))⟩,
  ⟨(some 76), (some (75, true)), .simple (.move (.tmp 4))⟩,
  ⟨(some 77), (some (75, true)), .simple (.bslice false 3 1 2 [(.int .i64 0), (.int .i64 0)] [(0, (.const (.int .i64 0))), (1, (.const (.int .i64 0)))])⟩,
  ⟨(some 78), (some (75, true)), .call (.func 28) [(.tmp 76), (.tmp 77)]⟩,
  ⟨(some 79), none, .simple (.pick (.tmp 75) (.tmp 78) (.const (.bool false)))⟩,
  ⟨(some 80), none, .simple (.move (.tmp 79))⟩,
  ⟨(some 81), (some (80, true)), .simple (.move (.tmp 7))⟩,
  ⟨(some 82), (some (80, true)), .simple (.bin .eql (.tmp 81) (.const (.int .i64 0)))⟩,
  ⟨(some 83), none, .simple (.pick (.tmp 80) (.tmp 82) (.const (.bool false)))⟩,
  ⟨(some 84), none, .simple (.move (.tmp 83))⟩,
  ⟨(some 85), (some (84, true)), .simple (.move (.tmp 6))⟩,
  ⟨(some 86), (some (84, true)), .simple (.bslice false 3 1 2 [(.int .i64 0), (.int .i64 0)] [(0, (.const (.int .i64 54000))), (1, (.const (.int .i64 0)))])⟩,
  ⟨(some 87), (some (84, true)), .call (.func 28) [(.tmp 85), (.tmp 86)]⟩,
  ⟨(some 88), none, .simple (.pick (.tmp 84) (.tmp 87) (.const (.bool false)))⟩,
  ⟨(some 89), none, .simple (.move (.tmp 88))⟩,
  ⟨(some 90), (some (89, true)), .simple (.move (.tmp 9))⟩,
  ⟨(some 91), (some (89, true)), .simple (.bin .eql (.tmp 90) (.const (.int .i64 0)))⟩,
  ⟨(some 92), none, .simple (.pick (.tmp 89) (.tmp 91) (.const (.bool false)))⟩,
  ⟨(some 93), none, .simple (.move (.tmp 92))⟩,
  ⟨(some 94), (some (93, true)), .simple (.move (.tmp 8))⟩,
  ⟨(some 95), (some (93, true)), .simple (.bslice false 3 1 1 [(.int .i64 0)] [(0, (.const (.int .i64 (-21600))))])⟩,
  ⟨(some 96), (some (93, true)), .call (.func 28) [(.tmp 94), (.tmp 95)]⟩,
  ⟨(some 97), none, .simple (.pick (.tmp 93) (.tmp 96) (.const (.bool false)))⟩,
  ⟨(some 98), none, .simple (.move (.tmp 97))⟩,
  ⟨(some 99), (some (98, true)), .simple (.move (.tmp 11))⟩,
  ⟨(some 100), (some (98, true)), .simple (.bin .eql (.tmp 99) (.const (.int .i64 0)))⟩,
  ⟨(some 101), none, .simple (.pick (.tmp 98) (.tmp 100) (.const (.bool false)))⟩,
  ⟨(some 102), none, .simple (.move (.tmp 101))⟩,
  ⟨(some 103), (some (102, true)), .simple (.move (.tmp 10))⟩,
  ⟨(some 104), (some (102, true)), .simple (.bslice false 3 1 2 [(.int .i64 0), (.int .i64 0)] [(0, (.const (.int .i64 32400))), (1, (.const (.int .i64 21600)))])⟩,
  ⟨(some 105), (some (102, true)), .call (.func 28) [(.tmp 103), (.tmp 104)]⟩,
  ⟨(some 106), none, .simple (.pick (.tmp 102) (.tmp 105) (.const (.bool false)))⟩,
  ⟨(some 107), none, .simple (.move (.tmp 106))⟩,
  ⟨(some 108), (some (107, true)), .simple (.move (.tmp 15))⟩,
  ⟨(some 109), (some (107, true)), .simple (.bin .eql (.tmp 108) (.const (.int .i64 0)))⟩,
  ⟨(some 110), none, .simple (.pick (.tmp 107) (.tmp 109) (.const (.bool false)))⟩,
  ⟨(some 111), none, .simple (.move (.tmp 110))⟩,
  ⟨(some 112), (some (111, true)), .simple (.move (.tmp 12))⟩,
  ⟨(some 113), (some (111, true)), .simple (.len (.tmp 112))⟩,
  ⟨(some 114), (some (111, true)), .simple (.bin .eql (.tmp 113) (.const (.int .i64 2)))⟩,
  ⟨(some 115), none, .simple (.pick (.tmp 111) (.tmp 114) (.const (.bool false)))⟩,
  ⟨(some 116), none, .simple (.move (.tmp 115))⟩,
  ⟨(some 117), (some (116, true)), .simple (.move (.tmp 12))⟩,
  ⟨(some 118), (some (116, true)), .simple (.indexS 2 (.tmp 117) (.const (.int .i64 0)))⟩,
  ⟨(some 119), (some (116, true)), .simple (.load (some 2) (.tmp 118))⟩,
  ⟨(some 120), (some (116, true)), .callx (.func 55) [(.const (.int .i64 32400)), (.const (.int .i64 54000))]⟩,
  ⟨(some 121), (some (116, true)), .simple (.eqA false [(.int .i64), (.int .i64)] (.tmp 119) (.tmp 120))⟩,
  ⟨(some 122), none, .simple (.pick (.tmp 116) (.tmp 121) (.const (.bool false)))⟩,
  ⟨(some 123), none, .simple (.move (.tmp 122))⟩,
  ⟨(some 124), (some (123, true)), .simple (.move (.tmp 13))⟩,
  ⟨(some 125), (some (123, true)), .simple (.len (.tmp 124))⟩,
  ⟨(some 126), (some (123, true)), .simple (.bin .eql (.tmp 125) (.const (.int .i64 1)))⟩,
  ⟨(some 127), none, .simple (.pick (.tmp 123) (.tmp 126) (.const (.bool false)))⟩,
  ⟨(some 128), none, .simple (.move (.tmp 127))⟩,
  ⟨(some 129), (some (128, true)), .simple (.move (.tmp 13))⟩,
  ⟨(some 130), (some (128, true)), .simple (.indexS 2 (.tmp 129) (.const (.int .i64 0)))⟩,
  ⟨(some 131), (some (128, true)), .simple (.load (some 2) (.tmp 130))⟩,
  ⟨(some 132), (some (128, true)), .callx (.func 55) [(.const (.int .i64 (-21600))), (.const (.int .i64 21600))]⟩,
  ⟨(some 133), (some (128, true)), .simple (.eqA false [(.int .i64), (.int .i64)] (.tmp 131) (.tmp 132))⟩,
  ⟨(some 134), none, .simple (.pick (.tmp 128) (.tmp 133) (.const (.bool false)))⟩,
  ⟨(some 135), none, .simple (.move (.tmp 134))⟩,
  ⟨(some 136), (some (135, true)), .simple (.move (.tmp 14))⟩,
  ⟨(some 137), (some (135, true)), .simple (.len (.tmp 136))⟩,
  ⟨(some 138), (some (135, true)), .simple (.bin .eql (.tmp 137) (.const (.int .i64 2)))⟩,
  ⟨(some 139), none, .simple (.pick (.tmp 135) (.tmp 138) (.const (.bool false)))⟩,
  ⟨(some 140), none, .simple (.move (.tmp 139))⟩,
  ⟨(some 141), (some (140, true)), .simple (.move (.tmp 14))⟩,
  ⟨(some 142), (some (140, true)), .simple (.indexS 2 (.tmp 141) (.const (.int .i64 1)))⟩,
  ⟨(some 143), (some (140, true)), .simple (.load (some 2) (.tmp 142))⟩,
  ⟨(some 144), (some (140, true)), .callx (.func 55) [(.const (.int .i64 0)), (.const (.int .i64 21600))]⟩,
  ⟨(some 145), (some (140, true)), .simple (.eqA false [(.int .i64), (.int .i64)] (.tmp 143) (.tmp 144))⟩,
  ⟨(some 146), none, .simple (.pick (.tmp 140) (.tmp 145) (.const (.bool false)))⟩,
  ⟨(some 147), none, .simple (.move (.tmp 146))⟩,
  ⟨(some 148), (some (147, true)), .simple (.move (.tmp 17))⟩,
  ⟨(some 149), (some (147, true)), .simple (.bin .eql (.tmp 148) (.const (.int .i64 0)))⟩,
  ⟨(some 150), none, .simple (.pick (.tmp 147) (.tmp 149) (.const (.bool false)))⟩,
  ⟨(some 151), none, .simple (.move (.tmp 150))⟩,
  ⟨(some 152), (some (151, true)), .simple (.move (.tmp 16))⟩,
  ⟨(some 153), (some (151, true)), .simple (.bslice false 3 1 1 [(.int .i64 0)] [(0, (.const (.int .i64 0)))])⟩,
  ⟨(some 154), (some (151, true)), .call (.func 28) [(.tmp 152), (.tmp 153)]⟩,
  ⟨(some 155), none, .simple (.pick (.tmp 151) (.tmp 154) (.const (.bool false)))⟩,
  ⟨(some 0), none, .simple (.move (.tmp 155))⟩] (some [0]))
.ret)))))))))
theorem k18 : Try.f18.body.bind (compC Try.prog G18) = some c18 := by kernel_rfl
theorem e18 : compRes Try.prog Try.f18.results.toList = some r18 := by kernel_rfl
def F18 : FunX := ⟨false, G18, c18, r18⟩
theorem o18 : FunOk Try.prog 18 F18 := ⟨Try.f18, by kernel_rfl, k18, e18, by kernel_rfl, by kernel_rfl⟩

/-! 19: contango/coupon.Whole; parameters 3, captured 0 -/
def G19 : Cfg := ⟨[46, 41, 10], [(0, [2, 3, 4, 6, 7]), (1, [2, 3, 4, 6, 7, 8, 9]), (2, [2, 3, 4, 6, 7, 8, 9, 20]), (3, [6, 7, 8]), (4, [2, 3, 4, 6, 7, 9, 24]), (5, [6, 7, 8]), (6, [3, 6, 7, 10]), (7, [6, 7, 31, 32, 33]), (8, [6, 7, 31, 32, 33, 34]), (9, [6, 7, 12, 31, 32, 33]), (10, [6, 7, 31, 32, 33]), (11, [6, 7, 31, 32, 33]), (12, [6, 7, 8])], 50, [(7, [(10, none)])]⟩
def r19 : List CRes := [.tmp 6, .tmp 7, .tmp 8]
def c19 : CCode :=
(.seq (.region [
  ⟨(some 3), none, .simple (.box false (.tmp 0))⟩,
  ⟨(some 4), none, .simple (.box false (.tmp 1))⟩,
  ⟨(some 6), none, .simple (.move (.const (.slice none 0 0)))⟩,
  ⟨(some 7), none, .simple (.move (.const (.slice none 0 0)))⟩,
  ⟨(some 8), none, .simple (.move (.const (.int .i64 0)))⟩] (some [2, 3, 4, 6, 7]))
(.seq (.region [
  ⟨(some 14), none, .simple (.load (some 6) (.tmp 3))⟩,
  ⟨(some 15), none, .simple (.load (some 2) (.tmp 4))⟩,
  ⟨(some 16), none, .call (.func 58) [(.tmp 14), (.tmp 15)]⟩,
  ⟨(some 13), none, .simple (.move (.tmp 16))⟩,
  ⟨(some 17), none, .simple (.extract (.tmp 13) 0)⟩,
  ⟨(some 18), none, .simple (.extract (.tmp 13) 1)⟩,
  ⟨(some 9), none, .simple (.move (.tmp 17))⟩,
  ⟨(some 8), none, .simple (.move (.tmp 18))⟩] (some [2, 3, 4, 6, 7, 8, 9]))
(.seq (.seq (.region [
  ⟨(some 19), none, .simple (.move (.tmp 8))⟩,
  ⟨(some 20), none, .simple (.bin .neq (.tmp 19) (.const (.int .i64 0)))⟩] (some [2, 3, 4, 6, 7, 8, 9, 20]))
(.cond (.tmp 20)
 (.seq (.region [
   ⟨(some 21), none, .simple (.move (.tmp 8))⟩,
   ⟨(some 6), none, .simple (.move (.const (.slice none 0 0)))⟩,
   ⟨(some 7), none, .simple (.move (.const (.slice none 0 0)))⟩,
   ⟨(some 8), none, .simple (.move (.tmp 21))⟩] (some [6, 7, 8]))
 .ret)
 .skip))
(.seq (.seq (.region [
  ⟨(some 22), none, .simple (.move (.tmp 2))⟩,
  ⟨(some 23), none, .call (.func 59) [(.tmp 22)]⟩,
  ⟨(some 24), none, .simple (.un .not (.tmp 23))⟩] (some [2, 3, 4, 6, 7, 9, 24]))
(.cond (.tmp 24)
 (.seq (.region [
   ⟨(some 6), none, .simple (.move (.const (.slice none 0 0)))⟩,
   ⟨(some 7), none, .simple (.move (.const (.slice none 0 0)))⟩,
   ⟨(some 8), none, .simple (.move (.const (.int .i64 2)))⟩] (some [6, 7, 8]))
 .ret)
 .skip))
(.seq (.region [
  ⟨(some 25), none, .simple (.move (.tmp 9))⟩,
  ⟨(some 26), none, .simple (.load (some 2) (.tmp 4))⟩,
  ⟨(some 27), none, .simple (.move (.tmp 2))⟩,
  ⟨(some 28), none, .call (.func 60) [(.tmp 25), (.tmp 26), (.tmp 27)]⟩,
  ⟨(some 10), none, .simple (.alloc [(.d (.int .i64 0)), (.d (.int .i64 0)), (.d (.int .i64 0)), (.d (.int .i64 0))])⟩,
  ⟨none, none, .simple (.store 4 (.tmp 10) (.tmp 28))⟩] (some [3, 6, 7, 10]))
(.seq (.seq (.seq (.frz (10, none))
(.region [
  ⟨(some 29), none, .simple (.fieldAddr 0 (.tmp 3))⟩,
  ⟨(some 30), none, .simple (.load none (.tmp 29))⟩,
  ⟨(some 31), none, .simple (.sliceA 4 1 (.tmp 10) none (some (.tmp 30)))⟩,
  ⟨(some 32), none, .simple (.len (.tmp 31))⟩,
  ⟨(some 33), none, .simple (.move (.const (.int .i64 0)))⟩] (some [6, 7, 31, 32, 33])))
(.block 0 (.loop (.seq (.region [
    ⟨(some 34), none, .simple (.bin .lss (.tmp 33) (.tmp 32))⟩] (some [6, 7, 31, 32, 33, 34]))
  (.seq (.cond (.tmp 34)
   .skip
   (.exit 0))
  (.seq (.block 1 (.seq (.region [
     ⟨(some 35), none, .simple (.indexS 1 (.tmp 31) (.tmp 33))⟩,
     ⟨(some 36), none, .simple (.load none (.tmp 35))⟩,
     ⟨(some 12), none, .simple (.move (.tmp 36))⟩] (some [6, 7, 12, 31, 32, 33]))
   (.region [
     ⟨(some 37), none, .simple (.move (.tmp 6))⟩,
     ⟨(some 38), none, .simple (.move (.tmp 12))⟩,
     ⟨(some 39), none, .simple (.bin .quo (.tmp 38) (.const (.int .i64 720)))⟩,
     ⟨(some 40), none, .simple (.bslice false 3 1 1 [(.int .i64 0)] [(0, (.tmp 39))])⟩,
     ⟨(some 41), none, .app 3 1 8 (.tmp 37) (.tmp 40)⟩,
     ⟨(some 42), none, .simple (.move (.tmp 7))⟩,
     ⟨(some 43), none, .simple (.move (.tmp 12))⟩,
     ⟨(some 44), none, .simple (.bin .rem (.tmp 43) (.const (.int .i64 720)))⟩,
     ⟨(some 45), none, .simple (.bslice false 3 1 1 [(.int .i64 0)] [(0, (.tmp 44))])⟩,
     ⟨(some 46), none, .app 3 1 8 (.tmp 42) (.tmp 45)⟩,
     ⟨(some 6), none, .simple (.move (.tmp 41))⟩,
     ⟨(some 7), none, .simple (.move (.tmp 46))⟩] (some [6, 7, 31, 32, 33]))))
  (.region [
    ⟨(some 47), none, .simple (.bin .add (.tmp 33) (.const (.int .i64 1)))⟩,
    ⟨(some 33), none, .simple (.move (.tmp 47))⟩] (some [6, 7, 31, 32, 33]))))))))
(.seq (.region [
  ⟨(some 48), none, .simple (.move (.tmp 6))⟩,
  ⟨(some 49), none, .simple (.move (.tmp 7))⟩,
  ⟨(some 6), none, .simple (.move (.tmp 48))⟩,
  ⟨(some 7), none, .simple (.move (.tmp 49))⟩,
  ⟨(some 8), none, .simple (.move (.const (.int .i64 0)))⟩] (some [6, 7, 8]))
.ret)))))))
theorem k19 : Try.f19.body.bind (compC Try.prog G19) = some c19 := by kernel_rfl
theorem e19 : compRes Try.prog Try.f19.results.toList = some r19 := by kernel_rfl
def F19 : FunX := ⟨false, G19, c19, r19⟩
theorem o19 : FunOk Try.prog 19 F19 := ⟨Try.f19, by kernel_rfl, k19, e19, by kernel_rfl, by kernel_rfl⟩

/-! 25: contango/coupon.Paid; parameters 3, captured 0 -/
def G25 : Cfg := ⟨[], [(0, [2, 3, 4]), (1, [6, 7])], 15, []⟩
def r25 : List CRes := [.tmp 6, .tmp 7]
def c25 : CCode :=
(.seq (.region [
  ⟨(some 3), none, .simple (.box false (.tmp 0))⟩,
  ⟨(some 4), none, .simple (.box false (.tmp 1))⟩,
  ⟨(some 6), none, .simple (.move (.const (.slice none 0 0)))⟩,
  ⟨(some 7), none, .simple (.move (.const (.int .i64 0)))⟩] (some [2, 3, 4]))
(.seq (.region [
  ⟨(some 8), none, .simple (.build [(.d .nilf)] [(0, 1, (.func 64))])⟩,
  ⟨(some 9), none, .simple (.load (some 6) (.tmp 3))⟩,
  ⟨(some 10), none, .simple (.load (some 2) (.tmp 4))⟩,
  ⟨(some 11), none, .simple (.move (.tmp 2))⟩,
  ⟨(some 12), none, .call (.func 65) [(.tmp 8), (.tmp 9), (.tmp 10), (.tmp 11)]⟩,
  ⟨(some 13), none, .simple (.extract (.tmp 12) 0)⟩,
  ⟨(some 14), none, .simple (.extract (.tmp 12) 1)⟩,
  ⟨(some 6), none, .simple (.move (.tmp 13))⟩,
  ⟨(some 7), none, .simple (.move (.tmp 14))⟩] (some [6, 7]))
.ret))
theorem k25 : Try.f25.body.bind (compC Try.prog G25) = some c25 := by kernel_rfl
theorem e25 : compRes Try.prog Try.f25.results.toList = some r25 := by kernel_rfl
def F25 : FunX := ⟨false, G25, c25, r25⟩
theorem o25 : FunOk Try.prog 25 F25 := ⟨Try.f25, by kernel_rfl, k25, e25, by kernel_rfl, by kernel_rfl⟩

/-! 26: contango/coupon.Claims; parameters 3, captured 0 -/
def G26 : Cfg := ⟨[], [(0, [2, 3, 4]), (1, [6, 7])], 15, []⟩
def r26 : List CRes := [.tmp 6, .tmp 7]
def c26 : CCode :=
(.seq (.region [
  ⟨(some 3), none, .simple (.box false (.tmp 0))⟩,
  ⟨(some 4), none, .simple (.box false (.tmp 1))⟩,
  ⟨(some 6), none, .simple (.move (.const (.slice none 0 0)))⟩,
  ⟨(some 7), none, .simple (.move (.const (.int .i64 0)))⟩] (some [2, 3, 4]))
(.seq (.region [
  ⟨(some 8), none, .simple (.build [(.d .nilf)] [(0, 1, (.func 66))])⟩,
  ⟨(some 9), none, .simple (.load (some 6) (.tmp 3))⟩,
  ⟨(some 10), none, .simple (.load (some 2) (.tmp 4))⟩,
  ⟨(some 11), none, .simple (.move (.tmp 2))⟩,
  ⟨(some 12), none, .call (.func 65) [(.tmp 8), (.tmp 9), (.tmp 10), (.tmp 11)]⟩,
  ⟨(some 13), none, .simple (.extract (.tmp 12) 0)⟩,
  ⟨(some 14), none, .simple (.extract (.tmp 12) 1)⟩,
  ⟨(some 6), none, .simple (.move (.tmp 13))⟩,
  ⟨(some 7), none, .simple (.move (.tmp 14))⟩] (some [6, 7]))
.ret))
theorem k26 : Try.f26.body.bind (compC Try.prog G26) = some c26 := by kernel_rfl
theorem e26 : compRes Try.prog Try.f26.results.toList = some r26 := by kernel_rfl
def F26 : FunX := ⟨false, G26, c26, r26⟩
theorem o26 : FunOk Try.prog 26 F26 := ⟨Try.f26, by kernel_rfl, k26, e26, by kernel_rfl, by kernel_rfl⟩

/-! 27: contango/coupon.Rights; parameters 3, captured 0 -/
def G27 : Cfg := ⟨[], [(0, [2, 3, 4]), (1, [6, 7])], 15, []⟩
def r27 : List CRes := [.tmp 6, .tmp 7]
def c27 : CCode :=
(.seq (.region [
  ⟨(some 3), none, .simple (.box false (.tmp 0))⟩,
  ⟨(some 4), none, .simple (.box false (.tmp 1))⟩,
  ⟨(some 6), none, .simple (.move (.const (.slice none 0 0)))⟩,
  ⟨(some 7), none, .simple (.move (.const (.int .i64 0)))⟩] (some [2, 3, 4]))
(.seq (.region [
  ⟨(some 8), none, .simple (.build [(.d .nilf)] [(0, 1, (.func 67))])⟩,
  ⟨(some 9), none, .simple (.load (some 6) (.tmp 3))⟩,
  ⟨(some 10), none, .simple (.load (some 2) (.tmp 4))⟩,
  ⟨(some 11), none, .simple (.move (.tmp 2))⟩,
  ⟨(some 12), none, .call (.func 65) [(.tmp 8), (.tmp 9), (.tmp 10), (.tmp 11)]⟩,
  ⟨(some 13), none, .simple (.extract (.tmp 12) 0)⟩,
  ⟨(some 14), none, .simple (.extract (.tmp 12) 1)⟩,
  ⟨(some 6), none, .simple (.move (.tmp 13))⟩,
  ⟨(some 7), none, .simple (.move (.tmp 14))⟩] (some [6, 7]))
.ret))
theorem k27 : Try.f27.body.bind (compC Try.prog G27) = some c27 := by kernel_rfl
theorem e27 : compRes Try.prog Try.f27.results.toList = some r27 := by kernel_rfl
def F27 : FunX := ⟨false, G27, c27, r27⟩
theorem o27 : FunOk Try.prog 27 F27 := ⟨Try.f27, by kernel_rfl, k27, e27, by kernel_rfl, by kernel_rfl⟩

/-! 28: contango/contangoref07.Same; parameters 2, captured 0 -/
def G28 : Cfg := ⟨[], [(0, [0, 1]), (1, [4])], 22, []⟩
def r28 : List CRes := [.tmp 4]
def c28 : CCode :=
(.seq (.region [
  ⟨(some 4), none, .simple (.move (.const (.bool false)))⟩] (some [0, 1]))
(.seq (.region [
  ⟨(some 5), none, .simple (.move (.tmp 0))⟩,
  ⟨(some 6), none, .simple (.len (.tmp 5))⟩,
  ⟨(some 7), none, .simple (.move (.tmp 1))⟩,
  ⟨(some 8), none, .simple (.len (.tmp 7))⟩,
  ⟨(some 9), none, .simple (.bin .eql (.tmp 6) (.tmp 8))⟩,
  ⟨(some 10), none, .simple (.move (.tmp 9))⟩,
  ⟨(some 11), (some (10, true)), .simple (.move (.tmp 0))⟩,
  ⟨(some 12), (some (10, true)), .simple (.move (.tmp 1))⟩,
  ⟨(some 13), (some (10, true)), .call (.func 68) [(.tmp 11), (.tmp 12)]⟩,
  ⟨(some 14), (some (10, true)), .simple (.un .not (.tmp 13))⟩,
  ⟨(some 15), none, .simple (.pick (.tmp 10) (.tmp 14) (.const (.bool false)))⟩,
  ⟨(some 16), none, .simple (.move (.tmp 15))⟩,
  ⟨(some 17), (some (16, true)), .simple (.move (.tmp 1))⟩,
  ⟨(some 18), (some (16, true)), .simple (.move (.tmp 0))⟩,
  ⟨(some 19), (some (16, true)), .call (.func 68) [(.tmp 17), (.tmp 18)]⟩,
  ⟨(some 20), (some (16, true)), .simple (.un .not (.tmp 19))⟩,
  ⟨(some 21), none, .simple (.pick (.tmp 16) (.tmp 20) (.const (.bool false)))⟩,
  ⟨(some 4), none, .simple (.move (.tmp 21))⟩] (some [4]))
.ret))
theorem k28 : Try.f28.body.bind (compC Try.prog G28) = some c28 := by kernel_rfl
theorem e28 : compRes Try.prog Try.f28.results.toList = some r28 := by kernel_rfl
def F28 : FunX := ⟨false, G28, c28, r28⟩
theorem o28 : FunOk Try.prog 28 F28 := ⟨Try.f28, by kernel_rfl, k28, e28, by kernel_rfl, by kernel_rfl⟩

/-! 33: contango/coupon.Bounds; parameters 2, captured 0 -/
def G33 : Cfg := ⟨[10], [(0, [1, 2]), (1, [1, 2, 8]), (2, [1, 2, 8, 15]), (3, [4, 5, 6, 7]), (4, [1, 2, 23]), (5, [4, 5, 6, 7]), (6, [9, 10]), (7, [4, 9, 10, 11]), (8, [4, 9, 10, 39]), (9, [4, 5, 6, 7]), (10, [4, 5, 9, 10]), (11, [4, 5, 6]), (12, [4, 5, 6, 7])], 57, []⟩
def r33 : List CRes := [.tmp 4, .tmp 5, .tmp 6, .tmp 7]
def c33 : CCode :=
(.seq (.region [
  ⟨(some 2), none, .simple (.box false (.tmp 0))⟩,
  ⟨(some 4), none, .simple (.move (.const (.slice none 0 0)))⟩,
  ⟨(some 5), none, .simple (.move (.const (.slice none 0 0)))⟩,
  ⟨(some 6), none, .simple (.move (.const (.slice none 0 0)))⟩,
  ⟨(some 7), none, .simple (.move (.const (.int .i64 0)))⟩] (some [1, 2]))
(.seq (.seq (.region [
  ⟨(some 12), none, .simple (.load (some 6) (.tmp 2))⟩,
  ⟨(some 13), none, .call (.func 52) [(.tmp 12)]⟩,
  ⟨(some 8), none, .simple (.move (.tmp 13))⟩] (some [1, 2, 8]))
(.seq (.region [
  ⟨(some 14), none, .simple (.move (.tmp 8))⟩,
  ⟨(some 15), none, .simple (.bin .neq (.tmp 14) (.const (.int .i64 0)))⟩] (some [1, 2, 8, 15]))
(.cond (.tmp 15)
 (.seq (.region [
   ⟨(some 16), none, .simple (.move (.tmp 8))⟩,
   ⟨(some 4), none, .simple (.move (.const (.slice none 0 0)))⟩,
   ⟨(some 5), none, .simple (.move (.const (.slice none 0 0)))⟩,
   ⟨(some 6), none, .simple (.move (.const (.slice none 0 0)))⟩,
   ⟨(some 7), none, .simple (.move (.tmp 16))⟩] (some [4, 5, 6, 7]))
 .ret)
 .skip)))
(.seq (.seq (.region [
  ⟨(some 17), none, .simple (.move (.tmp 1))⟩,
  ⟨(some 18), none, .simple (.fieldAddr 3 (.tmp 2))⟩,
  ⟨(some 19), none, .simple (.load none (.tmp 18))⟩,
  ⟨(some 20), none, .simple (.len (.tmp 19))⟩,
  ⟨(some 21), none, .simple (.bin .sub (.tmp 20) (.const (.int .i64 1)))⟩,
  ⟨(some 22), none, .call (.func 71) [(.tmp 17), (.const (.int .i64 0)), (.tmp 21)]⟩,
  ⟨(some 23), none, .simple (.un .not (.tmp 22))⟩] (some [1, 2, 23]))
(.cond (.tmp 23)
 (.seq (.region [
   ⟨(some 4), none, .simple (.move (.const (.slice none 0 0)))⟩,
   ⟨(some 5), none, .simple (.move (.const (.slice none 0 0)))⟩,
   ⟨(some 6), none, .simple (.move (.const (.slice none 0 0)))⟩,
   ⟨(some 7), none, .simple (.move (.const (.int .i64 2)))⟩] (some [4, 5, 6, 7]))
 .ret)
 .skip))
(.seq (.seq (.region [
  ⟨(some 24), none, .simple (.load (some 6) (.tmp 2))⟩,
  ⟨(some 26), none, .simple (.fieldAddr 3 (.tmp 2))⟩,
  ⟨(some 27), none, .simple (.load none (.tmp 26))⟩,
  ⟨(some 28), none, .simple (.move (.tmp 1))⟩,
  ⟨(some 29), none, .simple (.indexS 3 (.tmp 27) (.tmp 28))⟩,
  ⟨(some 30), none, .simple (.load (some 3) (.tmp 29))⟩] none)
(.both (.region [
   ⟨(some 25), none, .callx (.func 72) [(.tmp 24)]⟩,
   ⟨(some 10), none, .simple (.alloc [(.d (.int .i64 0)), (.d (.int .i64 0)), (.d (.int .i64 0))])⟩,
   ⟨(some 9), none, .simple (.move (.tmp 25))⟩,
   ⟨none, none, .simple (.store 3 (.tmp 10) (.tmp 30))⟩] (some [9, 10]))
 (.region [
   ⟨(some 10), none, .simple (.alloc [(.d (.int .i64 0)), (.d (.int .i64 0)), (.d (.int .i64 0))])⟩,
   ⟨(some 25), none, .callx (.func 72) [(.tmp 24)]⟩,
   ⟨(some 9), none, .simple (.move (.tmp 25))⟩,
   ⟨none, none, .simple (.store 3 (.tmp 10) (.tmp 30))⟩] (some [9, 10]))))
(.seq (.region [
  ⟨(some 32), none, .simple (.move (.tmp 9))⟩,
  ⟨(some 33), none, .simple (.build [(.d .nilf)] [(0, 1, (.func 64))])⟩,
  ⟨(some 34), none, .simple (.load (some 3) (.tmp 10))⟩,
  ⟨(some 35), none, .call (.func 73) [(.tmp 32), (.tmp 33), (.tmp 34)]⟩,
  ⟨(some 31), none, .simple (.move (.tmp 35))⟩,
  ⟨(some 36), none, .simple (.extract (.tmp 31) 0)⟩,
  ⟨(some 37), none, .simple (.extract (.tmp 31) 1)⟩,
  ⟨(some 4), none, .simple (.move (.tmp 36))⟩,
  ⟨(some 11), none, .simple (.move (.tmp 37))⟩] (some [4, 9, 10, 11]))
(.seq (.seq (.region [
  ⟨(some 38), none, .simple (.move (.tmp 11))⟩,
  ⟨(some 39), none, .simple (.un .not (.tmp 38))⟩] (some [4, 9, 10, 39]))
(.cond (.tmp 39)
 (.seq (.region [
   ⟨(some 4), none, .simple (.move (.const (.slice none 0 0)))⟩,
   ⟨(some 5), none, .simple (.move (.const (.slice none 0 0)))⟩,
   ⟨(some 6), none, .simple (.move (.const (.slice none 0 0)))⟩,
   ⟨(some 7), none, .simple (.move (.const (.int .i64 9)))⟩] (some [4, 5, 6, 7]))
 .ret)
 .skip))
(.seq (.region [
  ⟨(some 41), none, .simple (.move (.tmp 9))⟩,
  ⟨(some 42), none, .simple (.build [(.d .nilf)] [(0, 1, (.func 66))])⟩,
  ⟨(some 43), none, .simple (.load (some 3) (.tmp 10))⟩,
  ⟨(some 44), none, .call (.func 73) [(.tmp 41), (.tmp 42), (.tmp 43)]⟩,
  ⟨(some 40), none, .simple (.move (.tmp 44))⟩,
  ⟨(some 45), none, .simple (.extract (.tmp 40) 0)⟩,
  ⟨(some 46), none, .simple (.extract (.tmp 40) 1)⟩,
  ⟨(some 5), none, .simple (.move (.tmp 45))⟩] (some [4, 5, 9, 10]))
(.seq (.region [
  ⟨(some 48), none, .simple (.move (.tmp 9))⟩,
  ⟨(some 49), none, .simple (.build [(.d .nilf)] [(0, 1, (.func 67))])⟩,
  ⟨(some 50), none, .simple (.load (some 3) (.tmp 10))⟩,
  ⟨(some 51), none, .call (.func 73) [(.tmp 48), (.tmp 49), (.tmp 50)]⟩,
  ⟨(some 47), none, .simple (.move (.tmp 51))⟩,
  ⟨(some 52), none, .simple (.extract (.tmp 47) 0)⟩,
  ⟨(some 53), none, .simple (.extract (.tmp 47) 1)⟩,
  ⟨(some 6), none, .simple (.move (.tmp 52))⟩] (some [4, 5, 6]))
(.seq (.region [
  ⟨(some 54), none, .simple (.move (.tmp 4))⟩,
  ⟨(some 55), none, .simple (.move (.tmp 5))⟩,
  ⟨(some 56), none, .simple (.move (.tmp 6))⟩,
  ⟨(some 4), none, .simple (.move (.tmp 54))⟩,
  ⟨(some 5), none, .simple (.move (.tmp 55))⟩,
  ⟨(some 6), none, .simple (.move (.tmp 56))⟩,
  ⟨(some 7), none, .simple (.move (.const (.int .i64 0)))⟩] (some [4, 5, 6, 7]))
.ret)))))))))
theorem k33 : Try.f33.body.bind (compC Try.prog G33) = some c33 := by kernel_rfl
theorem e33 : compRes Try.prog Try.f33.results.toList = some r33 := by kernel_rfl
def F33 : FunX := ⟨false, G33, c33, r33⟩
theorem o33 : FunOk Try.prog 33 F33 := ⟨Try.f33, by kernel_rfl, k33, e33, by kernel_rfl, by kernel_rfl⟩

/-! 38: contango/coupon.Leave; parameters 1, captured 0 -/
def G38 : Cfg := ⟨[1, 5, 6], [(0, [1]), (1, [1, 4]), (2, [1, 4, 11]), (3, [2, 3]), (4, [1, 5]), (5, [1, 5, 6]), (6, [1, 5, 6]), (7, [5, 6, 17, 18]), (8, [5, 6, 17, 18, 19]), (9, [5, 6, 7, 17, 18]), (10, [5, 6, 17, 18, 23]), (11, [5, 6, 17, 18]), (12, [2, 3])], 26, []⟩
def r38 : List CRes := [.tmp 2, .tmp 3]
def c38 : CCode :=
(.seq (.region [
  ⟨(some 1), none, .simple (.box true (.tmp 0))⟩,
  ⟨(some 2), none, .simple (.move (.const (.slice none 0 0)))⟩,
  ⟨(some 3), none, .simple (.move (.const (.int .i64 0)))⟩] (some [1]))
(.seq (.seq (.region [
  ⟨(some 8), none, .simple (.load (some 6) (.tmp 1))⟩,
  ⟨(some 9), none, .call (.func 52) [(.tmp 8)]⟩,
  ⟨(some 4), none, .simple (.move (.tmp 9))⟩] (some [1, 4]))
(.seq (.region [
  ⟨(some 10), none, .simple (.move (.tmp 4))⟩,
  ⟨(some 11), none, .simple (.bin .neq (.tmp 10) (.const (.int .i64 0)))⟩] (some [1, 4, 11]))
(.cond (.tmp 11)
 (.seq (.region [
   ⟨(some 12), none, .simple (.move (.tmp 4))⟩,
   ⟨(some 2), none, .simple (.move (.const (.slice none 0 0)))⟩,
   ⟨(some 3), none, .simple (.move (.tmp 12))⟩] (some [2, 3]))
 .ret)
 .skip)))
(.seq (.region [
  ⟨(some 5), none, .simple (.alloc [(.d .nils)])⟩] (some [1, 5]))
(.seq (.region [
  ⟨(some 6), none, .simple (.alloc [(.d .nilf)])⟩] (some [1, 5, 6]))
(.seq (.region [
  ⟨(some 13), none, .simple (.mkfn (.func 75) [] [(.tmp 1), (.tmp 5), (.tmp 6)])⟩,
  ⟨none, none, .simple (.store 1 (.tmp 6) (.tmp 13))⟩] (some [1, 5, 6]))
(.seq .skip
(.seq (.seq (.region [
  ⟨(some 14), none, .simple (.fieldAddr 2 (.tmp 1))⟩,
  ⟨(some 15), none, .simple (.load none (.tmp 14))⟩,
  ⟨(some 16), none, .simple (.len (.tmp 15))⟩,
  ⟨(some 17), none, .simple (.bin .add (.tmp 16) (.const (.int .i64 1)))⟩,
  ⟨(some 18), none, .simple (.move (.const (.int .i64 0)))⟩] (some [5, 6, 17, 18]))
(.block 0 (.loop (.seq (.region [
    ⟨(some 19), none, .simple (.bin .lss (.tmp 18) (.tmp 17))⟩] (some [5, 6, 17, 18, 19]))
  (.seq (.cond (.tmp 19)
   .skip
   (.exit 0))
  (.seq (.block 1 (.seq (.region [
     ⟨(some 20), none, .simple (.move (.tmp 18))⟩,
     ⟨(some 7), none, .simple (.move (.tmp 20))⟩] (some [5, 6, 7, 17, 18]))
   (.seq (.region [
     ⟨(some 21), none, .simple (.load none (.tmp 6))⟩,
     ⟨(some 22), none, .simple (.move (.tmp 7))⟩,
     ⟨(some 23), none, .call (.tmp 21) [(.const (.slice none 0 0)), (.const (.int .i64 0)), (.tmp 22)]⟩] (some [5, 6, 17, 18, 23]))
   (.cond (.tmp 23)
    (.exit 0)
    .skip))))
  (.region [
    ⟨(some 24), none, .simple (.bin .add (.tmp 18) (.const (.int .i64 1)))⟩,
    ⟨(some 18), none, .simple (.move (.tmp 24))⟩] (some [5, 6, 17, 18]))))))))
(.seq (.region [
  ⟨(some 25), none, .simple (.load none (.tmp 5))⟩,
  ⟨(some 2), none, .simple (.move (.tmp 25))⟩,
  ⟨(some 3), none, .simple (.move (.const (.int .i64 0)))⟩] (some [2, 3]))
.ret))))))))
theorem k38 : Try.f38.body.bind (compC Try.prog G38) = some c38 := by kernel_rfl
theorem e38 : compRes Try.prog Try.f38.results.toList = some r38 := by kernel_rfl
def F38 : FunX := ⟨false, G38, c38, r38⟩
theorem o38 : FunOk Try.prog 38 F38 := ⟨Try.f38, by kernel_rfl, k38, e38, by kernel_rfl, by kernel_rfl⟩

/-! 50: contango/coupon.Registered; parameters 2, captured 0 -/
def G50 : Cfg := ⟨[], [(0, [1, 2]), (1, [1, 2, 6]), (2, [1, 2, 6, 10]), (3, [4, 5]), (4, [1, 2, 14]), (5, [4, 5]), (6, [4, 5])], 18, []⟩
def r50 : List CRes := [.tmp 4, .tmp 5]
def c50 : CCode :=
(.seq (.region [
  ⟨(some 2), none, .simple (.box false (.tmp 0))⟩,
  ⟨(some 4), none, .simple (.move (.const (.int .i64 0)))⟩,
  ⟨(some 5), none, .simple (.move (.const (.int .i64 0)))⟩] (some [1, 2]))
(.seq (.seq (.region [
  ⟨(some 7), none, .simple (.load (some 6) (.tmp 2))⟩,
  ⟨(some 8), none, .call (.func 52) [(.tmp 7)]⟩,
  ⟨(some 6), none, .simple (.move (.tmp 8))⟩] (some [1, 2, 6]))
(.seq (.region [
  ⟨(some 9), none, .simple (.move (.tmp 6))⟩,
  ⟨(some 10), none, .simple (.bin .neq (.tmp 9) (.const (.int .i64 0)))⟩] (some [1, 2, 6, 10]))
(.cond (.tmp 10)
 (.seq (.region [
   ⟨(some 11), none, .simple (.move (.tmp 6))⟩,
   ⟨(some 4), none, .simple (.move (.const (.int .i64 0)))⟩,
   ⟨(some 5), none, .simple (.move (.tmp 11))⟩] (some [4, 5]))
 .ret)
 .skip)))
(.seq (.seq (.region [
  ⟨(some 12), none, .simple (.move (.tmp 1))⟩,
  ⟨(some 13), none, .call (.func 59) [(.tmp 12)]⟩,
  ⟨(some 14), none, .simple (.un .not (.tmp 13))⟩] (some [1, 2, 14]))
(.cond (.tmp 14)
 (.seq (.region [
   ⟨(some 4), none, .simple (.move (.const (.int .i64 0)))⟩,
   ⟨(some 5), none, .simple (.move (.const (.int .i64 2)))⟩] (some [4, 5]))
 .ret)
 .skip))
(.seq (.region [
  ⟨(some 15), none, .simple (.load (some 6) (.tmp 2))⟩,
  ⟨(some 16), none, .simple (.move (.tmp 1))⟩,
  ⟨(some 17), none, .call (.func 82) [(.tmp 15), (.tmp 16)]⟩,
  ⟨(some 4), none, .simple (.move (.tmp 17))⟩,
  ⟨(some 5), none, .simple (.move (.const (.int .i64 0)))⟩] (some [4, 5]))
.ret))))
theorem k50 : Try.f50.body.bind (compC Try.prog G50) = some c50 := by kernel_rfl
theorem e50 : compRes Try.prog Try.f50.results.toList = some r50 := by kernel_rfl
def F50 : FunX := ⟨false, G50, c50, r50⟩
theorem o50 : FunOk Try.prog 50 F50 := ⟨Try.f50, by kernel_rfl, k50, e50, by kernel_rfl, by kernel_rfl⟩

/-! 52: contango/coupon.CheckCompany; parameters 1, captured 0 -/
def G52 : Cfg := ⟨[], [(0, [1]), (1, [1, 3]), (2, [1, 3, 6]), (4, [34]), (5, [2]), (3, [2]), (6, [2])], 78, []⟩
def r52 : List CRes := [.tmp 2]
def c52 : CCode :=
(.seq (.region [
  ⟨(some 1), none, .simple (.box false (.tmp 0))⟩,
  ⟨(some 2), none, .simple (.move (.const (.int .i64 0)))⟩] (some [1]))
(.seq (.region [
  ⟨(some 4), none, .simple (.load (some 6) (.tmp 1))⟩,
  ⟨(some 5), none, .simple (.mkfn (.func 83) [(.tmp 4)] [])⟩,
  ⟨(some 3), none, .simple (.move (.tmp 5))⟩] (some [1, 3]))
(.seq (.block 0 (.seq (.region [
   ⟨(some 7), none, .simple (.fieldAddr 0 (.tmp 1))⟩,
   ⟨(some 8), none, .simple (.load none (.tmp 7))⟩,
   ⟨(some 9), none, .simple (.bin .gtr (.tmp 8) (.const (.int .i64 4)))⟩,
   ⟨(some 10), none, .simple (.move (.tmp 9))⟩,
   ⟨(some 11), (some (10, false)), .simple (.fieldAddr 2 (.tmp 1))⟩,
   ⟨(some 12), (some (10, false)), .simple (.load none (.tmp 11))⟩,
   ⟨(some 13), (some (10, false)), .simple (.len (.tmp 12))⟩,
   ⟨(some 14), (some (10, false)), .simple (.bin .gtr (.tmp 13) (.const (.int .i64 4)))⟩,
   ⟨(some 15), none, .simple (.pick (.tmp 10) (.const (.bool true)) (.tmp 14))⟩,
   ⟨(some 16), none, .simple (.move (.tmp 15))⟩,
   ⟨(some 17), (some (16, false)), .simple (.fieldAddr 3 (.tmp 1))⟩,
   ⟨(some 18), (some (16, false)), .simple (.load none (.tmp 17))⟩,
   ⟨(some 19), (some (16, false)), .simple (.len (.tmp 18))⟩,
   ⟨(some 20), (some (16, false)), .simple (.bin .gtr (.tmp 19) (.const (.int .i64 3)))⟩,
   ⟨(some 21), none, .simple (.pick (.tmp 16) (.const (.bool true)) (.tmp 20))⟩,
   ⟨(some 22), none, .simple (.move (.tmp 21))⟩,
   ⟨(some 23), (some (22, false)), .simple (.fieldAddr 4 (.tmp 1))⟩,
   ⟨(some 24), (some (22, false)), .simple (.load none (.tmp 23))⟩,
   ⟨(some 25), (some (22, false)), .simple (.len (.tmp 24))⟩,
   ⟨(some 26), (some (22, false)), .simple (.bin .gtr (.tmp 25) (.const (.int .i64 2)))⟩,
   ⟨(some 27), none, .simple (.pick (.tmp 22) (.const (.bool true)) (.tmp 26))⟩,
   ⟨(some 28), none, .simple (.move (.tmp 27))⟩,
   ⟨(some 29), (some (28, false)), .simple (.fieldAddr 5 (.tmp 1))⟩,
   ⟨(some 30), (some (28, false)), .simple (.load none (.tmp 29))⟩,
   ⟨(some 31), (some (28, false)), .simple (.len (.tmp 30))⟩,
   ⟨(some 32), (some (28, false)), .simple (.bin .gtr (.tmp 31) (.const (.int .i64 2)))⟩,
   ⟨(some 33), none, .simple (.pick (.tmp 28) (.const (.bool true)) (.tmp 32))⟩,
   ⟨(some 6), none, .simple (.move (.tmp 33))⟩] (some [1, 3, 6]))
 (.cond (.tmp 6)
  (.seq (.region [
    ⟨(some 2), none, .simple (.move (.const (.int .i64 3)))⟩] (some [2]))
  .ret)
  (.seq (.region [
    ⟨(some 35), none, .simple (.fieldAddr 0 (.tmp 1))⟩,
    ⟨(some 36), none, .simple (.load none (.tmp 35))⟩,
    ⟨(some 37), none, .simple (.bin .lss (.tmp 36) (.const (.int .i64 1)))⟩,
    ⟨(some 38), none, .simple (.move (.tmp 37))⟩,
    ⟨(some 39), (some (38, false)), .simple (.fieldAddr 1 (.tmp 1))⟩,
    ⟨(some 40), (some (38, false)), .simple (.load none (.tmp 39))⟩,
    ⟨(some 41), (some (38, false)), .simple (.len (.tmp 40))⟩,
    ⟨(some 42), (some (38, false)), .simple (.fieldAddr 0 (.tmp 1))⟩,
    ⟨(some 43), (some (38, false)), .simple (.load none (.tmp 42))⟩,
    ⟨(some 44), (some (38, false)), .simple (.bin .neq (.tmp 41) (.tmp 43))⟩,
    ⟨(some 45), none, .simple (.pick (.tmp 38) (.const (.bool true)) (.tmp 44))⟩,
    ⟨(some 46), none, .simple (.move (.tmp 45))⟩,
    ⟨(some 47), (some (46, false)), .simple (.fieldAddr 1 (.tmp 1))⟩,
    ⟨(some 48), (some (46, false)), .simple (.load none (.tmp 47))⟩,
    ⟨(some 49), (some (46, false)), .simple (.build [(.d (.int .i64 0)), (.d (.int .i64 0))] [(0, 1, (.const (.int .i64 0))), (1, 1, (.const (.int .i64 100)))])⟩,
    ⟨(some 50), (some (46, false)), .simple (.mkfn (.func 85) [(.tmp 49)] [])⟩,
    ⟨(some 51), (some (46, false)), .call (.func 84) [(.tmp 48), (.tmp 50)]⟩,
    ⟨(some 52), (some (46, false)), .simple (.un .not (.tmp 51))⟩,
    ⟨(some 53), none, .simple (.pick (.tmp 46) (.const (.bool true)) (.tmp 52))⟩,
    ⟨(some 54), none, .simple (.move (.tmp 53))⟩,
    ⟨(some 55), (some (54, false)), .simple (.fieldAddr 2 (.tmp 1))⟩,
    ⟨(some 56), (some (54, false)), .simple (.load none (.tmp 55))⟩,
    ⟨(some 57), (some (54, false)), .simple (.move (.tmp 3))⟩,
    ⟨(some 58), (some (54, false)), .call (.func 86) [(.tmp 56), (.tmp 57)]⟩,
    ⟨(some 59), (some (54, false)), .simple (.un .not (.tmp 58))⟩,
    ⟨(some 60), none, .simple (.pick (.tmp 54) (.const (.bool true)) (.tmp 59))⟩,
    ⟨(some 61), none, .simple (.move (.tmp 60))⟩,
    ⟨(some 62), (some (61, false)), .simple (.fieldAddr 3 (.tmp 1))⟩,
    ⟨(some 63), (some (61, false)), .simple (.load none (.tmp 62))⟩,
    ⟨(some 64), (some (61, false)), .call (.func 87) [(.tmp 63), (.func 88)]⟩,
    ⟨(some 65), (some (61, false)), .simple (.un .not (.tmp 64))⟩,
    ⟨(some 66), none, .simple (.pick (.tmp 61) (.const (.bool true)) (.tmp 65))⟩,
    ⟨(some 67), none, .simple (.move (.tmp 66))⟩,
    ⟨(some 68), (some (67, false)), .simple (.load (some 6) (.tmp 1))⟩,
    ⟨(some 69), (some (67, false)), .call (.func 89) [(.tmp 68)]⟩,
    ⟨(some 70), (some (67, false)), .simple (.un .not (.tmp 69))⟩,
    ⟨(some 71), none, .simple (.pick (.tmp 67) (.const (.bool true)) (.tmp 70))⟩,
    ⟨(some 72), none, .simple (.move (.tmp 71))⟩,
    ⟨(some 73), (some (72, false)), .simple (.fieldAddr 5 (.tmp 1))⟩,
    ⟨(some 74), (some (72, false)), .simple (.load none (.tmp 73))⟩,
    ⟨(some 75), (some (72, false)), .call (.func 90) [(.tmp 74), (.func 91)]⟩,
    ⟨(some 76), (some (72, false)), .simple (.un .not (.tmp 75))⟩,
    ⟨(some 77), none, .simple (.pick (.tmp 72) (.const (.bool true)) (.tmp 76))⟩,
    ⟨(some 34), none, .simple (.move (.tmp 77))⟩] (some [34]))
  (.cond (.tmp 34)
   (.seq (.region [
     ⟨(some 2), none, .simple (.move (.const (.int .i64 1)))⟩] (some [2]))
   .ret)
   .skip)))))
(.seq (.region [
  ⟨(some 2), none, .simple (.move (.const (.int .i64 0)))⟩] (some [2]))
.ret))))
theorem k52 : Try.f52.body.bind (compC Try.prog G52) = some c52 := by kernel_rfl
theorem e52 : compRes Try.prog Try.f52.results.toList = some r52 := by kernel_rfl
def F52 : FunX := ⟨false, G52, c52, r52⟩
theorem o52 : FunOk Try.prog 52 F52 := ⟨Try.f52, by kernel_rfl, k52, e52, by kernel_rfl, by kernel_rfl⟩

/-! 53: contango/contangolaw07.one; parameters 1, captured 0 -/
def G53 : Cfg := ⟨[2], [(0, [0, 2]), (1, [2])], 16, []⟩
def r53 : List CRes := [.cell 2 (some 6)]
def c53 : CCode :=
(.seq (.region [
  ⟨(some 2), none, .simple (.alloc [(.d (.int .i64 0)), (.d .nils), (.d .nils), (.d .nils), (.d .nils), (.d .nils)])⟩] (some [0, 2]))
(.seq (.region [
  ⟨(some 3), none, .simple (.bslice false 3 1 2 [(.int .i64 0), (.int .i64 0)] [(0, (.const (.int .i64 10))), (1, (.const (.int .i64 0)))])⟩,
  ⟨(some 4), none, .simple (.move (.tmp 0))⟩,
  ⟨(some 5), none, .call (.func 55) [(.const (.int .i64 2)), (.const (.int .i64 3))]⟩,
  ⟨(some 6), none, .call (.func 55) [(.const (.int .i64 4)), (.const (.int .i64 5))]⟩,
  ⟨(some 7), none, .simple (.build [(.d (.int .i64 0)), (.d (.int .i64 0)), (.d (.int .i64 0)), (.d (.int .i64 0)), (.d (.int .i64 0)), (.d (.int .i64 0)), (.d (.int .i64 0))] [(1, 1, (.const (.int .i64 1))), (2, 1, (.tmp 4)), (3, 2, (.tmp 5)), (5, 2, (.tmp 6))])⟩,
  ⟨(some 8), none, .simple (.bslice false 93 7 1 [(.int .i64 0), (.int .i64 0), (.int .i64 0), (.int .i64 0), (.int .i64 0), (.int .i64 0), (.int .i64 0)] [(0, (.tmp 7))])⟩,
  ⟨(some 9), none, .simple (.build [(.d (.int .i64 0)), (.d (.int .i64 0)), (.d (.int .i64 0))] [(0, 1, (.const (.int .i64 3))), (1, 1, (.const (.int .i64 4))), (2, 1, (.const (.int .i64 5)))])⟩,
  ⟨(some 10), none, .simple (.bslice false 95 3 1 [(.int .i64 0), (.int .i64 0), (.int .i64 0)] [(0, (.tmp 9))])⟩,
  ⟨(some 11), none, .simple (.build [(.d (.int .i64 0)), (.d (.int .i64 0)), (.d (.int .i64 0))] [(0, 1, (.const (.int .i64 4))), (1, 1, (.const (.int .i64 3))), (2, 1, (.const (.int .i64 2)))])⟩,
  ⟨(some 12), none, .simple (.bslice false 96 3 1 [(.int .i64 0), (.int .i64 0), (.int .i64 0)] [(0, (.tmp 11))])⟩,
  ⟨(some 13), none, .call (.func 55) [(.const (.int .i64 5)), (.const (.int .i64 6))]⟩,
  ⟨(some 14), none, .simple (.bslice false 71 2 1 [(.int .i64 0), (.int .i64 0)] [(0, (.tmp 13))])⟩,
  ⟨(some 15), none, .simple (.build [(.d (.int .i64 0)), (.d .nils), (.d .nils), (.d .nils), (.d .nils), (.d .nils)] [(0, 1, (.const (.int .i64 2))), (1, 1, (.tmp 3)), (2, 1, (.tmp 8)), (3, 1, (.tmp 10)), (4, 1, (.tmp 12)), (5, 1, (.tmp 14))])⟩,
  ⟨none, none, .simple (.store 6 (.tmp 2) (.tmp 15))⟩] (some [2]))
.ret))
theorem k53 : Try.f53.body.bind (compC Try.prog G53) = some c53 := by kernel_rfl
theorem e53 : compRes Try.prog Try.f53.results.toList = some r53 := by kernel_rfl
def F53 : FunX := ⟨false, G53, c53, r53⟩
theorem o53 : FunOk Try.prog 53 F53 := ⟨Try.f53, by kernel_rfl, k53, e53, by kernel_rfl, by kernel_rfl⟩

end Go.Proofs.Ytdnefcjbcieecaa
