import Derived.Test.YtdnefcjbcieecaaCoreX
import Derived.Test.YtdnefcjbcieecaaProg
import Derived.KernelRfl
namespace Go.Proofs.Ytdnefcjbcieecaa
open Go Go.Proofs

/-! 17: contango/contangolaw07.Thin; parameters 2, captured 0 -/
def G17 : Cfg := ⟨[], [(0, [2, 3]), (1, [4])], 45, []⟩
def r17 : List CRes := [.tmp 4]
def c17 : CCode :=
(.seq (.region [
  ⟨(some 2), none, .simple (.box false (.tmp 0))⟩,
  ⟨(some 3), none, .simple (.box false (.tmp 1))⟩,
  ⟨(some 4), none, .simple (.move (.const (.bool false)))⟩] (some [2, 3]))
(.seq (.region [
  ⟨(some 5), none, .simple (.fieldAddr 1 (.tmp 2))⟩,
  ⟨(some 6), none, .simple (.load none (.tmp 5))⟩,
  ⟨(some 7), none, .simple (.len (.tmp 6))⟩,
  ⟨(some 8), none, .simple (.bin .leq (.tmp 7) (.const (.int .i64 7)))⟩,
  ⟨(some 9), none, .simple (.move (.tmp 8))⟩,
  ⟨(some 10), (some (9, true)), .simple (.fieldAddr 2 (.tmp 2))⟩,
  ⟨(some 11), (some (9, true)), .simple (.load none (.tmp 10))⟩,
  ⟨(some 12), (some (9, true)), .simple (.len (.tmp 11))⟩,
  ⟨(some 13), (some (9, true)), .simple (.bin .leq (.tmp 12) (.const (.int .i64 7)))⟩,
  ⟨(some 14), none, .simple (.pick (.tmp 9) (.tmp 13) (.const (.bool false)))⟩,
  ⟨(some 15), none, .simple (.move (.tmp 14))⟩,
  ⟨(some 16), (some (15, true)), .simple (.fieldAddr 3 (.tmp 2))⟩,
  ⟨(some 17), (some (15, true)), .simple (.load none (.tmp 16))⟩,
  ⟨(some 18), (some (15, true)), .simple (.len (.tmp 17))⟩,
  ⟨(some 19), (some (15, true)), .simple (.bin .leq (.tmp 18) (.const (.int .i64 7)))⟩,
  ⟨(some 20), none, .simple (.pick (.tmp 15) (.tmp 19) (.const (.bool false)))⟩,
  ⟨(some 21), none, .simple (.move (.tmp 20))⟩,
  ⟨(some 22), (some (21, true)), .simple (.fieldAddr 4 (.tmp 2))⟩,
  ⟨(some 23), (some (21, true)), .simple (.load none (.tmp 22))⟩,
  ⟨(some 24), (some (21, true)), .simple (.len (.tmp 23))⟩,
  ⟨(some 25), (some (21, true)), .simple (.bin .leq (.tmp 24) (.const (.int .i64 7)))⟩,
  ⟨(some 26), none, .simple (.pick (.tmp 21) (.tmp 25) (.const (.bool false)))⟩,
  ⟨(some 27), none, .simple (.move (.tmp 26))⟩,
  ⟨(some 28), (some (27, true)), .simple (.fieldAddr 5 (.tmp 2))⟩,
  ⟨(some 29), (some (27, true)), .simple (.load none (.tmp 28))⟩,
  ⟨(some 30), (some (27, true)), .simple (.len (.tmp 29))⟩,
  ⟨(some 31), (some (27, true)), .simple (.bin .leq (.tmp 30) (.const (.int .i64 7)))⟩,
  ⟨(some 32), none, .simple (.pick (.tmp 27) (.tmp 31) (.const (.bool false)))⟩,
  ⟨(some 33), none, .simple (.move (.tmp 32))⟩,
  ⟨(some 34), (some (33, true)), .simple (.fieldAddr 0 (.tmp 3))⟩,
  ⟨(some 35), (some (33, true)), .simple (.load none (.tmp 34))⟩,
  ⟨(some 36), (some (33, true)), .simple (.len (.tmp 35))⟩,
  ⟨(some 37), (some (33, true)), .simple (.bin .leq (.tmp 36) (.const (.int .i64 7)))⟩,
  ⟨(some 38), none, .simple (.pick (.tmp 33) (.tmp 37) (.const (.bool false)))⟩,
  ⟨(some 39), none, .simple (.move (.tmp 38))⟩,
  ⟨(some 40), (some (39, true)), .simple (.fieldAddr 1 (.tmp 3))⟩,
  ⟨(some 41), (some (39, true)), .simple (.load none (.tmp 40))⟩,
  ⟨(some 42), (some (39, true)), .simple (.len (.tmp 41))⟩,
  ⟨(some 43), (some (39, true)), .simple (.bin .leq (.tmp 42) (.const (.int .i64 7)))⟩,
  ⟨(some 44), none, .simple (.pick (.tmp 39) (.tmp 43) (.const (.bool false)))⟩,
  ⟨(some 4), none, .simple (.move (.tmp 44))⟩] (some [4]))
.ret))
theorem k17 : Try.f17.body.bind (compC Try.prog G17) = some c17 := by kernel_rfl
theorem e17 : compRes Try.prog Try.f17.results.toList = some r17 := by kernel_rfl

/-! 20: contango/contangolaw07.Company; parameters 1, captured 0 -/
def G20 : Cfg := ⟨[111, 93, 69, 45, 3, 5, 7, 9, 2], [(0, [1, 2]), (1, [1, 2, 3]), (2, [1, 2, 3, 4]), (3, [1, 2, 3, 4, 21]), (5, [1, 2, 3, 4, 5]), (6, [1, 2, 3, 4]), (4, [1, 2, 3, 4]), (7, [1, 2, 3, 6]), (8, [1, 2, 3, 6, 51]), (10, [1, 2, 3, 6, 7]), (11, [1, 2, 3, 6]), (9, [1, 2, 3, 6]), (12, [1, 2, 3, 8]), (13, [1, 2, 3, 8, 75]), (15, [1, 2, 3, 8, 9]), (16, [1, 2, 3, 8]), (14, [1, 2, 3, 8]), (17, [1, 2, 3, 10]), (18, [1, 2, 3, 10, 99]), (20, [1, 2, 3, 10]), (19, [1, 2, 3, 10]), (21, [2])], 114, []⟩
def r20 : List CRes := [.cell 2 (some 6)]
def c20 : CCode :=
(.seq (.region [
  ⟨(some 1), none, .simple (.box false (.tmp 0))⟩,
  ⟨(some 2), none, .simple (.alloc [(.d (.int .i64 0)), (.d .nils), (.d .nils), (.d .nils), (.d .nils), (.d .nils)])⟩] (some [1, 2]))
(.seq (.seq (.region [
  ⟨(some 11), none, .simple (.fieldAddr 0 (.tmp 1))⟩,
  ⟨(some 12), none, .simple (.load none (.tmp 11))⟩,
  ⟨(some 13), none, .simple (.fieldAddr 1 (.tmp 1))⟩,
  ⟨(some 14), none, .simple (.load none (.tmp 13))⟩] none)
(.both (.region [
   ⟨(some 15), none, .callx (.func 56) [(.tmp 14)]⟩,
   ⟨(some 16), none, .simple (.build [(.d (.int .i64 0)), (.d .nils), (.d .nils), (.d .nils), (.d .nils), (.d .nils)] [(0, 1, (.tmp 12)), (1, 1, (.tmp 15))])⟩,
   ⟨(some 3), none, .simple (.alloc [(.d (.int .i64 0)), (.d .nils), (.d .nils), (.d .nils), (.d .nils), (.d .nils)])⟩,
   ⟨none, none, .simple (.store 6 (.tmp 3) (.tmp 16))⟩] (some [1, 2, 3]))
 (.region [
   ⟨(some 3), none, .simple (.alloc [(.d (.int .i64 0)), (.d .nils), (.d .nils), (.d .nils), (.d .nils), (.d .nils)])⟩,
   ⟨(some 15), none, .callx (.func 56) [(.tmp 14)]⟩,
   ⟨(some 16), none, .simple (.build [(.d (.int .i64 0)), (.d .nils), (.d .nils), (.d .nils), (.d .nils), (.d .nils)] [(0, 1, (.tmp 12)), (1, 1, (.tmp 15))])⟩,
   ⟨none, none, .simple (.store 6 (.tmp 3) (.tmp 16))⟩] (some [1, 2, 3]))))
(.seq (.seq (.region [
  ⟨(some 4), none, .simple (.move (.const (.int .i64 0)))⟩] (some [1, 2, 3, 4]))
(.block 0 (.loop (.seq (.seq (.region [
    ⟨(some 17), none, .simple (.move (.tmp 4))⟩,
    ⟨(some 18), none, .simple (.fieldAddr 2 (.tmp 1))⟩,
    ⟨(some 19), none, .simple (.load none (.tmp 18))⟩,
    ⟨(some 20), none, .simple (.len (.tmp 19))⟩,
    ⟨(some 21), none, .simple (.bin .lss (.tmp 17) (.tmp 20))⟩] (some [1, 2, 3, 4, 21]))
  (.cond (.tmp 21)
   .skip
   (.exit 0)))
  (.seq (.block 1 (.seq (.region [
     ⟨(some 24), none, .simple (.fieldAddr 2 (.tmp 1))⟩,
     ⟨(some 25), none, .simple (.load none (.tmp 24))⟩,
     ⟨(some 26), none, .simple (.move (.tmp 4))⟩,
     ⟨(some 27), none, .simple (.indexS 7 (.tmp 25) (.tmp 26))⟩,
     ⟨(some 28), none, .simple (.load (some 7) (.tmp 27))⟩,
     ⟨(some 5), none, .simple (.alloc [(.d (.int .i64 0)), (.d (.int .i64 0)), (.d (.int .i64 0)), (.d (.int .i64 0)), (.d (.int .i64 0)), (.d (.int .i64 0)), (.d (.int .i64 0))])⟩,
     ⟨none, none, .simple (.store 7 (.tmp 5) (.tmp 28))⟩] (some [1, 2, 3, 4, 5]))
   (.region [
     ⟨(some 29), none, .simple (.fieldAddr 2 (.tmp 3))⟩,
     ⟨(some 30), none, .simple (.load none (.tmp 29))⟩,
     ⟨(some 31), none, .simple (.fieldAddr 0 (.tmp 5))⟩,
     ⟨(some 32), none, .simple (.load none (.tmp 31))⟩,
     ⟨(some 33), none, .simple (.fieldAddr 1 (.tmp 5))⟩,
     ⟨(some 34), none, .simple (.load none (.tmp 33))⟩,
     ⟨(some 35), none, .simple (.fieldAddr 2 (.tmp 5))⟩,
     ⟨(some 36), none, .simple (.load none (.tmp 35))⟩,
     ⟨(some 37), none, .simple (.fieldAddr 3 (.tmp 5))⟩,
     ⟨(some 38), none, .simple (.load (some 2) (.tmp 37))⟩,
     ⟨(some 40), none, .simple (.fieldAddr 5 (.tmp 5))⟩,
     ⟨(some 41), none, .simple (.load (some 2) (.tmp 40))⟩,
     ⟨(some 39), none, .callx (.func 61) [(.tmp 38)]⟩,
     ⟨(some 42), none, .callx (.func 61) [(.tmp 41)]⟩,
     ⟨(some 43), none, .simple (.build [(.d (.int .i64 0)), (.d (.int .i64 0)), (.d (.int .i64 0)), (.d (.int .i64 0)), (.d (.int .i64 0)), (.d (.int .i64 0)), (.d (.int .i64 0))] [(0, 1, (.tmp 32)), (1, 1, (.tmp 34)), (2, 1, (.tmp 36)), (3, 2, (.tmp 39)), (5, 2, (.tmp 42))])⟩,
     ⟨(some 44), none, .simple (.bslice false 93 7 1 [(.int .i64 0), (.int .i64 0), (.int .i64 0), (.int .i64 0), (.int .i64 0), (.int .i64 0), (.int .i64 0)] [(0, (.tmp 43))])⟩,
     ⟨(some 45), none, .app 93 7 56 (.tmp 30) (.tmp 44)⟩,
     ⟨(some 46), none, .simple (.fieldAddr 2 (.tmp 3))⟩,
     ⟨none, none, .simple (.store 1 (.tmp 46) (.tmp 45))⟩] (some [1, 2, 3, 4]))))
  (.region [
    ⟨(some 22), none, .simple (.move (.tmp 4))⟩,
    ⟨(some 23), none, .simple (.bin .add (.tmp 22) (.const (.int .i64 1)))⟩,
    ⟨(some 4), none, .simple (.move (.tmp 23))⟩] (some [1, 2, 3, 4])))))))
(.seq (.seq (.region [
  ⟨(some 6), none, .simple (.move (.const (.int .i64 0)))⟩] (some [1, 2, 3, 6]))
(.block 2 (.loop (.seq (.seq (.region [
    ⟨(some 47), none, .simple (.move (.tmp 6))⟩,
    ⟨(some 48), none, .simple (.fieldAddr 3 (.tmp 1))⟩,
    ⟨(some 49), none, .simple (.load none (.tmp 48))⟩,
    ⟨(some 50), none, .simple (.len (.tmp 49))⟩,
    ⟨(some 51), none, .simple (.bin .lss (.tmp 47) (.tmp 50))⟩] (some [1, 2, 3, 6, 51]))
  (.cond (.tmp 51)
   .skip
   (.exit 2)))
  (.seq (.block 3 (.seq (.region [
     ⟨(some 54), none, .simple (.fieldAddr 3 (.tmp 1))⟩,
     ⟨(some 55), none, .simple (.load none (.tmp 54))⟩,
     ⟨(some 56), none, .simple (.move (.tmp 6))⟩,
     ⟨(some 57), none, .simple (.indexS 3 (.tmp 55) (.tmp 56))⟩,
     ⟨(some 58), none, .simple (.load (some 3) (.tmp 57))⟩,
     ⟨(some 7), none, .simple (.alloc [(.d (.int .i64 0)), (.d (.int .i64 0)), (.d (.int .i64 0))])⟩,
     ⟨none, none, .simple (.store 3 (.tmp 7) (.tmp 58))⟩] (some [1, 2, 3, 6, 7]))
   (.region [
     ⟨(some 59), none, .simple (.fieldAddr 3 (.tmp 3))⟩,
     ⟨(some 60), none, .simple (.load none (.tmp 59))⟩,
     ⟨(some 61), none, .simple (.fieldAddr 0 (.tmp 7))⟩,
     ⟨(some 62), none, .simple (.load none (.tmp 61))⟩,
     ⟨(some 63), none, .simple (.fieldAddr 1 (.tmp 7))⟩,
     ⟨(some 64), none, .simple (.load none (.tmp 63))⟩,
     ⟨(some 65), none, .simple (.fieldAddr 2 (.tmp 7))⟩,
     ⟨(some 66), none, .simple (.load none (.tmp 65))⟩,
     ⟨(some 67), none, .simple (.build [(.d (.int .i64 0)), (.d (.int .i64 0)), (.d (.int .i64 0))] [(0, 1, (.tmp 62)), (1, 1, (.tmp 64)), (2, 1, (.tmp 66))])⟩,
     ⟨(some 68), none, .simple (.bslice false 95 3 1 [(.int .i64 0), (.int .i64 0), (.int .i64 0)] [(0, (.tmp 67))])⟩,
     ⟨(some 69), none, .app 95 3 24 (.tmp 60) (.tmp 68)⟩,
     ⟨(some 70), none, .simple (.fieldAddr 3 (.tmp 3))⟩,
     ⟨none, none, .simple (.store 1 (.tmp 70) (.tmp 69))⟩] (some [1, 2, 3, 6]))))
  (.region [
    ⟨(some 52), none, .simple (.move (.tmp 6))⟩,
    ⟨(some 53), none, .simple (.bin .add (.tmp 52) (.const (.int .i64 1)))⟩,
    ⟨(some 6), none, .simple (.move (.tmp 53))⟩] (some [1, 2, 3, 6])))))))
(.seq (.seq (.region [
  ⟨(some 8), none, .simple (.move (.const (.int .i64 0)))⟩] (some [1, 2, 3, 8]))
(.block 4 (.loop (.seq (.seq (.region [
    ⟨(some 71), none, .simple (.move (.tmp 8))⟩,
    ⟨(some 72), none, .simple (.fieldAddr 4 (.tmp 1))⟩,
    ⟨(some 73), none, .simple (.load none (.tmp 72))⟩,
    ⟨(some 74), none, .simple (.len (.tmp 73))⟩,
    ⟨(some 75), none, .simple (.bin .lss (.tmp 71) (.tmp 74))⟩] (some [1, 2, 3, 8, 75]))
  (.cond (.tmp 75)
   .skip
   (.exit 4)))
  (.seq (.block 5 (.seq (.region [
     ⟨(some 78), none, .simple (.fieldAddr 4 (.tmp 1))⟩,
     ⟨(some 79), none, .simple (.load none (.tmp 78))⟩,
     ⟨(some 80), none, .simple (.move (.tmp 8))⟩,
     ⟨(some 81), none, .simple (.indexS 3 (.tmp 79) (.tmp 80))⟩,
     ⟨(some 82), none, .simple (.load (some 3) (.tmp 81))⟩,
     ⟨(some 9), none, .simple (.alloc [(.d (.int .i64 0)), (.d (.int .i64 0)), (.d (.int .i64 0))])⟩,
     ⟨none, none, .simple (.store 3 (.tmp 9) (.tmp 82))⟩] (some [1, 2, 3, 8, 9]))
   (.region [
     ⟨(some 83), none, .simple (.fieldAddr 4 (.tmp 3))⟩,
     ⟨(some 84), none, .simple (.load none (.tmp 83))⟩,
     ⟨(some 85), none, .simple (.fieldAddr 0 (.tmp 9))⟩,
     ⟨(some 86), none, .simple (.load none (.tmp 85))⟩,
     ⟨(some 87), none, .simple (.fieldAddr 1 (.tmp 9))⟩,
     ⟨(some 88), none, .simple (.load none (.tmp 87))⟩,
     ⟨(some 89), none, .simple (.fieldAddr 2 (.tmp 9))⟩,
     ⟨(some 90), none, .simple (.load none (.tmp 89))⟩,
     ⟨(some 91), none, .simple (.build [(.d (.int .i64 0)), (.d (.int .i64 0)), (.d (.int .i64 0))] [(0, 1, (.tmp 86)), (1, 1, (.tmp 88)), (2, 1, (.tmp 90))])⟩,
     ⟨(some 92), none, .simple (.bslice false 96 3 1 [(.int .i64 0), (.int .i64 0), (.int .i64 0)] [(0, (.tmp 91))])⟩,
     ⟨(some 93), none, .app 96 3 24 (.tmp 84) (.tmp 92)⟩,
     ⟨(some 94), none, .simple (.fieldAddr 4 (.tmp 3))⟩,
     ⟨none, none, .simple (.store 1 (.tmp 94) (.tmp 93))⟩] (some [1, 2, 3, 8]))))
  (.region [
    ⟨(some 76), none, .simple (.move (.tmp 8))⟩,
    ⟨(some 77), none, .simple (.bin .add (.tmp 76) (.const (.int .i64 1)))⟩,
    ⟨(some 8), none, .simple (.move (.tmp 77))⟩] (some [1, 2, 3, 8])))))))
(.seq (.seq (.region [
  ⟨(some 10), none, .simple (.move (.const (.int .i64 0)))⟩] (some [1, 2, 3, 10]))
(.block 6 (.loop (.seq (.seq (.region [
    ⟨(some 95), none, .simple (.move (.tmp 10))⟩,
    ⟨(some 96), none, .simple (.fieldAddr 5 (.tmp 1))⟩,
    ⟨(some 97), none, .simple (.load none (.tmp 96))⟩,
    ⟨(some 98), none, .simple (.len (.tmp 97))⟩,
    ⟨(some 99), none, .simple (.bin .lss (.tmp 95) (.tmp 98))⟩] (some [1, 2, 3, 10, 99]))
  (.cond (.tmp 99)
   .skip
   (.exit 6)))
  (.seq (.block 7 (.region [
     ⟨(some 102), none, .simple (.fieldAddr 5 (.tmp 3))⟩,
     ⟨(some 103), none, .simple (.load none (.tmp 102))⟩,
     ⟨(some 104), none, .simple (.fieldAddr 5 (.tmp 1))⟩,
     ⟨(some 105), none, .simple (.load none (.tmp 104))⟩,
     ⟨(some 106), none, .simple (.move (.tmp 10))⟩,
     ⟨(some 107), none, .simple (.indexS 2 (.tmp 105) (.tmp 106))⟩,
     ⟨(some 108), none, .simple (.load (some 2) (.tmp 107))⟩,
     ⟨(some 109), none, .callx (.func 61) [(.tmp 108)]⟩,
     ⟨(some 110), none, .simple (.bslice false 71 2 1 [(.int .i64 0), (.int .i64 0)] [(0, (.tmp 109))])⟩,
     ⟨(some 111), none, .app 71 2 16 (.tmp 103) (.tmp 110)⟩,
     ⟨(some 112), none, .simple (.fieldAddr 5 (.tmp 3))⟩,
     ⟨none, none, .simple (.store 1 (.tmp 112) (.tmp 111))⟩] (some [1, 2, 3, 10])))
  (.region [
    ⟨(some 100), none, .simple (.move (.tmp 10))⟩,
    ⟨(some 101), none, .simple (.bin .add (.tmp 100) (.const (.int .i64 1)))⟩,
    ⟨(some 10), none, .simple (.move (.tmp 101))⟩] (some [1, 2, 3, 10])))))))
(.seq (.region [
  ⟨(some 113), none, .simple (.load (some 6) (.tmp 3))⟩,
  ⟨none, none, .simple (.store 6 (.tmp 2) (.tmp 113))⟩] (some [2]))
.ret)))))))
theorem k20 : Try.f20.body.bind (compC Try.prog G20) = some c20 := by kernel_rfl
theorem e20 : compRes Try.prog Try.f20.results.toList = some r20 := by kernel_rfl

/-! 21: contango/contangolaw07.Truth; parameters 1, captured 0 -/
def G21 : Cfg := ⟨[2], [(0, [1, 2]), (1, [2])], 10, []⟩
def r21 : List CRes := [.cell 2 (some 2)]
def c21 : CCode :=
(.seq (.region [
  ⟨(some 1), none, .simple (.box false (.tmp 0))⟩,
  ⟨(some 2), none, .simple (.alloc [(.d .nils), (.d .nils)])⟩] (some [1, 2]))
(.seq (.region [
  ⟨(some 3), none, .simple (.fieldAddr 0 (.tmp 1))⟩,
  ⟨(some 4), none, .simple (.load none (.tmp 3))⟩,
  ⟨(some 6), none, .simple (.fieldAddr 1 (.tmp 1))⟩,
  ⟨(some 7), none, .simple (.load none (.tmp 6))⟩,
  ⟨(some 5), none, .callx (.func 56) [(.tmp 4)]⟩,
  ⟨(some 8), none, .call (.func 56) [(.tmp 7)]⟩,
  ⟨(some 9), none, .simple (.build [(.d .nils), (.d .nils)] [(0, 1, (.tmp 5)), (1, 1, (.tmp 8))])⟩,
  ⟨none, none, .simple (.store 2 (.tmp 2) (.tmp 9))⟩] (some [2]))
.ret))
theorem k21 : Try.f21.body.bind (compC Try.prog G21) = some c21 := by kernel_rfl
theorem e21 : compRes Try.prog Try.f21.results.toList = some r21 := by kernel_rfl

/-! 23: contango/contangoref07.In; parameters 3, captured 0 -/
def G23 : Cfg := ⟨[], [(0, [0, 1, 2]), (1, [6])], 15, []⟩
def r23 : List CRes := [.tmp 6]
def c23 : CCode :=
(.seq (.region [
  ⟨(some 6), none, .simple (.move (.const (.bool false)))⟩] (some [0, 1, 2]))
(.seq (.region [
  ⟨(some 7), none, .simple (.move (.tmp 0))⟩,
  ⟨(some 8), none, .simple (.move (.tmp 1))⟩,
  ⟨(some 9), none, .simple (.bin .geq (.tmp 7) (.tmp 8))⟩,
  ⟨(some 10), none, .simple (.move (.tmp 9))⟩,
  ⟨(some 11), (some (10, true)), .simple (.move (.tmp 0))⟩,
  ⟨(some 12), (some (10, true)), .simple (.move (.tmp 2))⟩,
  ⟨(some 13), (some (10, true)), .simple (.bin .leq (.tmp 11) (.tmp 12))⟩,
  ⟨(some 14), none, .simple (.pick (.tmp 10) (.tmp 13) (.const (.bool false)))⟩,
  ⟨(some 6), none, .simple (.move (.tmp 14))⟩] (some [6]))
.ret))
theorem k23 : Try.f23.body.bind (compC Try.prog G23) = some c23 := by kernel_rfl
theorem e23 : compRes Try.prog Try.f23.results.toList = some r23 := by kernel_rfl

/-! 34: contango/contangolaw07.fault; parameters 1, captured 0 -/
def G34 : Cfg := ⟨[], [(0, [1]), (1, [2])], 5, []⟩
def r34 : List CRes := [.tmp 2]
def c34 : CCode :=
(.seq (.region [
  ⟨(some 1), none, .simple (.box false (.tmp 0))⟩,
  ⟨(some 2), none, .simple (.move (.const (.int .i64 0)))⟩] (some [1]))
(.seq (.region [
  ⟨(some 3), none, .simple (.load (some 6) (.tmp 1))⟩,
  ⟨(some 4), none, .call (.func 69) [(.tmp 3)]⟩,
  ⟨(some 2), none, .simple (.move (.tmp 4))⟩] (some [2]))
.ret))
theorem k34 : Try.f34.body.bind (compC Try.prog G34) = some c34 := by kernel_rfl
theorem e34 : compRes Try.prog Try.f34.results.toList = some r34 := by kernel_rfl

/-! 43: contango/contangoref07.Days; parameters 1, captured 0 -/
def G43 : Cfg := ⟨[], [(0, [1]), (1, [2])], 13, []⟩
def r43 : List CRes := [.tmp 2]
def c43 : CCode :=
(.seq (.region [
  ⟨(some 1), none, .simple (.box false (.tmp 0))⟩,
  ⟨(some 2), none, .simple (.move (.const (.bool false)))⟩] (some [1]))
(.seq (.region [
  ⟨(some 3), none, .simple (.fieldAddr 0 (.tmp 1))⟩,
  ⟨(some 4), none, .simple (.load none (.tmp 3))⟩,
  ⟨(some 5), none, .simple (.fieldAddr 1 (.tmp 1))⟩,
  ⟨(some 6), none, .simple (.load none (.tmp 5))⟩,
  ⟨(some 7), none, .call (.func 23) [(.tmp 4), (.const (.int .i64 0)), (.tmp 6)]⟩,
  ⟨(some 8), none, .simple (.move (.tmp 7))⟩,
  ⟨(some 9), (some (8, true)), .simple (.fieldAddr 1 (.tmp 1))⟩,
  ⟨(some 10), (some (8, true)), .simple (.load none (.tmp 9))⟩,
  ⟨(some 11), (some (8, true)), .simple (.bin .leq (.tmp 10) (.const (.int .i64 11)))⟩,
  ⟨(some 12), none, .simple (.pick (.tmp 8) (.tmp 11) (.const (.bool false)))⟩,
  ⟨(some 2), none, .simple (.move (.tmp 12))⟩] (some [2]))
.ret))
theorem k43 : Try.f43.body.bind (compC Try.prog G43) = some c43 := by kernel_rfl
theorem e43 : compRes Try.prog Try.f43.results.toList = some r43 := by kernel_rfl

/-! 49: contango/contangoref07.Registered; parameters 2, captured 0 -/
def G49 : Cfg := ⟨[], [(0, [1, 2]), (1, [2, 5]), (2, [2, 5, 8]), (4, [2, 5, 13]), (5, [4]), (3, [2, 5]), (6, [4])], 15, []⟩
def r49 : List CRes := [.tmp 4]
def c49 : CCode :=
(.seq (.region [
  ⟨(some 2), none, .simple (.box false (.tmp 0))⟩,
  ⟨(some 4), none, .simple (.move (.const (.int .i64 0)))⟩] (some [1, 2]))
(.seq (.seq (.region [
  ⟨(some 6), none, .simple (.move (.tmp 1))⟩,
  ⟨(some 5), none, .simple (.move (.tmp 6))⟩] (some [2, 5]))
(.block 0 (.loop (.seq (.seq (.region [
    ⟨(some 7), none, .simple (.move (.tmp 5))⟩,
    ⟨(some 8), none, .simple (.bin .leq (.tmp 7) (.const (.int .i64 11)))⟩] (some [2, 5, 8]))
  (.cond (.tmp 8)
   .skip
   (.exit 0)))
  (.seq (.block 1 (.seq (.region [
     ⟨(some 11), none, .simple (.load (some 6) (.tmp 2))⟩,
     ⟨(some 12), none, .simple (.move (.tmp 5))⟩,
     ⟨(some 13), none, .call (.func 81) [(.tmp 11), (.tmp 12)]⟩] (some [2, 5, 13]))
   (.cond (.tmp 13)
    (.seq (.region [
      ⟨(some 14), none, .simple (.move (.tmp 5))⟩,
      ⟨(some 4), none, .simple (.move (.tmp 14))⟩] (some [4]))
    .ret)
    .skip)))
  (.region [
    ⟨(some 9), none, .simple (.move (.tmp 5))⟩,
    ⟨(some 10), none, .simple (.bin .add (.tmp 9) (.const (.int .i64 1)))⟩,
    ⟨(some 5), none, .simple (.move (.tmp 10))⟩] (some [2, 5])))))))
(.seq (.region [
  ⟨(some 4), none, .simple (.move (.const (.int .i64 (-1))))⟩] (some [4]))
.ret)))
theorem k49 : Try.f49.body.bind (compC Try.prog G49) = some c49 := by kernel_rfl
theorem e49 : compRes Try.prog Try.f49.results.toList = some r49 := by kernel_rfl

/-! 56: contango/contangolaw07.list; parameters 1, captured 0 -/
def G56 : Cfg := ⟨[5, 3], [(0, [0]), (1, [2])], 6, []⟩
def r56 : List CRes := [.tmp 2]
def c56 : CCode :=
(.seq (.region [
  ⟨(some 2), none, .simple (.move (.const (.slice none 0 0)))⟩] (some [0]))
(.seq (.region [
  ⟨(some 3), none, .simple (.bslice true 3 1 0 [] [])⟩,
  ⟨(some 4), none, .simple (.move (.tmp 0))⟩,
  ⟨(some 5), none, .app 3 1 8 (.tmp 3) (.tmp 4)⟩,
  ⟨(some 2), none, .simple (.move (.tmp 5))⟩] (some [2]))
.ret))
theorem k56 : Try.f56.body.bind (compC Try.prog G56) = some c56 := by kernel_rfl
theorem e56 : compRes Try.prog Try.f56.results.toList = some r56 := by kernel_rfl

/-! 61: contango/contangolaw07.to; parameters 1, captured 0 -/
def G61 : Cfg := ⟨[2], [(0, [1, 2]), (1, [2])], 8, []⟩
def r61 : List CRes := [.cell 2 (some 2)]
def c61 : CCode :=
(.seq (.region [
  ⟨(some 1), none, .simple (.box false (.tmp 0))⟩,
  ⟨(some 2), none, .simple (.alloc [(.d (.int .i64 0)), (.d (.int .i64 0))])⟩] (some [1, 2]))
(.seq (.region [
  ⟨(some 3), none, .simple (.fieldAddr 0 (.tmp 1))⟩,
  ⟨(some 4), none, .simple (.load none (.tmp 3))⟩,
  ⟨(some 5), none, .simple (.fieldAddr 1 (.tmp 1))⟩,
  ⟨(some 6), none, .simple (.load none (.tmp 5))⟩,
  ⟨(some 7), none, .simple (.build [(.d (.int .i64 0)), (.d (.int .i64 0))] [(0, 1, (.tmp 4)), (1, 1, (.tmp 6))])⟩,
  ⟨none, none, .simple (.store 2 (.tmp 2) (.tmp 7))⟩] (some [2]))
.ret))
theorem k61 : Try.f61.body.bind (compC Try.prog G61) = some c61 := by kernel_rfl
theorem e61 : compRes Try.prog Try.f61.results.toList = some r61 := by kernel_rfl

/-! 69: contango/contangoref07.Fault; parameters 1, captured 0 -/
def G69 : Cfg := ⟨[5, 7, 10], [(0, [1]), (1, [1, 38]), (2, [2]), (3, [1, 49]), (4, [2]), (5, [1, 3]), (6, [1, 3, 53]), (8, [1, 3, 62]), (9, [2]), (7, [1, 3]), (10, [1, 4]), (11, [1, 4, 67]), (13, [1, 4, 5]), (14, [1, 4, 135]), (15, [2]), (12, [1, 4]), (16, [1, 6]), (17, [1, 6, 140]), (19, [1, 6, 7]), (20, [1, 6, 160]), (21, [2]), (18, [1, 6]), (22, [1, 8]), (23, [1, 8, 9]), (24, [1, 8, 9, 165]), (26, [1, 8, 9, 10]), (27, [1, 9, 10, 190]), (28, [2]), (29, [1, 8, 9]), (25, [1, 8, 9]), (30, [1, 11]), (31, [1, 11, 197]), (33, [1, 11, 206]), (34, [2]), (32, [1, 11]), (35, [2])], 207, []⟩
def r69 : List CRes := [.tmp 2]
def c69 : CCode :=
(.seq (.region [
  ⟨(some 1), none, .simple (.box false (.tmp 0))⟩,
  ⟨(some 2), none, .simple (.move (.const (.int .i64 0)))⟩] (some [1]))
(.seq (.seq (.region [
  ⟨(some 12), none, .simple (.fieldAddr 0 (.tmp 1))⟩,
  ⟨(some 13), none, .simple (.load none (.tmp 12))⟩,
  ⟨(some 14), none, .simple (.bin .gtr (.tmp 13) (.const (.int .i64 4)))⟩,
  ⟨(some 15), none, .simple (.move (.tmp 14))⟩,
  ⟨(some 16), (some (15, false)), .simple (.fieldAddr 2 (.tmp 1))⟩,
  ⟨(some 17), (some (15, false)), .simple (.load none (.tmp 16))⟩,
  ⟨(some 18), (some (15, false)), .simple (.len (.tmp 17))⟩,
  ⟨(some 19), (some (15, false)), .simple (.bin .gtr (.tmp 18) (.const (.int .i64 4)))⟩,
  ⟨(some 20), none, .simple (.pick (.tmp 15) (.const (.bool true)) (.tmp 19))⟩,
  ⟨(some 21), none, .simple (.move (.tmp 20))⟩,
  ⟨(some 22), (some (21, false)), .simple (.fieldAddr 3 (.tmp 1))⟩,
  ⟨(some 23), (some (21, false)), .simple (.load none (.tmp 22))⟩,
  ⟨(some 24), (some (21, false)), .simple (.len (.tmp 23))⟩,
  ⟨(some 25), (some (21, false)), .simple (.bin .gtr (.tmp 24) (.const (.int .i64 3)))⟩,
  ⟨(some 26), none, .simple (.pick (.tmp 21) (.const (.bool true)) (.tmp 25))⟩,
  ⟨(some 27), none, .simple (.move (.tmp 26))⟩,
  ⟨(some 28), (some (27, false)), .simple (.fieldAddr 4 (.tmp 1))⟩,
  ⟨(some 29), (some (27, false)), .simple (.load none (.tmp 28))⟩,
  ⟨(some 30), (some (27, false)), .simple (.len (.tmp 29))⟩,
  ⟨(some 31), (some (27, false)), .simple (.bin .gtr (.tmp 30) (.const (.int .i64 2)))⟩,
  ⟨(some 32), none, .simple (.pick (.tmp 27) (.const (.bool true)) (.tmp 31))⟩,
  ⟨(some 33), none, .simple (.move (.tmp 32))⟩,
  ⟨(some 34), (some (33, false)), .simple (.fieldAddr 5 (.tmp 1))⟩,
  ⟨(some 35), (some (33, false)), .simple (.load none (.tmp 34))⟩,
  ⟨(some 36), (some (33, false)), .simple (.len (.tmp 35))⟩,
  ⟨(some 37), (some (33, false)), .simple (.bin .gtr (.tmp 36) (.const (.int .i64 2)))⟩,
  ⟨(some 38), none, .simple (.pick (.tmp 33) (.const (.bool true)) (.tmp 37))⟩] (some [1, 38]))
(.cond (.tmp 38)
 (.seq (.region [
   ⟨(some 2), none, .simple (.move (.const (.int .i64 3)))⟩] (some [2]))
 .ret)
 .skip))
(.seq (.seq (.region [
  ⟨(some 39), none, .simple (.fieldAddr 0 (.tmp 1))⟩,
  ⟨(some 40), none, .simple (.load none (.tmp 39))⟩,
  ⟨(some 41), none, .simple (.bin .lss (.tmp 40) (.const (.int .i64 1)))⟩,
  ⟨(some 42), none, .simple (.move (.tmp 41))⟩,
  ⟨(some 43), (some (42, false)), .simple (.fieldAddr 1 (.tmp 1))⟩,
  ⟨(some 44), (some (42, false)), .simple (.load none (.tmp 43))⟩,
  ⟨(some 45), (some (42, false)), .simple (.len (.tmp 44))⟩,
  ⟨(some 46), (some (42, false)), .simple (.fieldAddr 0 (.tmp 1))⟩,
  ⟨(some 47), (some (42, false)), .simple (.load none (.tmp 46))⟩,
  ⟨(some 48), (some (42, false)), .simple (.bin .neq (.tmp 45) (.tmp 47))⟩,
  ⟨(some 49), none, .simple (.pick (.tmp 42) (.const (.bool true)) (.tmp 48))⟩] (some [1, 49]))
(.cond (.tmp 49)
 (.seq (.region [
   ⟨(some 2), none, .simple (.move (.const (.int .i64 1)))⟩] (some [2]))
 .ret)
 .skip))
(.seq (.seq (.region [
  ⟨(some 3), none, .simple (.move (.const (.int .i64 0)))⟩] (some [1, 3]))
(.block 0 (.loop (.seq (.seq (.region [
    ⟨(some 50), none, .simple (.move (.tmp 3))⟩,
    ⟨(some 51), none, .simple (.fieldAddr 0 (.tmp 1))⟩,
    ⟨(some 52), none, .simple (.load none (.tmp 51))⟩,
    ⟨(some 53), none, .simple (.bin .lss (.tmp 50) (.tmp 52))⟩] (some [1, 3, 53]))
  (.cond (.tmp 53)
   .skip
   (.exit 0)))
  (.seq (.block 1 (.seq (.region [
     ⟨(some 56), none, .simple (.fieldAddr 1 (.tmp 1))⟩,
     ⟨(some 57), none, .simple (.load none (.tmp 56))⟩,
     ⟨(some 58), none, .simple (.move (.tmp 3))⟩,
     ⟨(some 59), none, .simple (.indexS 1 (.tmp 57) (.tmp 58))⟩,
     ⟨(some 60), none, .simple (.load none (.tmp 59))⟩,
     ⟨(some 61), none, .call (.func 23) [(.tmp 60), (.const (.int .i64 0)), (.const (.int .i64 100))]⟩,
     ⟨(some 62), none, .simple (.un .not (.tmp 61))⟩] (some [1, 3, 62]))
   (.cond (.tmp 62)
    (.seq (.region [
      ⟨(some 2), none, .simple (.move (.const (.int .i64 1)))⟩] (some [2]))
    .ret)
    .skip)))
  (.region [
    ⟨(some 54), none, .simple (.move (.tmp 3))⟩,
    ⟨(some 55), none, .simple (.bin .add (.tmp 54) (.const (.int .i64 1)))⟩,
    ⟨(some 3), none, .simple (.move (.tmp 55))⟩] (some [1, 3])))))))
(.seq (.seq (.region [
  ⟨(some 4), none, .simple (.move (.const (.int .i64 0)))⟩] (some [1, 4]))
(.block 2 (.loop (.seq (.seq (.region [
    ⟨(some 63), none, .simple (.move (.tmp 4))⟩,
    ⟨(some 64), none, .simple (.fieldAddr 2 (.tmp 1))⟩,
    ⟨(some 65), none, .simple (.load none (.tmp 64))⟩,
    ⟨(some 66), none, .simple (.len (.tmp 65))⟩,
    ⟨(some 67), none, .simple (.bin .lss (.tmp 63) (.tmp 66))⟩] (some [1, 4, 67]))
  (.cond (.tmp 67)
   .skip
   (.exit 2)))
  (.seq (.block 3 (.seq (.region [
     ⟨(some 70), none, .simple (.fieldAddr 2 (.tmp 1))⟩,
     ⟨(some 71), none, .simple (.load none (.tmp 70))⟩,
     ⟨(some 72), none, .simple (.move (.tmp 4))⟩,
     ⟨(some 73), none, .simple (.indexS 7 (.tmp 71) (.tmp 72))⟩,
     ⟨(some 74), none, .simple (.load (some 7) (.tmp 73))⟩,
     ⟨(some 5), none, .simple (.alloc [(.d (.int .i64 0)), (.d (.int .i64 0)), (.d (.int .i64 0)), (.d (.int .i64 0)), (.d (.int .i64 0)), (.d (.int .i64 0)), (.d (.int .i64 0))])⟩,
     ⟨none, none, .simple (.store 7 (.tmp 5) (.tmp 74))⟩] (some [1, 4, 5]))
   (.seq (.region [
     ⟨(some 75), none, .simple (.fieldAddr 0 (.tmp 5))⟩,
     ⟨(some 76), none, .simple (.load none (.tmp 75))⟩,
     ⟨(some 77), none, .simple (.fieldAddr 0 (.tmp 1))⟩,
     ⟨(some 78), none, .simple (.load none (.tmp 77))⟩,
     ⟨(some 79), none, .simple (.bin .sub (.tmp 78) (.const (.int .i64 1)))⟩,
     ⟨(some 80), none, .call (.func 23) [(.tmp 76), (.const (.int .i64 0)), (.tmp 79)]⟩,
     ⟨(some 81), none, .simple (.un .not (.tmp 80))⟩,
     ⟨(some 82), none, .simple (.move (.tmp 81))⟩,
     ⟨(some 83), (some (82, false)), .simple (.fieldAddr 1 (.tmp 5))⟩,
     ⟨(some 84), (some (82, false)), .simple (.load none (.tmp 83))⟩,
     ⟨(some 85), (some (82, false)), .simple (.fieldAddr 0 (.tmp 1))⟩,
     ⟨(some 86), (some (82, false)), .simple (.load none (.tmp 85))⟩,
     ⟨(some 87), (some (82, false)), .simple (.bin .sub (.tmp 86) (.const (.int .i64 1)))⟩,
     ⟨(some 88), (some (82, false)), .call (.func 23) [(.tmp 84), (.const (.int .i64 0)), (.tmp 87)]⟩,
     ⟨(some 89), (some (82, false)), .simple (.un .not (.tmp 88))⟩,
     ⟨(some 90), none, .simple (.pick (.tmp 82) (.const (.bool true)) (.tmp 89))⟩,
     ⟨(some 91), none, .simple (.move (.tmp 90))⟩,
     ⟨(some 92), (some (91, false)), .simple (.fieldAddr 0 (.tmp 5))⟩,
     ⟨(some 93), (some (91, false)), .simple (.load none (.tmp 92))⟩,
     ⟨(some 94), (some (91, false)), .simple (.fieldAddr 1 (.tmp 5))⟩,
     ⟨(some 95), (some (91, false)), .simple (.load none (.tmp 94))⟩,
     ⟨(some 96), (some (91, false)), .simple (.bin .eql (.tmp 93) (.tmp 95))⟩,
     ⟨(some 97), none, .simple (.pick (.tmp 91) (.const (.bool true)) (.tmp 96))⟩,
     ⟨(some 98), none, .simple (.move (.tmp 97))⟩,
     ⟨(some 99), (some (98, false)), .simple (.fieldAddr 2 (.tmp 5))⟩,
     ⟨(some 100), (some (98, false)), .simple (.load none (.tmp 99))⟩,
     ⟨(some 101), (some (98, false)), .call (.func 23) [(.tmp 100), (.const (.int .i64 1)), (.const (.int .i64 100))]⟩,
     ⟨(some 102), (some (98, false)), .simple (.un .not (.tmp 101))⟩,
     ⟨(some 103), none, .simple (.pick (.tmp 98) (.const (.bool true)) (.tmp 102))⟩,
     ⟨(some 104), none, .simple (.move (.tmp 103))⟩,
     ⟨(some 105), (some (104, false)), .simple (.fieldAddr 3 (.tmp 5))⟩,
     ⟨(some 106), (some (104, false)), .simple (.load (some 2) (.tmp 105))⟩,
     ⟨(some 107), (some (104, false)), .call (.func 43) [(.tmp 106)]⟩,
     ⟨(some 108), (some (104, false)), .simple (.un .not (.tmp 107))⟩,
     ⟨(some 109), none, .simple (.pick (.tmp 104) (.const (.bool true)) (.tmp 108))⟩,
     ⟨(some 110), none, .simple (.move (.tmp 109))⟩,
     ⟨(some 111), (some (110, false)), .simple (.fieldAddr 5 (.tmp 5))⟩,
     ⟨(some 112), (some (110, false)), .simple (.load (some 2) (.tmp 111))⟩,
     ⟨(some 113), (some (110, false)), .call (.func 43) [(.tmp 112)]⟩,
     ⟨(some 114), (some (110, false)), .simple (.un .not (.tmp 113))⟩,
     ⟨(some 115), none, .simple (.pick (.tmp 110) (.const (.bool true)) (.tmp 114))⟩,
     ⟨(some 116), none, .simple (.move (.tmp 115))⟩,
     ⟨(some 117), (some (116, false)), .simple (.fieldAddr 3 (.tmp 5))⟩,
     ⟨(some 118), (some (116, false)), .simple (.fieldAddr 1 (.tmp 117))⟩,
     ⟨(some 119), (some (116, false)), .simple (.load none (.tmp 118))⟩,
     ⟨(some 120), (some (116, false)), .simple (.fieldAddr 3 (.tmp 5))⟩,
     ⟨(some 121), (some (116, false)), .simple (.fieldAddr 0 (.tmp 120))⟩,
     ⟨(some 122), (some (116, false)), .simple (.load none (.tmp 121))⟩,
     ⟨(some 123), (some (116, false)), .simple (.bin .sub (.tmp 119) (.tmp 122))⟩,
     ⟨(some 124), (some (116, false)), .simple (.bin .gtr (.tmp 123) (.const (.int .i64 2)))⟩,
     ⟨(some 125), none, .simple (.pick (.tmp 116) (.const (.bool true)) (.tmp 124))⟩,
     ⟨(some 126), none, .simple (.move (.tmp 125))⟩,
     ⟨(some 127), (some (126, false)), .simple (.fieldAddr 5 (.tmp 5))⟩,
     ⟨(some 128), (some (126, false)), .simple (.fieldAddr 1 (.tmp 127))⟩,
     ⟨(some 129), (some (126, false)), .simple (.load none (.tmp 128))⟩,
     ⟨(some 130), (some (126, false)), .simple (.fieldAddr 5 (.tmp 5))⟩,
     ⟨(some 131), (some (126, false)), .simple (.fieldAddr 0 (.tmp 130))⟩,
     ⟨(some 132), (some (126, false)), .simple (.load none (.tmp 131))⟩,
     ⟨(some 133), (some (126, false)), .simple (.bin .sub (.tmp 129) (.tmp 132))⟩,
     ⟨(some 134), (some (126, false)), .simple (.bin .gtr (.tmp 133) (.const (.int .i64 2)))⟩,
     ⟨(some 135), none, .simple (.pick (.tmp 126) (.const (.bool true)) (.tmp 134))⟩] (some [1, 4, 135]))
   (.cond (.tmp 135)
    (.seq (.region [
      ⟨(some 2), none, .simple (.move (.const (.int .i64 1)))⟩] (some [2]))
    .ret)
    .skip))))
  (.region [
    ⟨(some 68), none, .simple (.move (.tmp 4))⟩,
    ⟨(some 69), none, .simple (.bin .add (.tmp 68) (.const (.int .i64 1)))⟩,
    ⟨(some 4), none, .simple (.move (.tmp 69))⟩] (some [1, 4])))))))
(.seq (.seq (.region [
  ⟨(some 6), none, .simple (.move (.const (.int .i64 0)))⟩] (some [1, 6]))
(.block 4 (.loop (.seq (.seq (.region [
    ⟨(some 136), none, .simple (.move (.tmp 6))⟩,
    ⟨(some 137), none, .simple (.fieldAddr 3 (.tmp 1))⟩,
    ⟨(some 138), none, .simple (.load none (.tmp 137))⟩,
    ⟨(some 139), none, .simple (.len (.tmp 138))⟩,
    ⟨(some 140), none, .simple (.bin .lss (.tmp 136) (.tmp 139))⟩] (some [1, 6, 140]))
  (.cond (.tmp 140)
   .skip
   (.exit 4)))
  (.seq (.block 5 (.seq (.region [
     ⟨(some 143), none, .simple (.fieldAddr 3 (.tmp 1))⟩,
     ⟨(some 144), none, .simple (.load none (.tmp 143))⟩,
     ⟨(some 145), none, .simple (.move (.tmp 6))⟩,
     ⟨(some 146), none, .simple (.indexS 3 (.tmp 144) (.tmp 145))⟩,
     ⟨(some 147), none, .simple (.load (some 3) (.tmp 146))⟩,
     ⟨(some 7), none, .simple (.alloc [(.d (.int .i64 0)), (.d (.int .i64 0)), (.d (.int .i64 0))])⟩,
     ⟨none, none, .simple (.store 3 (.tmp 7) (.tmp 147))⟩] (some [1, 6, 7]))
   (.seq (.region [
     ⟨(some 148), none, .simple (.fieldAddr 0 (.tmp 7))⟩,
     ⟨(some 149), none, .simple (.load none (.tmp 148))⟩,
     ⟨(some 150), none, .simple (.fieldAddr 1 (.tmp 7))⟩,
     ⟨(some 151), none, .simple (.load none (.tmp 150))⟩,
     ⟨(some 152), none, .simple (.build [(.d (.int .i64 0)), (.d (.int .i64 0))] [(0, 1, (.tmp 149)), (1, 1, (.tmp 151))])⟩,
     ⟨(some 153), none, .call (.func 43) [(.tmp 152)]⟩,
     ⟨(some 154), none, .simple (.un .not (.tmp 153))⟩,
     ⟨(some 155), none, .simple (.move (.tmp 154))⟩,
     ⟨(some 156), (some (155, false)), .simple (.fieldAddr 2 (.tmp 7))⟩,
     ⟨(some 157), (some (155, false)), .simple (.load none (.tmp 156))⟩,
     ⟨(some 158), (some (155, false)), .call (.func 23) [(.tmp 157), (.const (.int .i64 0)), (.const (.int .i64 50))]⟩,
     ⟨(some 159), (some (155, false)), .simple (.un .not (.tmp 158))⟩,
     ⟨(some 160), none, .simple (.pick (.tmp 155) (.const (.bool true)) (.tmp 159))⟩] (some [1, 6, 160]))
   (.cond (.tmp 160)
    (.seq (.region [
      ⟨(some 2), none, .simple (.move (.const (.int .i64 1)))⟩] (some [2]))
    .ret)
    .skip))))
  (.region [
    ⟨(some 141), none, .simple (.move (.tmp 6))⟩,
    ⟨(some 142), none, .simple (.bin .add (.tmp 141) (.const (.int .i64 1)))⟩,
    ⟨(some 6), none, .simple (.move (.tmp 142))⟩] (some [1, 6])))))))
(.seq (.region [
  ⟨(some 8), none, .simple (.move (.const (.int .i64 (-1))))⟩] (some [1, 8]))
(.seq (.seq (.region [
  ⟨(some 9), none, .simple (.move (.const (.int .i64 0)))⟩] (some [1, 8, 9]))
(.block 6 (.loop (.seq (.seq (.region [
    ⟨(some 161), none, .simple (.move (.tmp 9))⟩,
    ⟨(some 162), none, .simple (.fieldAddr 4 (.tmp 1))⟩,
    ⟨(some 163), none, .simple (.load none (.tmp 162))⟩,
    ⟨(some 164), none, .simple (.len (.tmp 163))⟩,
    ⟨(some 165), none, .simple (.bin .lss (.tmp 161) (.tmp 164))⟩] (some [1, 8, 9, 165]))
  (.cond (.tmp 165)
   .skip
   (.exit 6)))
  (.seq (.block 7 (.seq (.region [
     ⟨(some 168), none, .simple (.fieldAddr 4 (.tmp 1))⟩,
     ⟨(some 169), none, .simple (.load none (.tmp 168))⟩,
     ⟨(some 170), none, .simple (.move (.tmp 9))⟩,
     ⟨(some 171), none, .simple (.indexS 3 (.tmp 169) (.tmp 170))⟩,
     ⟨(some 172), none, .simple (.load (some 3) (.tmp 171))⟩,
     ⟨(some 10), none, .simple (.alloc [(.d (.int .i64 0)), (.d (.int .i64 0)), (.d (.int .i64 0))])⟩,
     ⟨none, none, .simple (.store 3 (.tmp 10) (.tmp 172))⟩] (some [1, 8, 9, 10]))
   (.seq (.seq (.region [
     ⟨(some 173), none, .simple (.fieldAddr 0 (.tmp 10))⟩,
     ⟨(some 174), none, .simple (.load none (.tmp 173))⟩,
     ⟨(some 175), none, .simple (.move (.tmp 8))⟩,
     ⟨(some 176), none, .simple (.bin .add (.tmp 175) (.const (.int .i64 1)))⟩,
     ⟨(some 177), none, .call (.func 23) [(.tmp 174), (.tmp 176), (.const (.int .i64 11))]⟩,
     ⟨(some 178), none, .simple (.un .not (.tmp 177))⟩,
     ⟨(some 179), none, .simple (.move (.tmp 178))⟩,
     ⟨(some 180), (some (179, false)), .simple (.fieldAddr 1 (.tmp 10))⟩,
     ⟨(some 181), (some (179, false)), .simple (.load none (.tmp 180))⟩,
     ⟨(some 182), (some (179, false)), .call (.func 23) [(.tmp 181), (.const (.int .i64 1)), (.const (.int .i64 6))]⟩,
     ⟨(some 183), (some (179, false)), .simple (.un .not (.tmp 182))⟩,
     ⟨(some 184), none, .simple (.pick (.tmp 179) (.const (.bool true)) (.tmp 183))⟩,
     ⟨(some 185), none, .simple (.move (.tmp 184))⟩,
     ⟨(some 186), (some (185, false)), .simple (.fieldAddr 2 (.tmp 10))⟩,
     ⟨(some 187), (some (185, false)), .simple (.load none (.tmp 186))⟩,
     ⟨(some 188), (some (185, false)), .call (.func 23) [(.tmp 187), (.const (.int .i64 1)), (.const (.int .i64 4))]⟩,
     ⟨(some 189), (some (185, false)), .simple (.un .not (.tmp 188))⟩,
     ⟨(some 190), none, .simple (.pick (.tmp 185) (.const (.bool true)) (.tmp 189))⟩] (some [1, 9, 10, 190]))
   (.cond (.tmp 190)
    (.seq (.region [
      ⟨(some 2), none, .simple (.move (.const (.int .i64 1)))⟩] (some [2]))
    .ret)
    .skip))
   (.region [
     ⟨(some 191), none, .simple (.fieldAddr 0 (.tmp 10))⟩,
     ⟨(some 192), none, .simple (.load none (.tmp 191))⟩,
     ⟨(some 8), none, .simple (.move (.tmp 192))⟩] (some [1, 8, 9])))))
  (.region [
    ⟨(some 166), none, .simple (.move (.tmp 9))⟩,
    ⟨(some 167), none, .simple (.bin .add (.tmp 166) (.const (.int .i64 1)))⟩,
    ⟨(some 9), none, .simple (.move (.tmp 167))⟩] (some [1, 8, 9])))))))
(.seq (.seq (.region [
  ⟨(some 11), none, .simple (.move (.const (.int .i64 0)))⟩] (some [1, 11]))
(.block 8 (.loop (.seq (.seq (.region [
    ⟨(some 193), none, .simple (.move (.tmp 11))⟩,
    ⟨(some 194), none, .simple (.fieldAddr 5 (.tmp 1))⟩,
    ⟨(some 195), none, .simple (.load none (.tmp 194))⟩,
    ⟨(some 196), none, .simple (.len (.tmp 195))⟩,
    ⟨(some 197), none, .simple (.bin .lss (.tmp 193) (.tmp 196))⟩] (some [1, 11, 197]))
  (.cond (.tmp 197)
   .skip
   (.exit 8)))
  (.seq (.block 9 (.seq (.region [
     ⟨(some 200), none, .simple (.fieldAddr 5 (.tmp 1))⟩,
     ⟨(some 201), none, .simple (.load none (.tmp 200))⟩,
     ⟨(some 202), none, .simple (.move (.tmp 11))⟩,
     ⟨(some 203), none, .simple (.indexS 2 (.tmp 201) (.tmp 202))⟩,
     ⟨(some 204), none, .simple (.load (some 2) (.tmp 203))⟩,
     ⟨(some 205), none, .call (.func 43) [(.tmp 204)]⟩,
     ⟨(some 206), none, .simple (.un .not (.tmp 205))⟩] (some [1, 11, 206]))
   (.cond (.tmp 206)
    (.seq (.region [
      ⟨(some 2), none, .simple (.move (.const (.int .i64 1)))⟩] (some [2]))
    .ret)
    .skip)))
  (.region [
    ⟨(some 198), none, .simple (.move (.tmp 11))⟩,
    ⟨(some 199), none, .simple (.bin .add (.tmp 198) (.const (.int .i64 1)))⟩,
    ⟨(some 11), none, .simple (.move (.tmp 199))⟩] (some [1, 11])))))))
(.seq (.region [
  ⟨(some 2), none, .simple (.move (.const (.int .i64 0)))⟩] (some [2]))
.ret))))))))))
theorem k69 : Try.f69.body.bind (compC Try.prog G69) = some c69 := by kernel_rfl
theorem e69 : compRes Try.prog Try.f69.results.toList = some r69 := by kernel_rfl

/-! 81: contango/contangoref07.Open; parameters 2, captured 0 -/
def G81 : Cfg := ⟨[], [(0, [1, 2]), (1, [1, 2, 5]), (2, [1, 2, 5, 10]), (4, [1, 2, 5, 26]), (5, [4]), (3, [1, 2, 5]), (6, [4])], 27, []⟩
def r81 : List CRes := [.tmp 4]
def c81 : CCode :=
(.seq (.region [
  ⟨(some 2), none, .simple (.box false (.tmp 0))⟩,
  ⟨(some 4), none, .simple (.move (.const (.bool false)))⟩] (some [1, 2]))
(.seq (.seq (.region [
  ⟨(some 5), none, .simple (.move (.const (.int .i64 0)))⟩] (some [1, 2, 5]))
(.block 0 (.loop (.seq (.seq (.region [
    ⟨(some 6), none, .simple (.move (.tmp 5))⟩,
    ⟨(some 7), none, .simple (.fieldAddr 5 (.tmp 2))⟩,
    ⟨(some 8), none, .simple (.load none (.tmp 7))⟩,
    ⟨(some 9), none, .simple (.len (.tmp 8))⟩,
    ⟨(some 10), none, .simple (.bin .lss (.tmp 6) (.tmp 9))⟩] (some [1, 2, 5, 10]))
  (.cond (.tmp 10)
   .skip
   (.exit 0)))
  (.seq (.block 1 (.seq (.region [
     ⟨(some 13), none, .simple (.move (.tmp 1))⟩,
     ⟨(some 14), none, .simple (.fieldAddr 5 (.tmp 2))⟩,
     ⟨(some 15), none, .simple (.load none (.tmp 14))⟩,
     ⟨(some 16), none, .simple (.move (.tmp 5))⟩,
     ⟨(some 17), none, .simple (.indexS 2 (.tmp 15) (.tmp 16))⟩,
     ⟨(some 18), none, .simple (.fieldAddr 0 (.tmp 17))⟩,
     ⟨(some 19), none, .simple (.load none (.tmp 18))⟩,
     ⟨(some 20), none, .simple (.fieldAddr 5 (.tmp 2))⟩,
     ⟨(some 21), none, .simple (.load none (.tmp 20))⟩,
     ⟨(some 22), none, .simple (.move (.tmp 5))⟩,
     ⟨(some 23), none, .simple (.indexS 2 (.tmp 21) (.tmp 22))⟩,
     ⟨(some 24), none, .simple (.fieldAddr 1 (.tmp 23))⟩,
     ⟨(some 25), none, .simple (.load none (.tmp 24))⟩,
     ⟨(some 26), none, .call (.func 23) [(.tmp 13), (.tmp 19), (.tmp 25)]⟩] (some [1, 2, 5, 26]))
   (.cond (.tmp 26)
    (.seq (.region [
      ⟨(some 4), none, .simple (.move (.const (.bool false)))⟩] (some [4]))
    .ret)
    .skip)))
  (.region [
    ⟨(some 11), none, .simple (.move (.tmp 5))⟩,
    ⟨(some 12), none, .simple (.bin .add (.tmp 11) (.const (.int .i64 1)))⟩,
    ⟨(some 5), none, .simple (.move (.tmp 12))⟩] (some [1, 2, 5])))))))
(.seq (.region [
  ⟨(some 4), none, .simple (.move (.const (.bool true)))⟩] (some [4]))
.ret)))
theorem k81 : Try.f81.body.bind (compC Try.prog G81) = some c81 := by kernel_rfl
theorem e81 : compRes Try.prog Try.f81.results.toList = some r81 := by kernel_rfl

/-! 12: contango/contangolaw07.CouponLater; parameters 4, captured 0 -/
def G12 : Cfg := ⟨[45, 42, 39, 11], [(0, [1, 2, 4, 7]), (1, [1, 2, 4, 7, 26]), (2, [8]), (3, [2, 4, 7, 9]), (4, [4, 7, 9, 10]), (5, [4, 7, 9, 10, 11]), (6, [4, 9, 10, 11]), (7, [4, 9, 10, 11, 12, 13]), (8, [9, 11, 12, 13, 14, 15]), (9, [9, 11, 12, 96]), (10, [8]), (11, [9, 11, 12, 99]), (12, [8]), (13, [12, 16, 17]), (14, [8])], 126, [(7, [(11, (some 5))])]⟩
def r12 : List CRes := [.tmp 8]
def c12 : CCode :=
(.seq (.region [
  ⟨(some 4), none, .simple (.box false (.tmp 0))⟩,
  ⟨(some 7), none, .simple (.box false (.tmp 3))⟩,
  ⟨(some 8), none, .simple (.move (.const (.bool false)))⟩] (some [1, 2, 4, 7]))
(.seq (.seq (.region [
  ⟨(some 18), none, .simple (.load (some 6) (.tmp 4))⟩,
  ⟨(some 19), none, .simple (.build [(.d .nils), (.d .nils)] [])⟩,
  ⟨(some 20), none, .call (.func 17) [(.tmp 18), (.tmp 19)]⟩,
  ⟨(some 21), none, .simple (.un .not (.tmp 20))⟩,
  ⟨(some 22), none, .simple (.move (.tmp 21))⟩,
  ⟨(some 23), (some (22, false)), .simple (.load (some 6) (.tmp 4))⟩,
  ⟨(some 24), (some (22, false)), .call (.func 34) [(.tmp 23)]⟩,
  ⟨(some 25), (some (22, false)), .simple (.bin .neq (.tmp 24) (.const (.int .i64 0)))⟩,
  ⟨(some 26), none, .simple (.pick (.tmp 22) (.const (.bool true)) (.tmp 25))⟩] (some [1, 2, 4, 7, 26]))
(.cond (.tmp 26)
 (.seq (.region [
   ⟨(some 27), none, .call (.func 18) []⟩,
   ⟨(some 8), none, .simple (.move (.tmp 27))⟩] (some [8]))
 .ret)
 .skip))
(.seq (.region [
  ⟨(some 28), none, .simple (.move (.tmp 1))⟩,
  ⟨(some 29), none, .simple (.conv .i64 (.tmp 28))⟩,
  ⟨(some 30), none, .simple (.bin .rem (.tmp 29) (.const (.int .i64 12)))⟩,
  ⟨(some 9), none, .simple (.move (.tmp 30))⟩] (some [2, 4, 7, 9]))
(.seq (.region [
  ⟨(some 31), none, .simple (.move (.tmp 9))⟩,
  ⟨(some 32), none, .simple (.move (.tmp 2))⟩,
  ⟨(some 33), none, .simple (.conv .i64 (.tmp 32))⟩,
  ⟨(some 34), none, .simple (.move (.tmp 9))⟩,
  ⟨(some 35), none, .simple (.bin .sub (.const (.int .i64 12)) (.tmp 34))⟩,
  ⟨(some 36), none, .simple (.bin .rem (.tmp 33) (.tmp 35))⟩,
  ⟨(some 37), none, .simple (.bin .add (.tmp 31) (.tmp 36))⟩,
  ⟨(some 10), none, .simple (.move (.tmp 37))⟩] (some [4, 7, 9, 10]))
(.seq (.region [
  ⟨(some 38), none, .simple (.load (some 6) (.tmp 4))⟩,
  ⟨(some 11), none, .simple (.alloc [(.d (.int .i64 0)), (.d .nils), (.d .nils), (.d .nils), (.d .nils), (.d .nils)])⟩,
  ⟨none, none, .simple (.store 6 (.tmp 11) (.tmp 38))⟩] (some [4, 7, 9, 10, 11]))
(.seq (.seq (.region [
  ⟨(some 40), none, .simple (.fieldAddr 5 (.tmp 4))⟩,
  ⟨(some 41), none, .simple (.load none (.tmp 40))⟩] none)
(.both (.seq (.region [
   ⟨(some 39), none, .simple (.bslice true 73 2 0 [] [])⟩] none)
 (.both (.region [
    ⟨(some 42), none, .app 73 2 16 (.tmp 39) (.tmp 41)⟩,
    ⟨(some 43), none, .simple (.load (some 2) (.tmp 7))⟩,
    ⟨(some 44), none, .simple (.bslice false 73 2 1 [(.int .i64 0), (.int .i64 0)] [(0, (.tmp 43))])⟩,
    ⟨(some 45), none, .app 73 2 16 (.tmp 42) (.tmp 44)⟩,
    ⟨(some 46), none, .simple (.fieldAddr 5 (.tmp 11))⟩,
    ⟨none, none, .simple (.store 1 (.tmp 46) (.tmp 45))⟩] (some [4, 9, 10, 11]))
  (.region [
    ⟨(some 43), none, .simple (.load (some 2) (.tmp 7))⟩,
    ⟨(some 44), none, .simple (.bslice false 73 2 1 [(.int .i64 0), (.int .i64 0)] [(0, (.tmp 43))])⟩,
    ⟨(some 42), none, .app 73 2 16 (.tmp 39) (.tmp 41)⟩,
    ⟨(some 45), none, .app 73 2 16 (.tmp 42) (.tmp 44)⟩,
    ⟨(some 46), none, .simple (.fieldAddr 5 (.tmp 11))⟩,
    ⟨none, none, .simple (.store 1 (.tmp 46) (.tmp 45))⟩] (some [4, 9, 10, 11]))))
 (.region [
   ⟨(some 43), none, .simple (.load (some 2) (.tmp 7))⟩,
   ⟨(some 44), none, .simple (.bslice false 73 2 1 [(.int .i64 0), (.int .i64 0)] [(0, (.tmp 43))])⟩,
   ⟨(some 39), none, .simple (.bslice true 73 2 0 [] [])⟩,
   ⟨(some 42), none, .app 73 2 16 (.tmp 39) (.tmp 41)⟩,
   ⟨(some 45), none, .app 73 2 16 (.tmp 42) (.tmp 44)⟩,
   ⟨(some 46), none, .simple (.fieldAddr 5 (.tmp 11))⟩,
   ⟨none, none, .simple (.store 1 (.tmp 46) (.tmp 45))⟩] (some [4, 9, 10, 11]))))
(.seq (.seq (.frz (11, (some 5)))
(.region [
  ⟨(some 48), none, .simple (.load (some 6) (.tmp 4))⟩,
  ⟨(some 49), none, .call (.func 20) [(.tmp 48)]⟩,
  ⟨(some 50), none, .simple (.move (.tmp 9))⟩,
  ⟨(some 51), none, .call (.func 50) [(.tmp 49), (.tmp 50)]⟩,
  ⟨(some 47), none, .simple (.move (.tmp 51))⟩,
  ⟨(some 52), none, .simple (.extract (.tmp 47) 0)⟩,
  ⟨(some 53), none, .simple (.extract (.tmp 47) 1)⟩,
  ⟨(some 12), none, .simple (.move (.tmp 52))⟩,
  ⟨(some 13), none, .simple (.move (.tmp 53))⟩] (some [4, 9, 10, 11, 12, 13])))
(.seq (.region [
  ⟨(some 55), none, .simple (.load (some 6) (.tmp 4))⟩,
  ⟨(some 56), none, .call (.func 20) [(.tmp 55)]⟩,
  ⟨(some 57), none, .simple (.move (.tmp 10))⟩,
  ⟨(some 58), none, .call (.func 50) [(.tmp 56), (.tmp 57)]⟩,
  ⟨(some 54), none, .simple (.move (.tmp 58))⟩,
  ⟨(some 59), none, .simple (.extract (.tmp 54) 0)⟩,
  ⟨(some 60), none, .simple (.extract (.tmp 54) 1)⟩,
  ⟨(some 14), none, .simple (.move (.tmp 59))⟩,
  ⟨(some 15), none, .simple (.move (.tmp 60))⟩] (some [9, 11, 12, 13, 14, 15]))
(.seq (.seq (.region [
  ⟨(some 61), none, .simple (.move (.tmp 13))⟩,
  ⟨(some 62), none, .simple (.bin .neq (.tmp 61) (.const (.int .i64 0)))⟩,
  ⟨(some 63), none, .simple (.move (.tmp 62))⟩,
  ⟨(some 64), (some (63, false)), .simple (.move (.tmp 15))⟩,
  ⟨(some 65), (some (63, false)), .simple (.bin .neq (.tmp 64) (.const (.int .i64 0)))⟩,
  ⟨(some 66), none, .simple (.pick (.tmp 63) (.const (.bool true)) (.tmp 65))⟩,
  ⟨(some 67), none, .simple (.move (.tmp 66))⟩,
  ⟨(some 68), (some (67, false)), .simple (.move (.tmp 12))⟩,
  ⟨(some 69), (some (67, false)), .simple (.bin .neq (.tmp 68) (.const (.int .i64 (-1))))⟩,
  ⟨(some 70), (some (67, false)), .simple (.move (.tmp 69))⟩,
  ⟨(some 71), (some (70, true)), .simple (.move (.tmp 12))⟩,
  ⟨(some 72), (some (70, true)), .simple (.move (.tmp 9))⟩,
  ⟨(some 73), (some (70, true)), .simple (.bin .lss (.tmp 71) (.tmp 72))⟩,
  ⟨(some 74), (some (70, true)), .simple (.move (.tmp 73))⟩,
  ⟨(some 75), (some (74, false)), .simple (.move (.tmp 12))⟩,
  ⟨(some 76), (some (74, false)), .simple (.bin .gtr (.tmp 75) (.const (.int .i64 11)))⟩,
  ⟨(some 77), (some (70, true)), .simple (.pick (.tmp 74) (.const (.bool true)) (.tmp 76))⟩,
  ⟨(some 78), (some (67, false)), .simple (.pick (.tmp 70) (.tmp 77) (.const (.bool false)))⟩,
  ⟨(some 79), none, .simple (.pick (.tmp 67) (.const (.bool true)) (.tmp 78))⟩,
  ⟨(some 80), none, .simple (.move (.tmp 79))⟩,
  ⟨(some 81), (some (80, false)), .simple (.move (.tmp 12))⟩,
  ⟨(some 82), (some (80, false)), .simple (.bin .eql (.tmp 81) (.const (.int .i64 (-1))))⟩,
  ⟨(some 83), (some (80, false)), .simple (.move (.tmp 82))⟩,
  ⟨(some 84), (some (83, true)), .simple (.move (.tmp 14))⟩,
  ⟨(some 85), (some (83, true)), .simple (.bin .neq (.tmp 84) (.const (.int .i64 (-1))))⟩,
  ⟨(some 86), (some (80, false)), .simple (.pick (.tmp 83) (.tmp 85) (.const (.bool false)))⟩,
  ⟨(some 87), none, .simple (.pick (.tmp 80) (.const (.bool true)) (.tmp 86))⟩,
  ⟨(some 88), none, .simple (.move (.tmp 87))⟩,
  ⟨(some 89), (some (88, false)), .simple (.move (.tmp 14))⟩,
  ⟨(some 90), (some (88, false)), .simple (.bin .neq (.tmp 89) (.const (.int .i64 (-1))))⟩,
  ⟨(some 91), (some (88, false)), .simple (.move (.tmp 90))⟩,
  ⟨(some 92), (some (91, true)), .simple (.move (.tmp 14))⟩,
  ⟨(some 93), (some (91, true)), .simple (.move (.tmp 12))⟩,
  ⟨(some 94), (some (91, true)), .simple (.bin .lss (.tmp 92) (.tmp 93))⟩,
  ⟨(some 95), (some (88, false)), .simple (.pick (.tmp 91) (.tmp 94) (.const (.bool false)))⟩,
  ⟨(some 96), none, .simple (.pick (.tmp 88) (.const (.bool true)) (.tmp 95))⟩] (some [9, 11, 12, 96]))
(.cond (.tmp 96)
 (.seq (.region [
   ⟨(some 8), none, .simple (.move (.const (.bool false)))⟩] (some [8]))
 .ret)
 .skip))
(.seq (.seq (.region [
  ⟨(some 97), none, .simple (.load (some 6) (.tmp 11))⟩,
  ⟨(some 98), none, .call (.func 34) [(.tmp 97)]⟩,
  ⟨(some 99), none, .simple (.bin .neq (.tmp 98) (.const (.int .i64 0)))⟩] (some [9, 11, 12, 99]))
(.cond (.tmp 99)
 (.seq (.region [
   ⟨(some 100), none, .call (.func 18) []⟩,
   ⟨(some 8), none, .simple (.move (.tmp 100))⟩] (some [8]))
 .ret)
 .skip))
(.seq (.region [
  ⟨(some 102), none, .simple (.load (some 6) (.tmp 11))⟩,
  ⟨(some 103), none, .call (.func 20) [(.tmp 102)]⟩,
  ⟨(some 104), none, .simple (.move (.tmp 9))⟩,
  ⟨(some 105), none, .call (.func 50) [(.tmp 103), (.tmp 104)]⟩,
  ⟨(some 101), none, .simple (.move (.tmp 105))⟩,
  ⟨(some 106), none, .simple (.extract (.tmp 101) 0)⟩,
  ⟨(some 107), none, .simple (.extract (.tmp 101) 1)⟩,
  ⟨(some 16), none, .simple (.move (.tmp 106))⟩,
  ⟨(some 17), none, .simple (.move (.tmp 107))⟩] (some [12, 16, 17]))
(.seq (.region [
  ⟨(some 108), none, .simple (.move (.tmp 17))⟩,
  ⟨(some 109), none, .simple (.bin .eql (.tmp 108) (.const (.int .i64 0)))⟩,
  ⟨(some 110), none, .simple (.move (.tmp 109))⟩,
  ⟨(some 111), (some (110, true)), .simple (.move (.tmp 16))⟩,
  ⟨(some 112), (some (110, true)), .simple (.bin .eql (.tmp 111) (.const (.int .i64 (-1))))⟩,
  ⟨(some 113), (some (110, true)), .simple (.move (.tmp 112))⟩,
  ⟨(some 114), (some (113, false)), .simple (.move (.tmp 12))⟩,
  ⟨(some 115), (some (113, false)), .simple (.bin .neq (.tmp 114) (.const (.int .i64 (-1))))⟩,
  ⟨(some 116), (some (113, false)), .simple (.move (.tmp 115))⟩,
  ⟨(some 117), (some (116, true)), .simple (.move (.tmp 16))⟩,
  ⟨(some 118), (some (116, true)), .simple (.move (.tmp 12))⟩,
  ⟨(some 119), (some (116, true)), .simple (.bin .geq (.tmp 117) (.tmp 118))⟩,
  ⟨(some 120), (some (113, false)), .simple (.pick (.tmp 116) (.tmp 119) (.const (.bool false)))⟩,
  ⟨(some 121), (some (110, true)), .simple (.pick (.tmp 113) (.const (.bool true)) (.tmp 120))⟩,
  ⟨(some 122), none, .simple (.pick (.tmp 110) (.tmp 121) (.const (.bool false)))⟩,
  ⟨(some 123), none, .simple (.move (.tmp 122))⟩,
  ⟨(some 124), (some (123, true)), .call (.func 18) []⟩,
  ⟨(some 125), none, .simple (.pick (.tmp 123) (.tmp 124) (.const (.bool false)))⟩,
  ⟨(some 8), none, .simple (.move (.tmp 125))⟩] (some [8]))
.ret))))))))))))
theorem k12 : Try.f12.body.bind (compC Try.prog G12) = some c12 := by kernel_rfl
theorem e12 : compRes Try.prog Try.f12.results.toList = some r12 := by kernel_rfl

/-! 13: contango/contangolaw07.CouponRegisters; parameters 3, captured 0 -/
def G13 : Cfg := ⟨[], [(0, [2, 3, 4]), (1, [2, 3, 4, 15]), (2, [6]), (3, [2, 3, 4, 7, 8]), (4, [2, 3, 4, 7, 8, 9]), (5, [2, 3, 4, 7, 8, 9, 10, 11]), (6, [2, 3, 7, 8, 10, 11, 43]), (7, [6]), (8, [2, 3, 7, 8, 10, 11, 45]), (9, [2, 3, 7, 8, 10, 11, 47]), (11, [7, 8, 10, 11]), (10, [7, 8, 10, 11]), (12, [6])], 62, []⟩
def r13 : List CRes := [.tmp 6]
def c13 : CCode :=
(.seq (.region [
  ⟨(some 3), none, .simple (.box false (.tmp 0))⟩,
  ⟨(some 4), none, .simple (.box false (.tmp 1))⟩,
  ⟨(some 6), none, .simple (.move (.const (.bool false)))⟩] (some [2, 3, 4]))
(.seq (.seq (.region [
  ⟨(some 12), none, .simple (.load (some 6) (.tmp 3))⟩,
  ⟨(some 13), none, .simple (.load (some 2) (.tmp 4))⟩,
  ⟨(some 14), none, .call (.func 17) [(.tmp 12), (.tmp 13)]⟩,
  ⟨(some 15), none, .simple (.un .not (.tmp 14))⟩] (some [2, 3, 4, 15]))
(.cond (.tmp 15)
 (.seq (.region [
   ⟨(some 16), none, .call (.func 18) []⟩,
   ⟨(some 6), none, .simple (.move (.tmp 16))⟩] (some [6]))
 .ret)
 .skip))
(.seq (.region [
  ⟨(some 18), none, .simple (.load (some 6) (.tmp 3))⟩,
  ⟨(some 19), none, .call (.func 20) [(.tmp 18)]⟩,
  ⟨(some 20), none, .simple (.move (.tmp 2))⟩,
  ⟨(some 21), none, .call (.func 50) [(.tmp 19), (.tmp 20)]⟩,
  ⟨(some 17), none, .simple (.move (.tmp 21))⟩,
  ⟨(some 22), none, .simple (.extract (.tmp 17) 0)⟩,
  ⟨(some 23), none, .simple (.extract (.tmp 17) 1)⟩,
  ⟨(some 7), none, .simple (.move (.tmp 22))⟩,
  ⟨(some 8), none, .simple (.move (.tmp 23))⟩] (some [2, 3, 4, 7, 8]))
(.seq (.region [
  ⟨(some 24), none, .simple (.load (some 6) (.tmp 3))⟩,
  ⟨(some 26), none, .simple (.load (some 2) (.tmp 4))⟩,
  ⟨(some 25), none, .callx (.func 20) [(.tmp 24)]⟩,
  ⟨(some 27), none, .call (.func 21) [(.tmp 26)]⟩,
  ⟨(some 28), none, .call (.func 51) [(.tmp 25), (.tmp 27)]⟩,
  ⟨(some 9), none, .simple (.move (.tmp 28))⟩] (some [2, 3, 4, 7, 8, 9]))
(.seq (.region [
  ⟨(some 29), none, .simple (.load (some 6) (.tmp 3))⟩,
  ⟨(some 30), none, .call (.func 34) [(.tmp 29)]⟩,
  ⟨(some 10), none, .simple (.move (.tmp 30))⟩,
  ⟨(some 11), none, .simple (.move (.const (.int .i64 0)))⟩] (some [2, 3, 4, 7, 8, 9, 10, 11]))
(.seq (.seq (.region [
  ⟨(some 31), none, .simple (.load (some 6) (.tmp 3))⟩,
  ⟨(some 32), none, .call (.func 20) [(.tmp 31)]⟩,
  ⟨(some 33), none, .call (.func 52) [(.tmp 32)]⟩,
  ⟨(some 34), none, .simple (.move (.tmp 10))⟩,
  ⟨(some 35), none, .simple (.bin .neq (.tmp 33) (.tmp 34))⟩,
  ⟨(some 36), none, .simple (.move (.tmp 35))⟩,
  ⟨(some 37), (some (36, false)), .simple (.move (.tmp 9))⟩,
  ⟨(some 38), (some (36, false)), .simple (.load (some 6) (.tmp 3))⟩,
  ⟨(some 39), (some (36, false)), .simple (.load (some 2) (.tmp 4))⟩,
  ⟨(some 40), (some (36, false)), .call (.func 22) [(.tmp 38), (.tmp 39)]⟩,
  ⟨(some 41), (some (36, false)), .simple (.bin .eql (.tmp 40) (.const (.int .i64 0)))⟩,
  ⟨(some 42), (some (36, false)), .simple (.binB true (.tmp 37) (.tmp 41))⟩,
  ⟨(some 43), none, .simple (.pick (.tmp 36) (.const (.bool true)) (.tmp 42))⟩] (some [2, 3, 7, 8, 10, 11, 43]))
(.cond (.tmp 43)
 (.seq (.region [
   ⟨(some 6), none, .simple (.move (.const (.bool false)))⟩] (some [6]))
 .ret)
 .skip))
(.seq (.seq (.region [
  ⟨(some 44), none, .simple (.move (.tmp 10))⟩,
  ⟨(some 45), none, .simple (.bin .eql (.tmp 44) (.const (.int .i64 0)))⟩] (some [2, 3, 7, 8, 10, 11, 45]))
(.cond (.tmp 45)
 (.seq (.region [
   ⟨(some 46), none, .simple (.move (.tmp 2))⟩,
   ⟨(some 47), none, .call (.func 23) [(.tmp 46), (.const (.int .i64 0)), (.const (.int .i64 11))]⟩] (some [2, 3, 7, 8, 10, 11, 47]))
 (.cond (.tmp 47)
  (.region [
    ⟨(some 48), none, .simple (.load (some 6) (.tmp 3))⟩,
    ⟨(some 49), none, .simple (.move (.tmp 2))⟩,
    ⟨(some 50), none, .call (.func 49) [(.tmp 48), (.tmp 49)]⟩,
    ⟨(some 11), none, .simple (.move (.tmp 50))⟩] (some [7, 8, 10, 11]))
  (.region [
    ⟨(some 10), none, .simple (.move (.const (.int .i64 2)))⟩] (some [7, 8, 10, 11]))))
 .skip))
(.seq (.region [
  ⟨(some 51), none, .simple (.move (.tmp 8))⟩,
  ⟨(some 52), none, .simple (.move (.tmp 10))⟩,
  ⟨(some 53), none, .simple (.bin .eql (.tmp 51) (.tmp 52))⟩,
  ⟨(some 54), none, .simple (.move (.tmp 53))⟩,
  ⟨(some 55), (some (54, true)), .simple (.move (.tmp 7))⟩,
  ⟨(some 56), (some (54, true)), .simple (.move (.tmp 11))⟩,
  ⟨(some 57), (some (54, true)), .simple (.bin .eql (.tmp 55) (.tmp 56))⟩,
  ⟨(some 58), none, .simple (.pick (.tmp 54) (.tmp 57) (.const (.bool false)))⟩,
  ⟨(some 59), none, .simple (.move (.tmp 58))⟩,
  ⟨(some 60), (some (59, true)), .call (.func 18) []⟩,
  ⟨(some 61), none, .simple (.pick (.tmp 59) (.tmp 60) (.const (.bool false)))⟩,
  ⟨(some 6), none, .simple (.move (.tmp 61))⟩] (some [6]))
.ret))))))))
theorem k13 : Try.f13.body.bind (compC Try.prog G13) = some c13 := by kernel_rfl
theorem e13 : compRes Try.prog Try.f13.results.toList = some r13 := by kernel_rfl

end Go.Proofs.Ytdnefcjbcieecaa
