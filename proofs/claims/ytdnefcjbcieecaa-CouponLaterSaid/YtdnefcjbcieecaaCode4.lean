import Derived.Test.YtdnefcjbcieecaaCoreX
import Derived.Test.YtdnefcjbcieecaaProg
import Derived.KernelRfl
namespace Go.Proofs.Ytdnefcjbcieecaa
open Go Go.Proofs

/-! 119: contango/coupon.all[contango/coupon.Split]$1; parameters 1, captured 1 -/
def G119 : Cfg := ⟨[], [(0, [1, 2]), (1, [3])], 8, []⟩
def r119 : List CRes := [.tmp 3]
def c119 : CCode :=
(.seq (.region [
  ⟨(some 2), none, .simple (.box false (.tmp 0))⟩,
  ⟨(some 3), none, .simple (.move (.const (.bool false)))⟩] (some [1, 2]))
(.seq (.region [
  ⟨(some 4), none, .simple (.load none (.tmp 1))⟩,
  ⟨(some 5), none, .simple (.load (some 3) (.tmp 2))⟩,
  ⟨(some 6), none, .call (.tmp 4) [(.tmp 5)]⟩,
  ⟨(some 7), none, .simple (.un .not (.tmp 6))⟩,
  ⟨(some 3), none, .simple (.move (.tmp 7))⟩] (some [3]))
.ret))
theorem k119 : Try.f119.body.bind (compC Try.prog G119) = some c119 := by kernel_rfl
theorem e119 : compRes Try.prog Try.f119.results.toList = some r119 := by kernel_rfl
def F119 : FunX := ⟨false, G119, c119, r119⟩
theorem o119 : FunOk Try.prog 119 F119 := ⟨Try.f119, by kernel_rfl, k119, e119, by kernel_rfl, by kernel_rfl⟩

/-! 120: slices.IndexFunc[[]contango/coupon.Split,contango/coupon.Split]; parameters 2, captured 0 -/
def G120 : Cfg := ⟨[], [(0, [0, 1]), (1, [0, 1, 7, 8]), (2, [0, 1, 7, 8, 9]), (3, [0, 1, 5, 7, 8]), (4, [0, 1, 5, 7, 8, 16]), (5, [4]), (6, [0, 1, 7, 8]), (7, [4])], 19, []⟩
def r120 : List CRes := [.tmp 4]
def c120 : CCode :=
(.seq (.region [
  ⟨(some 4), none, .simple (.move (.const (.int .i64 0)))⟩] (some [0, 1]))
(.seq (.seq (.region [
  ⟨(some 6), none, .simple (.move (.tmp 0))⟩,
  ⟨(some 7), none, .simple (.len (.tmp 6))⟩,
  ⟨(some 8), none, .simple (.move (.const (.int .i64 0)))⟩] (some [0, 1, 7, 8]))
(.block 0 (.loop (.seq (.region [
    ⟨(some 9), none, .simple (.bin .lss (.tmp 8) (.tmp 7))⟩] (some [0, 1, 7, 8, 9]))
  (.seq (.cond (.tmp 9)
   .skip
   (.exit 0))
  (.seq (.block 1 (.seq (.region [
     ⟨(some 10), none, .simple (.move (.tmp 8))⟩,
     ⟨(some 5), none, .simple (.move (.tmp 10))⟩] (some [0, 1, 5, 7, 8]))
   (.seq (.region [
     ⟨(some 11), none, .simple (.move (.tmp 1))⟩,
     ⟨(some 12), none, .simple (.move (.tmp 0))⟩,
     ⟨(some 13), none, .simple (.move (.tmp 5))⟩,
     ⟨(some 14), none, .simple (.indexS 3 (.tmp 12) (.tmp 13))⟩,
     ⟨(some 15), none, .simple (.load (some 3) (.tmp 14))⟩,
     ⟨(some 16), none, .call (.tmp 11) [(.tmp 15)]⟩] (some [0, 1, 5, 7, 8, 16]))
   (.cond (.tmp 16)
    (.seq (.region [
      ⟨(some 17), none, .simple (.move (.tmp 5))⟩,
      ⟨(some 4), none, .simple (.move (.tmp 17))⟩] (some [4]))
    .ret)
    .skip))))
  (.region [
    ⟨(some 18), none, .simple (.bin .add (.tmp 8) (.const (.int .i64 1)))⟩,
    ⟨(some 8), none, .simple (.move (.tmp 18))⟩] (some [0, 1, 7, 8]))))))))
(.seq (.region [
  ⟨(some 4), none, .simple (.move (.const (.int .i64 (-1))))⟩] (some [4]))
.ret)))
theorem k120 : Try.f120.body.bind (compC Try.prog G120) = some c120 := by kernel_rfl
theorem e120 : compRes Try.prog Try.f120.results.toList = some r120 := by kernel_rfl
-- (runtime.boundsError).Error: no body
-- (runtime.boundsError).RuntimeError: no body
-- (runtime.errorString).Error: no body
-- (runtime.errorString).RuntimeError: no body
-- (runtime.plainError).Error: no body
-- (runtime.plainError).RuntimeError: no body
-- (runtime.errorAddressString).Error: no body
-- (runtime.errorAddressString).RuntimeError: no body
-- (*runtime.TypeAssertionError).Error: no body
-- (*runtime.TypeAssertionError).RuntimeError: no body
-- (*runtime.PanicNilError).Error: no body
-- (*runtime.PanicNilError).RuntimeError: no body
-- (*internal/abi.Type).Align: no body
-- (internal/runtime/maps.unhashableTypeError).Error: no body
-- (internal/runtime/maps.unhashableTypeError).RuntimeError: no body
-- (contango/api.Errno).Error: no body
-- (internal/abi.Kind).String: no body
-- no function 138
-- no function 139
-- no function 140
-- no function 141
-- no function 142
-- no function 143
-- no function 144
-- no function 145
-- no function 146
-- no function 147
-- no function 148
-- no function 149
-- no function 150
-- no function 151
-- no function 152
-- no function 153
-- no function 154
-- no function 155
-- no function 156
-- no function 157
-- no function 158
-- no function 159
-- no function 160
def F120 : FunX := ⟨false, G120, c120, r120⟩
theorem o120 : FunOk Try.prog 120 F120 := ⟨Try.f120, by kernel_rfl, k120, e120, by kernel_rfl, by kernel_rfl⟩

end Go.Proofs.Ytdnefcjbcieecaa
