import Derived.Test.YtdnefcjbcieecaaCoreX
import Derived.Test.YtdnefcjbcieecaaProg
import Derived.KernelRfl
namespace Go.Proofs.Ytdnefcjbcieecaa
open Go Go.Proofs

/-! 17: contango/contangolaw07.Thin; parameters 2, captured 0 -/
def G17 : Cfg := ⟨[], [((nat_lit 0), [(nat_lit 2), (nat_lit 3)]), ((nat_lit 1), [(nat_lit 4)])], (nat_lit 45), []⟩
def r17 : List CRes := [.tmp (nat_lit 4)]
def c17 : CCode :=
(.seq (.region [
  ⟨(some (nat_lit 2)), none, .simple (.box false (.tmp (nat_lit 0)))⟩,
  ⟨(some (nat_lit 3)), none, .simple (.box false (.tmp (nat_lit 1)))⟩,
  ⟨(some (nat_lit 4)), none, .simple (.move (.const (.bool false)))⟩] (some [(nat_lit 2), (nat_lit 3)]))
(.seq (.region [
  ⟨(some (nat_lit 5)), none, .simple (.fieldAddr (nat_lit 1) (.tmp (nat_lit 2)))⟩,
  ⟨(some (nat_lit 6)), none, .simple (.load none (.tmp (nat_lit 5)))⟩,
  ⟨(some (nat_lit 7)), none, .simple (.len (.tmp (nat_lit 6)))⟩,
  ⟨(some (nat_lit 8)), none, .simple (.bin .leq (.tmp (nat_lit 7)) (.const (.int .i64 (.ofNat (nat_lit 7)))))⟩,
  ⟨(some (nat_lit 9)), none, .simple (.move (.tmp (nat_lit 8)))⟩,
  ⟨(some (nat_lit 10)), (some ((nat_lit 9), true)), .simple (.fieldAddr (nat_lit 2) (.tmp (nat_lit 2)))⟩,
  ⟨(some (nat_lit 11)), (some ((nat_lit 9), true)), .simple (.load none (.tmp (nat_lit 10)))⟩,
  ⟨(some (nat_lit 12)), (some ((nat_lit 9), true)), .simple (.len (.tmp (nat_lit 11)))⟩,
  ⟨(some (nat_lit 13)), (some ((nat_lit 9), true)), .simple (.bin .leq (.tmp (nat_lit 12)) (.const (.int .i64 (.ofNat (nat_lit 7)))))⟩,
  ⟨(some (nat_lit 14)), none, .simple (.pick (.tmp (nat_lit 9)) (.tmp (nat_lit 13)) (.const (.bool false)))⟩,
  ⟨(some (nat_lit 15)), none, .simple (.move (.tmp (nat_lit 14)))⟩,
  ⟨(some (nat_lit 16)), (some ((nat_lit 15), true)), .simple (.fieldAddr (nat_lit 3) (.tmp (nat_lit 2)))⟩,
  ⟨(some (nat_lit 17)), (some ((nat_lit 15), true)), .simple (.load none (.tmp (nat_lit 16)))⟩,
  ⟨(some (nat_lit 18)), (some ((nat_lit 15), true)), .simple (.len (.tmp (nat_lit 17)))⟩,
  ⟨(some (nat_lit 19)), (some ((nat_lit 15), true)), .simple (.bin .leq (.tmp (nat_lit 18)) (.const (.int .i64 (.ofNat (nat_lit 7)))))⟩,
  ⟨(some (nat_lit 20)), none, .simple (.pick (.tmp (nat_lit 15)) (.tmp (nat_lit 19)) (.const (.bool false)))⟩,
  ⟨(some (nat_lit 21)), none, .simple (.move (.tmp (nat_lit 20)))⟩,
  ⟨(some (nat_lit 22)), (some ((nat_lit 21), true)), .simple (.fieldAddr (nat_lit 4) (.tmp (nat_lit 2)))⟩,
  ⟨(some (nat_lit 23)), (some ((nat_lit 21), true)), .simple (.load none (.tmp (nat_lit 22)))⟩,
  ⟨(some (nat_lit 24)), (some ((nat_lit 21), true)), .simple (.len (.tmp (nat_lit 23)))⟩,
  ⟨(some (nat_lit 25)), (some ((nat_lit 21), true)), .simple (.bin .leq (.tmp (nat_lit 24)) (.const (.int .i64 (.ofNat (nat_lit 7)))))⟩,
  ⟨(some (nat_lit 26)), none, .simple (.pick (.tmp (nat_lit 21)) (.tmp (nat_lit 25)) (.const (.bool false)))⟩,
  ⟨(some (nat_lit 27)), none, .simple (.move (.tmp (nat_lit 26)))⟩,
  ⟨(some (nat_lit 28)), (some ((nat_lit 27), true)), .simple (.fieldAddr (nat_lit 5) (.tmp (nat_lit 2)))⟩,
  ⟨(some (nat_lit 29)), (some ((nat_lit 27), true)), .simple (.load none (.tmp (nat_lit 28)))⟩,
  ⟨(some (nat_lit 30)), (some ((nat_lit 27), true)), .simple (.len (.tmp (nat_lit 29)))⟩,
  ⟨(some (nat_lit 31)), (some ((nat_lit 27), true)), .simple (.bin .leq (.tmp (nat_lit 30)) (.const (.int .i64 (.ofNat (nat_lit 7)))))⟩,
  ⟨(some (nat_lit 32)), none, .simple (.pick (.tmp (nat_lit 27)) (.tmp (nat_lit 31)) (.const (.bool false)))⟩,
  ⟨(some (nat_lit 33)), none, .simple (.move (.tmp (nat_lit 32)))⟩,
  ⟨(some (nat_lit 34)), (some ((nat_lit 33), true)), .simple (.fieldAddr (nat_lit 0) (.tmp (nat_lit 3)))⟩,
  ⟨(some (nat_lit 35)), (some ((nat_lit 33), true)), .simple (.load none (.tmp (nat_lit 34)))⟩,
  ⟨(some (nat_lit 36)), (some ((nat_lit 33), true)), .simple (.len (.tmp (nat_lit 35)))⟩,
  ⟨(some (nat_lit 37)), (some ((nat_lit 33), true)), .simple (.bin .leq (.tmp (nat_lit 36)) (.const (.int .i64 (.ofNat (nat_lit 7)))))⟩,
  ⟨(some (nat_lit 38)), none, .simple (.pick (.tmp (nat_lit 33)) (.tmp (nat_lit 37)) (.const (.bool false)))⟩,
  ⟨(some (nat_lit 39)), none, .simple (.move (.tmp (nat_lit 38)))⟩,
  ⟨(some (nat_lit 40)), (some ((nat_lit 39), true)), .simple (.fieldAddr (nat_lit 1) (.tmp (nat_lit 3)))⟩,
  ⟨(some (nat_lit 41)), (some ((nat_lit 39), true)), .simple (.load none (.tmp (nat_lit 40)))⟩,
  ⟨(some (nat_lit 42)), (some ((nat_lit 39), true)), .simple (.len (.tmp (nat_lit 41)))⟩,
  ⟨(some (nat_lit 43)), (some ((nat_lit 39), true)), .simple (.bin .leq (.tmp (nat_lit 42)) (.const (.int .i64 (.ofNat (nat_lit 7)))))⟩,
  ⟨(some (nat_lit 44)), none, .simple (.pick (.tmp (nat_lit 39)) (.tmp (nat_lit 43)) (.const (.bool false)))⟩,
  ⟨(some (nat_lit 4)), none, .simple (.move (.tmp (nat_lit 44)))⟩] (some [(nat_lit 4)]))
.ret))
theorem k17 : Try.f17.body.bind (compC Try.prog G17) = some c17 := by kernel_rfl
theorem e17 : compRes Try.prog Try.f17.results.toList = some r17 := by kernel_rfl

/-! 20: contango/contangolaw07.Company; parameters 1, captured 0 -/
def G20 : Cfg := ⟨[(nat_lit 111), (nat_lit 93), (nat_lit 69), (nat_lit 45), (nat_lit 3), (nat_lit 5), (nat_lit 7), (nat_lit 9), (nat_lit 2)], [((nat_lit 0), [(nat_lit 1), (nat_lit 2)]), ((nat_lit 1), [(nat_lit 1), (nat_lit 2), (nat_lit 3)]), ((nat_lit 2), [(nat_lit 1), (nat_lit 2), (nat_lit 3), (nat_lit 4)]), ((nat_lit 3), [(nat_lit 1), (nat_lit 2), (nat_lit 3), (nat_lit 4), (nat_lit 21)]), ((nat_lit 5), [(nat_lit 1), (nat_lit 2), (nat_lit 3), (nat_lit 4), (nat_lit 5)]), ((nat_lit 6), [(nat_lit 1), (nat_lit 2), (nat_lit 3), (nat_lit 4)]), ((nat_lit 4), [(nat_lit 1), (nat_lit 2), (nat_lit 3), (nat_lit 4)]), ((nat_lit 7), [(nat_lit 1), (nat_lit 2), (nat_lit 3), (nat_lit 6)]), ((nat_lit 8), [(nat_lit 1), (nat_lit 2), (nat_lit 3), (nat_lit 6), (nat_lit 51)]), ((nat_lit 10), [(nat_lit 1), (nat_lit 2), (nat_lit 3), (nat_lit 6), (nat_lit 7)]), ((nat_lit 11), [(nat_lit 1), (nat_lit 2), (nat_lit 3), (nat_lit 6)]), ((nat_lit 9), [(nat_lit 1), (nat_lit 2), (nat_lit 3), (nat_lit 6)]), ((nat_lit 12), [(nat_lit 1), (nat_lit 2), (nat_lit 3), (nat_lit 8)]), ((nat_lit 13), [(nat_lit 1), (nat_lit 2), (nat_lit 3), (nat_lit 8), (nat_lit 75)]), ((nat_lit 15), [(nat_lit 1), (nat_lit 2), (nat_lit 3), (nat_lit 8), (nat_lit 9)]), ((nat_lit 16), [(nat_lit 1), (nat_lit 2), (nat_lit 3), (nat_lit 8)]), ((nat_lit 14), [(nat_lit 1), (nat_lit 2), (nat_lit 3), (nat_lit 8)]), ((nat_lit 17), [(nat_lit 1), (nat_lit 2), (nat_lit 3), (nat_lit 10)]), ((nat_lit 18), [(nat_lit 1), (nat_lit 2), (nat_lit 3), (nat_lit 10), (nat_lit 99)]), ((nat_lit 20), [(nat_lit 1), (nat_lit 2), (nat_lit 3), (nat_lit 10)]), ((nat_lit 19), [(nat_lit 1), (nat_lit 2), (nat_lit 3), (nat_lit 10)]), ((nat_lit 21), [(nat_lit 2)])], (nat_lit 114), []⟩
def r20 : List CRes := [.cell (nat_lit 2) (some (nat_lit 6))]
def c20 : CCode :=
(.seq (.region [
  ⟨(some (nat_lit 1)), none, .simple (.box false (.tmp (nat_lit 0)))⟩,
  ⟨(some (nat_lit 2)), none, .simple (.alloc [(.d (.int .i64 (.ofNat (nat_lit 0)))), (.d .nils), (.d .nils), (.d .nils), (.d .nils), (.d .nils)])⟩] (some [(nat_lit 1), (nat_lit 2)]))
(.seq (.seq (.region [
  ⟨(some (nat_lit 11)), none, .simple (.fieldAddr (nat_lit 0) (.tmp (nat_lit 1)))⟩,
  ⟨(some (nat_lit 12)), none, .simple (.load none (.tmp (nat_lit 11)))⟩,
  ⟨(some (nat_lit 13)), none, .simple (.fieldAddr (nat_lit 1) (.tmp (nat_lit 1)))⟩,
  ⟨(some (nat_lit 14)), none, .simple (.load none (.tmp (nat_lit 13)))⟩] none)
(.both (.region [
   ⟨(some (nat_lit 15)), none, .callx (.func (nat_lit 56)) [(.tmp (nat_lit 14))]⟩,
   ⟨(some (nat_lit 16)), none, .simple (.build [(.d (.int .i64 (.ofNat (nat_lit 0)))), (.d .nils), (.d .nils), (.d .nils), (.d .nils), (.d .nils)] [((nat_lit 0), (nat_lit 1), (.tmp (nat_lit 12))), ((nat_lit 1), (nat_lit 1), (.tmp (nat_lit 15)))])⟩,
   ⟨(some (nat_lit 3)), none, .simple (.alloc [(.d (.int .i64 (.ofNat (nat_lit 0)))), (.d .nils), (.d .nils), (.d .nils), (.d .nils), (.d .nils)])⟩,
   ⟨none, none, .simple (.store (nat_lit 6) (.tmp (nat_lit 3)) (.tmp (nat_lit 16)))⟩] (some [(nat_lit 1), (nat_lit 2), (nat_lit 3)]))
 (.region [
   ⟨(some (nat_lit 3)), none, .simple (.alloc [(.d (.int .i64 (.ofNat (nat_lit 0)))), (.d .nils), (.d .nils), (.d .nils), (.d .nils), (.d .nils)])⟩,
   ⟨(some (nat_lit 15)), none, .callx (.func (nat_lit 56)) [(.tmp (nat_lit 14))]⟩,
   ⟨(some (nat_lit 16)), none, .simple (.build [(.d (.int .i64 (.ofNat (nat_lit 0)))), (.d .nils), (.d .nils), (.d .nils), (.d .nils), (.d .nils)] [((nat_lit 0), (nat_lit 1), (.tmp (nat_lit 12))), ((nat_lit 1), (nat_lit 1), (.tmp (nat_lit 15)))])⟩,
   ⟨none, none, .simple (.store (nat_lit 6) (.tmp (nat_lit 3)) (.tmp (nat_lit 16)))⟩] (some [(nat_lit 1), (nat_lit 2), (nat_lit 3)]))))
(.seq (.seq (.region [
  ⟨(some (nat_lit 4)), none, .simple (.move (.const (.int .i64 (.ofNat (nat_lit 0)))))⟩] (some [(nat_lit 1), (nat_lit 2), (nat_lit 3), (nat_lit 4)]))
(.block (nat_lit 0) (.loop (.seq (.seq (.region [
    ⟨(some (nat_lit 17)), none, .simple (.move (.tmp (nat_lit 4)))⟩,
    ⟨(some (nat_lit 18)), none, .simple (.fieldAddr (nat_lit 2) (.tmp (nat_lit 1)))⟩,
    ⟨(some (nat_lit 19)), none, .simple (.load none (.tmp (nat_lit 18)))⟩,
    ⟨(some (nat_lit 20)), none, .simple (.len (.tmp (nat_lit 19)))⟩,
    ⟨(some (nat_lit 21)), none, .simple (.bin .lss (.tmp (nat_lit 17)) (.tmp (nat_lit 20)))⟩] (some [(nat_lit 1), (nat_lit 2), (nat_lit 3), (nat_lit 4), (nat_lit 21)]))
  (.cond (.tmp (nat_lit 21))
   .skip
   (.exit (nat_lit 0))))
  (.seq (.block (nat_lit 1) (.seq (.region [
     ⟨(some (nat_lit 24)), none, .simple (.fieldAddr (nat_lit 2) (.tmp (nat_lit 1)))⟩,
     ⟨(some (nat_lit 25)), none, .simple (.load none (.tmp (nat_lit 24)))⟩,
     ⟨(some (nat_lit 26)), none, .simple (.move (.tmp (nat_lit 4)))⟩,
     ⟨(some (nat_lit 27)), none, .simple (.indexS (nat_lit 7) (.tmp (nat_lit 25)) (.tmp (nat_lit 26)))⟩,
     ⟨(some (nat_lit 28)), none, .simple (.load (some (nat_lit 7)) (.tmp (nat_lit 27)))⟩,
     ⟨(some (nat_lit 5)), none, .simple (.alloc [(.d (.int .i64 (.ofNat (nat_lit 0)))), (.d (.int .i64 (.ofNat (nat_lit 0)))), (.d (.int .i64 (.ofNat (nat_lit 0)))), (.d (.int .i64 (.ofNat (nat_lit 0)))), (.d (.int .i64 (.ofNat (nat_lit 0)))), (.d (.int .i64 (.ofNat (nat_lit 0)))), (.d (.int .i64 (.ofNat (nat_lit 0))))])⟩,
     ⟨none, none, .simple (.store (nat_lit 7) (.tmp (nat_lit 5)) (.tmp (nat_lit 28)))⟩] (some [(nat_lit 1), (nat_lit 2), (nat_lit 3), (nat_lit 4), (nat_lit 5)]))
   (.region [
     ⟨(some (nat_lit 29)), none, .simple (.fieldAddr (nat_lit 2) (.tmp (nat_lit 3)))⟩,
     ⟨(some (nat_lit 30)), none, .simple (.load none (.tmp (nat_lit 29)))⟩,
     ⟨(some (nat_lit 31)), none, .simple (.fieldAddr (nat_lit 0) (.tmp (nat_lit 5)))⟩,
     ⟨(some (nat_lit 32)), none, .simple (.load none (.tmp (nat_lit 31)))⟩,
     ⟨(some (nat_lit 33)), none, .simple (.fieldAddr (nat_lit 1) (.tmp (nat_lit 5)))⟩,
     ⟨(some (nat_lit 34)), none, .simple (.load none (.tmp (nat_lit 33)))⟩,
     ⟨(some (nat_lit 35)), none, .simple (.fieldAddr (nat_lit 2) (.tmp (nat_lit 5)))⟩,
     ⟨(some (nat_lit 36)), none, .simple (.load none (.tmp (nat_lit 35)))⟩,
     ⟨(some (nat_lit 37)), none, .simple (.fieldAddr (nat_lit 3) (.tmp (nat_lit 5)))⟩,
     ⟨(some (nat_lit 38)), none, .simple (.load (some (nat_lit 2)) (.tmp (nat_lit 37)))⟩,
     ⟨(some (nat_lit 40)), none, .simple (.fieldAddr (nat_lit 5) (.tmp (nat_lit 5)))⟩,
     ⟨(some (nat_lit 41)), none, .simple (.load (some (nat_lit 2)) (.tmp (nat_lit 40)))⟩,
     ⟨(some (nat_lit 39)), none, .callx (.func (nat_lit 61)) [(.tmp (nat_lit 38))]⟩,
     ⟨(some (nat_lit 42)), none, .callx (.func (nat_lit 61)) [(.tmp (nat_lit 41))]⟩,
     ⟨(some (nat_lit 43)), none, .simple (.build [(.d (.int .i64 (.ofNat (nat_lit 0)))), (.d (.int .i64 (.ofNat (nat_lit 0)))), (.d (.int .i64 (.ofNat (nat_lit 0)))), (.d (.int .i64 (.ofNat (nat_lit 0)))), (.d (.int .i64 (.ofNat (nat_lit 0)))), (.d (.int .i64 (.ofNat (nat_lit 0)))), (.d (.int .i64 (.ofNat (nat_lit 0))))] [((nat_lit 0), (nat_lit 1), (.tmp (nat_lit 32))), ((nat_lit 1), (nat_lit 1), (.tmp (nat_lit 34))), ((nat_lit 2), (nat_lit 1), (.tmp (nat_lit 36))), ((nat_lit 3), (nat_lit 2), (.tmp (nat_lit 39))), ((nat_lit 5), (nat_lit 2), (.tmp (nat_lit 42)))])⟩,
     ⟨(some (nat_lit 44)), none, .simple (.bslice false (nat_lit 93) (nat_lit 7) (nat_lit 1) [(.int .i64 (.ofNat (nat_lit 0))), (.int .i64 (.ofNat (nat_lit 0))), (.int .i64 (.ofNat (nat_lit 0))), (.int .i64 (.ofNat (nat_lit 0))), (.int .i64 (.ofNat (nat_lit 0))), (.int .i64 (.ofNat (nat_lit 0))), (.int .i64 (.ofNat (nat_lit 0)))] [((nat_lit 0), (.tmp (nat_lit 43)))])⟩,
     ⟨(some (nat_lit 45)), none, .app (nat_lit 93) (nat_lit 7) (nat_lit 56) (.tmp (nat_lit 30)) (.tmp (nat_lit 44))⟩,
     ⟨(some (nat_lit 46)), none, .simple (.fieldAddr (nat_lit 2) (.tmp (nat_lit 3)))⟩,
     ⟨none, none, .simple (.store (nat_lit 1) (.tmp (nat_lit 46)) (.tmp (nat_lit 45)))⟩] (some [(nat_lit 1), (nat_lit 2), (nat_lit 3), (nat_lit 4)]))))
  (.region [
    ⟨(some (nat_lit 22)), none, .simple (.move (.tmp (nat_lit 4)))⟩,
    ⟨(some (nat_lit 23)), none, .simple (.bin .add (.tmp (nat_lit 22)) (.const (.int .i64 (.ofNat (nat_lit 1)))))⟩,
    ⟨(some (nat_lit 4)), none, .simple (.move (.tmp (nat_lit 23)))⟩] (some [(nat_lit 1), (nat_lit 2), (nat_lit 3), (nat_lit 4)])))))))
(.seq (.seq (.region [
  ⟨(some (nat_lit 6)), none, .simple (.move (.const (.int .i64 (.ofNat (nat_lit 0)))))⟩] (some [(nat_lit 1), (nat_lit 2), (nat_lit 3), (nat_lit 6)]))
(.block (nat_lit 2) (.loop (.seq (.seq (.region [
    ⟨(some (nat_lit 47)), none, .simple (.move (.tmp (nat_lit 6)))⟩,
    ⟨(some (nat_lit 48)), none, .simple (.fieldAddr (nat_lit 3) (.tmp (nat_lit 1)))⟩,
    ⟨(some (nat_lit 49)), none, .simple (.load none (.tmp (nat_lit 48)))⟩,
    ⟨(some (nat_lit 50)), none, .simple (.len (.tmp (nat_lit 49)))⟩,
    ⟨(some (nat_lit 51)), none, .simple (.bin .lss (.tmp (nat_lit 47)) (.tmp (nat_lit 50)))⟩] (some [(nat_lit 1), (nat_lit 2), (nat_lit 3), (nat_lit 6), (nat_lit 51)]))
  (.cond (.tmp (nat_lit 51))
   .skip
   (.exit (nat_lit 2))))
  (.seq (.block (nat_lit 3) (.seq (.region [
     ⟨(some (nat_lit 54)), none, .simple (.fieldAddr (nat_lit 3) (.tmp (nat_lit 1)))⟩,
     ⟨(some (nat_lit 55)), none, .simple (.load none (.tmp (nat_lit 54)))⟩,
     ⟨(some (nat_lit 56)), none, .simple (.move (.tmp (nat_lit 6)))⟩,
     ⟨(some (nat_lit 57)), none, .simple (.indexS (nat_lit 3) (.tmp (nat_lit 55)) (.tmp (nat_lit 56)))⟩,
     ⟨(some (nat_lit 58)), none, .simple (.load (some (nat_lit 3)) (.tmp (nat_lit 57)))⟩,
     ⟨(some (nat_lit 7)), none, .simple (.alloc [(.d (.int .i64 (.ofNat (nat_lit 0)))), (.d (.int .i64 (.ofNat (nat_lit 0)))), (.d (.int .i64 (.ofNat (nat_lit 0))))])⟩,
     ⟨none, none, .simple (.store (nat_lit 3) (.tmp (nat_lit 7)) (.tmp (nat_lit 58)))⟩] (some [(nat_lit 1), (nat_lit 2), (nat_lit 3), (nat_lit 6), (nat_lit 7)]))
   (.region [
     ⟨(some (nat_lit 59)), none, .simple (.fieldAddr (nat_lit 3) (.tmp (nat_lit 3)))⟩,
     ⟨(some (nat_lit 60)), none, .simple (.load none (.tmp (nat_lit 59)))⟩,
     ⟨(some (nat_lit 61)), none, .simple (.fieldAddr (nat_lit 0) (.tmp (nat_lit 7)))⟩,
     ⟨(some (nat_lit 62)), none, .simple (.load none (.tmp (nat_lit 61)))⟩,
     ⟨(some (nat_lit 63)), none, .simple (.fieldAddr (nat_lit 1) (.tmp (nat_lit 7)))⟩,
     ⟨(some (nat_lit 64)), none, .simple (.load none (.tmp (nat_lit 63)))⟩,
     ⟨(some (nat_lit 65)), none, .simple (.fieldAddr (nat_lit 2) (.tmp (nat_lit 7)))⟩,
     ⟨(some (nat_lit 66)), none, .simple (.load none (.tmp (nat_lit 65)))⟩,
     ⟨(some (nat_lit 67)), none, .simple (.build [(.d (.int .i64 (.ofNat (nat_lit 0)))), (.d (.int .i64 (.ofNat (nat_lit 0)))), (.d (.int .i64 (.ofNat (nat_lit 0))))] [((nat_lit 0), (nat_lit 1), (.tmp (nat_lit 62))), ((nat_lit 1), (nat_lit 1), (.tmp (nat_lit 64))), ((nat_lit 2), (nat_lit 1), (.tmp (nat_lit 66)))])⟩,
     ⟨(some (nat_lit 68)), none, .simple (.bslice false (nat_lit 95) (nat_lit 3) (nat_lit 1) [(.int .i64 (.ofNat (nat_lit 0))), (.int .i64 (.ofNat (nat_lit 0))), (.int .i64 (.ofNat (nat_lit 0)))] [((nat_lit 0), (.tmp (nat_lit 67)))])⟩,
     ⟨(some (nat_lit 69)), none, .app (nat_lit 95) (nat_lit 3) (nat_lit 24) (.tmp (nat_lit 60)) (.tmp (nat_lit 68))⟩,
     ⟨(some (nat_lit 70)), none, .simple (.fieldAddr (nat_lit 3) (.tmp (nat_lit 3)))⟩,
     ⟨none, none, .simple (.store (nat_lit 1) (.tmp (nat_lit 70)) (.tmp (nat_lit 69)))⟩] (some [(nat_lit 1), (nat_lit 2), (nat_lit 3), (nat_lit 6)]))))
  (.region [
    ⟨(some (nat_lit 52)), none, .simple (.move (.tmp (nat_lit 6)))⟩,
    ⟨(some (nat_lit 53)), none, .simple (.bin .add (.tmp (nat_lit 52)) (.const (.int .i64 (.ofNat (nat_lit 1)))))⟩,
    ⟨(some (nat_lit 6)), none, .simple (.move (.tmp (nat_lit 53)))⟩] (some [(nat_lit 1), (nat_lit 2), (nat_lit 3), (nat_lit 6)])))))))
(.seq (.seq (.region [
  ⟨(some (nat_lit 8)), none, .simple (.move (.const (.int .i64 (.ofNat (nat_lit 0)))))⟩] (some [(nat_lit 1), (nat_lit 2), (nat_lit 3), (nat_lit 8)]))
(.block (nat_lit 4) (.loop (.seq (.seq (.region [
    ⟨(some (nat_lit 71)), none, .simple (.move (.tmp (nat_lit 8)))⟩,
    ⟨(some (nat_lit 72)), none, .simple (.fieldAddr (nat_lit 4) (.tmp (nat_lit 1)))⟩,
    ⟨(some (nat_lit 73)), none, .simple (.load none (.tmp (nat_lit 72)))⟩,
    ⟨(some (nat_lit 74)), none, .simple (.len (.tmp (nat_lit 73)))⟩,
    ⟨(some (nat_lit 75)), none, .simple (.bin .lss (.tmp (nat_lit 71)) (.tmp (nat_lit 74)))⟩] (some [(nat_lit 1), (nat_lit 2), (nat_lit 3), (nat_lit 8), (nat_lit 75)]))
  (.cond (.tmp (nat_lit 75))
   .skip
   (.exit (nat_lit 4))))
  (.seq (.block (nat_lit 5) (.seq (.region [
     ⟨(some (nat_lit 78)), none, .simple (.fieldAddr (nat_lit 4) (.tmp (nat_lit 1)))⟩,
     ⟨(some (nat_lit 79)), none, .simple (.load none (.tmp (nat_lit 78)))⟩,
     ⟨(some (nat_lit 80)), none, .simple (.move (.tmp (nat_lit 8)))⟩,
     ⟨(some (nat_lit 81)), none, .simple (.indexS (nat_lit 3) (.tmp (nat_lit 79)) (.tmp (nat_lit 80)))⟩,
     ⟨(some (nat_lit 82)), none, .simple (.load (some (nat_lit 3)) (.tmp (nat_lit 81)))⟩,
     ⟨(some (nat_lit 9)), none, .simple (.alloc [(.d (.int .i64 (.ofNat (nat_lit 0)))), (.d (.int .i64 (.ofNat (nat_lit 0)))), (.d (.int .i64 (.ofNat (nat_lit 0))))])⟩,
     ⟨none, none, .simple (.store (nat_lit 3) (.tmp (nat_lit 9)) (.tmp (nat_lit 82)))⟩] (some [(nat_lit 1), (nat_lit 2), (nat_lit 3), (nat_lit 8), (nat_lit 9)]))
   (.region [
     ⟨(some (nat_lit 83)), none, .simple (.fieldAddr (nat_lit 4) (.tmp (nat_lit 3)))⟩,
     ⟨(some (nat_lit 84)), none, .simple (.load none (.tmp (nat_lit 83)))⟩,
     ⟨(some (nat_lit 85)), none, .simple (.fieldAddr (nat_lit 0) (.tmp (nat_lit 9)))⟩,
     ⟨(some (nat_lit 86)), none, .simple (.load none (.tmp (nat_lit 85)))⟩,
     ⟨(some (nat_lit 87)), none, .simple (.fieldAddr (nat_lit 1) (.tmp (nat_lit 9)))⟩,
     ⟨(some (nat_lit 88)), none, .simple (.load none (.tmp (nat_lit 87)))⟩,
     ⟨(some (nat_lit 89)), none, .simple (.fieldAddr (nat_lit 2) (.tmp (nat_lit 9)))⟩,
     ⟨(some (nat_lit 90)), none, .simple (.load none (.tmp (nat_lit 89)))⟩,
     ⟨(some (nat_lit 91)), none, .simple (.build [(.d (.int .i64 (.ofNat (nat_lit 0)))), (.d (.int .i64 (.ofNat (nat_lit 0)))), (.d (.int .i64 (.ofNat (nat_lit 0))))] [((nat_lit 0), (nat_lit 1), (.tmp (nat_lit 86))), ((nat_lit 1), (nat_lit 1), (.tmp (nat_lit 88))), ((nat_lit 2), (nat_lit 1), (.tmp (nat_lit 90)))])⟩,
     ⟨(some (nat_lit 92)), none, .simple (.bslice false (nat_lit 96) (nat_lit 3) (nat_lit 1) [(.int .i64 (.ofNat (nat_lit 0))), (.int .i64 (.ofNat (nat_lit 0))), (.int .i64 (.ofNat (nat_lit 0)))] [((nat_lit 0), (.tmp (nat_lit 91)))])⟩,
     ⟨(some (nat_lit 93)), none, .app (nat_lit 96) (nat_lit 3) (nat_lit 24) (.tmp (nat_lit 84)) (.tmp (nat_lit 92))⟩,
     ⟨(some (nat_lit 94)), none, .simple (.fieldAddr (nat_lit 4) (.tmp (nat_lit 3)))⟩,
     ⟨none, none, .simple (.store (nat_lit 1) (.tmp (nat_lit 94)) (.tmp (nat_lit 93)))⟩] (some [(nat_lit 1), (nat_lit 2), (nat_lit 3), (nat_lit 8)]))))
  (.region [
    ⟨(some (nat_lit 76)), none, .simple (.move (.tmp (nat_lit 8)))⟩,
    ⟨(some (nat_lit 77)), none, .simple (.bin .add (.tmp (nat_lit 76)) (.const (.int .i64 (.ofNat (nat_lit 1)))))⟩,
    ⟨(some (nat_lit 8)), none, .simple (.move (.tmp (nat_lit 77)))⟩] (some [(nat_lit 1), (nat_lit 2), (nat_lit 3), (nat_lit 8)])))))))
(.seq (.seq (.region [
  ⟨(some (nat_lit 10)), none, .simple (.move (.const (.int .i64 (.ofNat (nat_lit 0)))))⟩] (some [(nat_lit 1), (nat_lit 2), (nat_lit 3), (nat_lit 10)]))
(.block (nat_lit 6) (.loop (.seq (.seq (.region [
    ⟨(some (nat_lit 95)), none, .simple (.move (.tmp (nat_lit 10)))⟩,
    ⟨(some (nat_lit 96)), none, .simple (.fieldAddr (nat_lit 5) (.tmp (nat_lit 1)))⟩,
    ⟨(some (nat_lit 97)), none, .simple (.load none (.tmp (nat_lit 96)))⟩,
    ⟨(some (nat_lit 98)), none, .simple (.len (.tmp (nat_lit 97)))⟩,
    ⟨(some (nat_lit 99)), none, .simple (.bin .lss (.tmp (nat_lit 95)) (.tmp (nat_lit 98)))⟩] (some [(nat_lit 1), (nat_lit 2), (nat_lit 3), (nat_lit 10), (nat_lit 99)]))
  (.cond (.tmp (nat_lit 99))
   .skip
   (.exit (nat_lit 6))))
  (.seq (.block (nat_lit 7) (.region [
     ⟨(some (nat_lit 102)), none, .simple (.fieldAddr (nat_lit 5) (.tmp (nat_lit 3)))⟩,
     ⟨(some (nat_lit 103)), none, .simple (.load none (.tmp (nat_lit 102)))⟩,
     ⟨(some (nat_lit 104)), none, .simple (.fieldAddr (nat_lit 5) (.tmp (nat_lit 1)))⟩,
     ⟨(some (nat_lit 105)), none, .simple (.load none (.tmp (nat_lit 104)))⟩,
     ⟨(some (nat_lit 106)), none, .simple (.move (.tmp (nat_lit 10)))⟩,
     ⟨(some (nat_lit 107)), none, .simple (.indexS (nat_lit 2) (.tmp (nat_lit 105)) (.tmp (nat_lit 106)))⟩,
     ⟨(some (nat_lit 108)), none, .simple (.load (some (nat_lit 2)) (.tmp (nat_lit 107)))⟩,
     ⟨(some (nat_lit 109)), none, .callx (.func (nat_lit 61)) [(.tmp (nat_lit 108))]⟩,
     ⟨(some (nat_lit 110)), none, .simple (.bslice false (nat_lit 71) (nat_lit 2) (nat_lit 1) [(.int .i64 (.ofNat (nat_lit 0))), (.int .i64 (.ofNat (nat_lit 0)))] [((nat_lit 0), (.tmp (nat_lit 109)))])⟩,
     ⟨(some (nat_lit 111)), none, .app (nat_lit 71) (nat_lit 2) (nat_lit 16) (.tmp (nat_lit 103)) (.tmp (nat_lit 110))⟩,
     ⟨(some (nat_lit 112)), none, .simple (.fieldAddr (nat_lit 5) (.tmp (nat_lit 3)))⟩,
     ⟨none, none, .simple (.store (nat_lit 1) (.tmp (nat_lit 112)) (.tmp (nat_lit 111)))⟩] (some [(nat_lit 1), (nat_lit 2), (nat_lit 3), (nat_lit 10)])))
  (.region [
    ⟨(some (nat_lit 100)), none, .simple (.move (.tmp (nat_lit 10)))⟩,
    ⟨(some (nat_lit 101)), none, .simple (.bin .add (.tmp (nat_lit 100)) (.const (.int .i64 (.ofNat (nat_lit 1)))))⟩,
    ⟨(some (nat_lit 10)), none, .simple (.move (.tmp (nat_lit 101)))⟩] (some [(nat_lit 1), (nat_lit 2), (nat_lit 3), (nat_lit 10)])))))))
(.seq (.region [
  ⟨(some (nat_lit 113)), none, .simple (.load (some (nat_lit 6)) (.tmp (nat_lit 3)))⟩,
  ⟨none, none, .simple (.store (nat_lit 6) (.tmp (nat_lit 2)) (.tmp (nat_lit 113)))⟩] (some [(nat_lit 2)]))
.ret)))))))
theorem k20 : Try.f20.body.bind (compC Try.prog G20) = some c20 := by kernel_rfl
theorem e20 : compRes Try.prog Try.f20.results.toList = some r20 := by kernel_rfl

/-! 21: contango/contangolaw07.Truth; parameters 1, captured 0 -/
def G21 : Cfg := ⟨[(nat_lit 2)], [((nat_lit 0), [(nat_lit 1), (nat_lit 2)]), ((nat_lit 1), [(nat_lit 2)])], (nat_lit 10), []⟩
def r21 : List CRes := [.cell (nat_lit 2) (some (nat_lit 2))]
def c21 : CCode :=
(.seq (.region [
  ⟨(some (nat_lit 1)), none, .simple (.box false (.tmp (nat_lit 0)))⟩,
  ⟨(some (nat_lit 2)), none, .simple (.alloc [(.d .nils), (.d .nils)])⟩] (some [(nat_lit 1), (nat_lit 2)]))
(.seq (.region [
  ⟨(some (nat_lit 3)), none, .simple (.fieldAddr (nat_lit 0) (.tmp (nat_lit 1)))⟩,
  ⟨(some (nat_lit 4)), none, .simple (.load none (.tmp (nat_lit 3)))⟩,
  ⟨(some (nat_lit 6)), none, .simple (.fieldAddr (nat_lit 1) (.tmp (nat_lit 1)))⟩,
  ⟨(some (nat_lit 7)), none, .simple (.load none (.tmp (nat_lit 6)))⟩,
  ⟨(some (nat_lit 5)), none, .callx (.func (nat_lit 56)) [(.tmp (nat_lit 4))]⟩,
  ⟨(some (nat_lit 8)), none, .call (.func (nat_lit 56)) [(.tmp (nat_lit 7))]⟩,
  ⟨(some (nat_lit 9)), none, .simple (.build [(.d .nils), (.d .nils)] [((nat_lit 0), (nat_lit 1), (.tmp (nat_lit 5))), ((nat_lit 1), (nat_lit 1), (.tmp (nat_lit 8)))])⟩,
  ⟨none, none, .simple (.store (nat_lit 2) (.tmp (nat_lit 2)) (.tmp (nat_lit 9)))⟩] (some [(nat_lit 2)]))
.ret))
theorem k21 : Try.f21.body.bind (compC Try.prog G21) = some c21 := by kernel_rfl
theorem e21 : compRes Try.prog Try.f21.results.toList = some r21 := by kernel_rfl

/-! 23: contango/contangoref07.In; parameters 3, captured 0 -/
def G23 : Cfg := ⟨[], [((nat_lit 0), [(nat_lit 0), (nat_lit 1), (nat_lit 2)]), ((nat_lit 1), [(nat_lit 6)])], (nat_lit 15), []⟩
def r23 : List CRes := [.tmp (nat_lit 6)]
def c23 : CCode :=
(.seq (.region [
  ⟨(some (nat_lit 6)), none, .simple (.move (.const (.bool false)))⟩] (some [(nat_lit 0), (nat_lit 1), (nat_lit 2)]))
(.seq (.region [
  ⟨(some (nat_lit 7)), none, .simple (.move (.tmp (nat_lit 0)))⟩,
  ⟨(some (nat_lit 8)), none, .simple (.move (.tmp (nat_lit 1)))⟩,
  ⟨(some (nat_lit 9)), none, .simple (.bin .geq (.tmp (nat_lit 7)) (.tmp (nat_lit 8)))⟩,
  ⟨(some (nat_lit 10)), none, .simple (.move (.tmp (nat_lit 9)))⟩,
  ⟨(some (nat_lit 11)), (some ((nat_lit 10), true)), .simple (.move (.tmp (nat_lit 0)))⟩,
  ⟨(some (nat_lit 12)), (some ((nat_lit 10), true)), .simple (.move (.tmp (nat_lit 2)))⟩,
  ⟨(some (nat_lit 13)), (some ((nat_lit 10), true)), .simple (.bin .leq (.tmp (nat_lit 11)) (.tmp (nat_lit 12)))⟩,
  ⟨(some (nat_lit 14)), none, .simple (.pick (.tmp (nat_lit 10)) (.tmp (nat_lit 13)) (.const (.bool false)))⟩,
  ⟨(some (nat_lit 6)), none, .simple (.move (.tmp (nat_lit 14)))⟩] (some [(nat_lit 6)]))
.ret))
theorem k23 : Try.f23.body.bind (compC Try.prog G23) = some c23 := by kernel_rfl
theorem e23 : compRes Try.prog Try.f23.results.toList = some r23 := by kernel_rfl

/-! 34: contango/contangolaw07.fault; parameters 1, captured 0 -/
def G34 : Cfg := ⟨[], [((nat_lit 0), [(nat_lit 1)]), ((nat_lit 1), [(nat_lit 2)])], (nat_lit 5), []⟩
def r34 : List CRes := [.tmp (nat_lit 2)]
def c34 : CCode :=
(.seq (.region [
  ⟨(some (nat_lit 1)), none, .simple (.box false (.tmp (nat_lit 0)))⟩,
  ⟨(some (nat_lit 2)), none, .simple (.move (.const (.int .i64 (.ofNat (nat_lit 0)))))⟩] (some [(nat_lit 1)]))
(.seq (.region [
  ⟨(some (nat_lit 3)), none, .simple (.load (some (nat_lit 6)) (.tmp (nat_lit 1)))⟩,
  ⟨(some (nat_lit 4)), none, .call (.func (nat_lit 69)) [(.tmp (nat_lit 3))]⟩,
  ⟨(some (nat_lit 2)), none, .simple (.move (.tmp (nat_lit 4)))⟩] (some [(nat_lit 2)]))
.ret))
theorem k34 : Try.f34.body.bind (compC Try.prog G34) = some c34 := by kernel_rfl
theorem e34 : compRes Try.prog Try.f34.results.toList = some r34 := by kernel_rfl

/-! 43: contango/contangoref07.Days; parameters 1, captured 0 -/
def G43 : Cfg := ⟨[], [((nat_lit 0), [(nat_lit 1)]), ((nat_lit 1), [(nat_lit 2)])], (nat_lit 13), []⟩
def r43 : List CRes := [.tmp (nat_lit 2)]
def c43 : CCode :=
(.seq (.region [
  ⟨(some (nat_lit 1)), none, .simple (.box false (.tmp (nat_lit 0)))⟩,
  ⟨(some (nat_lit 2)), none, .simple (.move (.const (.bool false)))⟩] (some [(nat_lit 1)]))
(.seq (.region [
  ⟨(some (nat_lit 3)), none, .simple (.fieldAddr (nat_lit 0) (.tmp (nat_lit 1)))⟩,
  ⟨(some (nat_lit 4)), none, .simple (.load none (.tmp (nat_lit 3)))⟩,
  ⟨(some (nat_lit 5)), none, .simple (.fieldAddr (nat_lit 1) (.tmp (nat_lit 1)))⟩,
  ⟨(some (nat_lit 6)), none, .simple (.load none (.tmp (nat_lit 5)))⟩,
  ⟨(some (nat_lit 7)), none, .call (.func (nat_lit 23)) [(.tmp (nat_lit 4)), (.const (.int .i64 (.ofNat (nat_lit 0)))), (.tmp (nat_lit 6))]⟩,
  ⟨(some (nat_lit 8)), none, .simple (.move (.tmp (nat_lit 7)))⟩,
  ⟨(some (nat_lit 9)), (some ((nat_lit 8), true)), .simple (.fieldAddr (nat_lit 1) (.tmp (nat_lit 1)))⟩,
  ⟨(some (nat_lit 10)), (some ((nat_lit 8), true)), .simple (.load none (.tmp (nat_lit 9)))⟩,
  ⟨(some (nat_lit 11)), (some ((nat_lit 8), true)), .simple (.bin .leq (.tmp (nat_lit 10)) (.const (.int .i64 (.ofNat (nat_lit 11)))))⟩,
  ⟨(some (nat_lit 12)), none, .simple (.pick (.tmp (nat_lit 8)) (.tmp (nat_lit 11)) (.const (.bool false)))⟩,
  ⟨(some (nat_lit 2)), none, .simple (.move (.tmp (nat_lit 12)))⟩] (some [(nat_lit 2)]))
.ret))
theorem k43 : Try.f43.body.bind (compC Try.prog G43) = some c43 := by kernel_rfl
theorem e43 : compRes Try.prog Try.f43.results.toList = some r43 := by kernel_rfl

/-! 49: contango/contangoref07.Registered; parameters 2, captured 0 -/
def G49 : Cfg := ⟨[], [((nat_lit 0), [(nat_lit 1), (nat_lit 2)]), ((nat_lit 1), [(nat_lit 2), (nat_lit 5)]), ((nat_lit 2), [(nat_lit 2), (nat_lit 5), (nat_lit 8)]), ((nat_lit 4), [(nat_lit 2), (nat_lit 5), (nat_lit 13)]), ((nat_lit 5), [(nat_lit 4)]), ((nat_lit 3), [(nat_lit 2), (nat_lit 5)]), ((nat_lit 6), [(nat_lit 4)])], (nat_lit 15), []⟩
def r49 : List CRes := [.tmp (nat_lit 4)]
def c49 : CCode :=
(.seq (.region [
  ⟨(some (nat_lit 2)), none, .simple (.box false (.tmp (nat_lit 0)))⟩,
  ⟨(some (nat_lit 4)), none, .simple (.move (.const (.int .i64 (.ofNat (nat_lit 0)))))⟩] (some [(nat_lit 1), (nat_lit 2)]))
(.seq (.seq (.region [
  ⟨(some (nat_lit 6)), none, .simple (.move (.tmp (nat_lit 1)))⟩,
  ⟨(some (nat_lit 5)), none, .simple (.move (.tmp (nat_lit 6)))⟩] (some [(nat_lit 2), (nat_lit 5)]))
(.block (nat_lit 0) (.loop (.seq (.seq (.region [
    ⟨(some (nat_lit 7)), none, .simple (.move (.tmp (nat_lit 5)))⟩,
    ⟨(some (nat_lit 8)), none, .simple (.bin .leq (.tmp (nat_lit 7)) (.const (.int .i64 (.ofNat (nat_lit 11)))))⟩] (some [(nat_lit 2), (nat_lit 5), (nat_lit 8)]))
  (.cond (.tmp (nat_lit 8))
   .skip
   (.exit (nat_lit 0))))
  (.seq (.block (nat_lit 1) (.seq (.region [
     ⟨(some (nat_lit 11)), none, .simple (.load (some (nat_lit 6)) (.tmp (nat_lit 2)))⟩,
     ⟨(some (nat_lit 12)), none, .simple (.move (.tmp (nat_lit 5)))⟩,
     ⟨(some (nat_lit 13)), none, .call (.func (nat_lit 81)) [(.tmp (nat_lit 11)), (.tmp (nat_lit 12))]⟩] (some [(nat_lit 2), (nat_lit 5), (nat_lit 13)]))
   (.cond (.tmp (nat_lit 13))
    (.seq (.region [
      ⟨(some (nat_lit 14)), none, .simple (.move (.tmp (nat_lit 5)))⟩,
      ⟨(some (nat_lit 4)), none, .simple (.move (.tmp (nat_lit 14)))⟩] (some [(nat_lit 4)]))
    .ret)
    .skip)))
  (.region [
    ⟨(some (nat_lit 9)), none, .simple (.move (.tmp (nat_lit 5)))⟩,
    ⟨(some (nat_lit 10)), none, .simple (.bin .add (.tmp (nat_lit 9)) (.const (.int .i64 (.ofNat (nat_lit 1)))))⟩,
    ⟨(some (nat_lit 5)), none, .simple (.move (.tmp (nat_lit 10)))⟩] (some [(nat_lit 2), (nat_lit 5)])))))))
(.seq (.region [
  ⟨(some (nat_lit 4)), none, .simple (.move (.const (.int .i64 (.negSucc (nat_lit 0)))))⟩] (some [(nat_lit 4)]))
.ret)))
theorem k49 : Try.f49.body.bind (compC Try.prog G49) = some c49 := by kernel_rfl
theorem e49 : compRes Try.prog Try.f49.results.toList = some r49 := by kernel_rfl

/-! 56: contango/contangolaw07.list; parameters 1, captured 0 -/
def G56 : Cfg := ⟨[(nat_lit 5), (nat_lit 3)], [((nat_lit 0), [(nat_lit 0)]), ((nat_lit 1), [(nat_lit 2)])], (nat_lit 6), []⟩
def r56 : List CRes := [.tmp (nat_lit 2)]
def c56 : CCode :=
(.seq (.region [
  ⟨(some (nat_lit 2)), none, .simple (.move (.const (.slice none (nat_lit 0) (nat_lit 0))))⟩] (some [(nat_lit 0)]))
(.seq (.region [
  ⟨(some (nat_lit 3)), none, .simple (.bslice true (nat_lit 3) (nat_lit 1) (nat_lit 0) [] [])⟩,
  ⟨(some (nat_lit 4)), none, .simple (.move (.tmp (nat_lit 0)))⟩,
  ⟨(some (nat_lit 5)), none, .app (nat_lit 3) (nat_lit 1) (nat_lit 8) (.tmp (nat_lit 3)) (.tmp (nat_lit 4))⟩,
  ⟨(some (nat_lit 2)), none, .simple (.move (.tmp (nat_lit 5)))⟩] (some [(nat_lit 2)]))
.ret))
theorem k56 : Try.f56.body.bind (compC Try.prog G56) = some c56 := by kernel_rfl
theorem e56 : compRes Try.prog Try.f56.results.toList = some r56 := by kernel_rfl

/-! 61: contango/contangolaw07.to; parameters 1, captured 0 -/
def G61 : Cfg := ⟨[(nat_lit 2)], [((nat_lit 0), [(nat_lit 1), (nat_lit 2)]), ((nat_lit 1), [(nat_lit 2)])], (nat_lit 8), []⟩
def r61 : List CRes := [.cell (nat_lit 2) (some (nat_lit 2))]
def c61 : CCode :=
(.seq (.region [
  ⟨(some (nat_lit 1)), none, .simple (.box false (.tmp (nat_lit 0)))⟩,
  ⟨(some (nat_lit 2)), none, .simple (.alloc [(.d (.int .i64 (.ofNat (nat_lit 0)))), (.d (.int .i64 (.ofNat (nat_lit 0))))])⟩] (some [(nat_lit 1), (nat_lit 2)]))
(.seq (.region [
  ⟨(some (nat_lit 3)), none, .simple (.fieldAddr (nat_lit 0) (.tmp (nat_lit 1)))⟩,
  ⟨(some (nat_lit 4)), none, .simple (.load none (.tmp (nat_lit 3)))⟩,
  ⟨(some (nat_lit 5)), none, .simple (.fieldAddr (nat_lit 1) (.tmp (nat_lit 1)))⟩,
  ⟨(some (nat_lit 6)), none, .simple (.load none (.tmp (nat_lit 5)))⟩,
  ⟨(some (nat_lit 7)), none, .simple (.build [(.d (.int .i64 (.ofNat (nat_lit 0)))), (.d (.int .i64 (.ofNat (nat_lit 0))))] [((nat_lit 0), (nat_lit 1), (.tmp (nat_lit 4))), ((nat_lit 1), (nat_lit 1), (.tmp (nat_lit 6)))])⟩,
  ⟨none, none, .simple (.store (nat_lit 2) (.tmp (nat_lit 2)) (.tmp (nat_lit 7)))⟩] (some [(nat_lit 2)]))
.ret))
theorem k61 : Try.f61.body.bind (compC Try.prog G61) = some c61 := by kernel_rfl
theorem e61 : compRes Try.prog Try.f61.results.toList = some r61 := by kernel_rfl

/-! 69: contango/contangoref07.Fault; parameters 1, captured 0 -/
def G69 : Cfg := ⟨[(nat_lit 5), (nat_lit 7), (nat_lit 10)], [((nat_lit 0), [(nat_lit 1)]), ((nat_lit 1), [(nat_lit 1), (nat_lit 38)]), ((nat_lit 2), [(nat_lit 2)]), ((nat_lit 3), [(nat_lit 1), (nat_lit 49)]), ((nat_lit 4), [(nat_lit 2)]), ((nat_lit 5), [(nat_lit 1), (nat_lit 3)]), ((nat_lit 6), [(nat_lit 1), (nat_lit 3), (nat_lit 53)]), ((nat_lit 8), [(nat_lit 1), (nat_lit 3), (nat_lit 62)]), ((nat_lit 9), [(nat_lit 2)]), ((nat_lit 7), [(nat_lit 1), (nat_lit 3)]), ((nat_lit 10), [(nat_lit 1), (nat_lit 4)]), ((nat_lit 11), [(nat_lit 1), (nat_lit 4), (nat_lit 67)]), ((nat_lit 13), [(nat_lit 1), (nat_lit 4), (nat_lit 5)]), ((nat_lit 14), [(nat_lit 1), (nat_lit 4), (nat_lit 135)]), ((nat_lit 15), [(nat_lit 2)]), ((nat_lit 12), [(nat_lit 1), (nat_lit 4)]), ((nat_lit 16), [(nat_lit 1), (nat_lit 6)]), ((nat_lit 17), [(nat_lit 1), (nat_lit 6), (nat_lit 140)]), ((nat_lit 19), [(nat_lit 1), (nat_lit 6), (nat_lit 7)]), ((nat_lit 20), [(nat_lit 1), (nat_lit 6), (nat_lit 160)]), ((nat_lit 21), [(nat_lit 2)]), ((nat_lit 18), [(nat_lit 1), (nat_lit 6)]), ((nat_lit 22), [(nat_lit 1), (nat_lit 8)]), ((nat_lit 23), [(nat_lit 1), (nat_lit 8), (nat_lit 9)]), ((nat_lit 24), [(nat_lit 1), (nat_lit 8), (nat_lit 9), (nat_lit 165)]), ((nat_lit 26), [(nat_lit 1), (nat_lit 8), (nat_lit 9), (nat_lit 10)]), ((nat_lit 27), [(nat_lit 1), (nat_lit 9), (nat_lit 10), (nat_lit 190)]), ((nat_lit 28), [(nat_lit 2)]), ((nat_lit 29), [(nat_lit 1), (nat_lit 8), (nat_lit 9)]), ((nat_lit 25), [(nat_lit 1), (nat_lit 8), (nat_lit 9)]), ((nat_lit 30), [(nat_lit 1), (nat_lit 11)]), ((nat_lit 31), [(nat_lit 1), (nat_lit 11), (nat_lit 197)]), ((nat_lit 33), [(nat_lit 1), (nat_lit 11), (nat_lit 206)]), ((nat_lit 34), [(nat_lit 2)]), ((nat_lit 32), [(nat_lit 1), (nat_lit 11)]), ((nat_lit 35), [(nat_lit 2)])], (nat_lit 207), []⟩
def r69 : List CRes := [.tmp (nat_lit 2)]
def c69 : CCode :=
(.seq (.region [
  ⟨(some (nat_lit 1)), none, .simple (.box false (.tmp (nat_lit 0)))⟩,
  ⟨(some (nat_lit 2)), none, .simple (.move (.const (.int .i64 (.ofNat (nat_lit 0)))))⟩] (some [(nat_lit 1)]))
(.seq (.seq (.region [
  ⟨(some (nat_lit 12)), none, .simple (.fieldAddr (nat_lit 0) (.tmp (nat_lit 1)))⟩,
  ⟨(some (nat_lit 13)), none, .simple (.load none (.tmp (nat_lit 12)))⟩,
  ⟨(some (nat_lit 14)), none, .simple (.bin .gtr (.tmp (nat_lit 13)) (.const (.int .i64 (.ofNat (nat_lit 4)))))⟩,
  ⟨(some (nat_lit 15)), none, .simple (.move (.tmp (nat_lit 14)))⟩,
  ⟨(some (nat_lit 16)), (some ((nat_lit 15), false)), .simple (.fieldAddr (nat_lit 2) (.tmp (nat_lit 1)))⟩,
  ⟨(some (nat_lit 17)), (some ((nat_lit 15), false)), .simple (.load none (.tmp (nat_lit 16)))⟩,
  ⟨(some (nat_lit 18)), (some ((nat_lit 15), false)), .simple (.len (.tmp (nat_lit 17)))⟩,
  ⟨(some (nat_lit 19)), (some ((nat_lit 15), false)), .simple (.bin .gtr (.tmp (nat_lit 18)) (.const (.int .i64 (.ofNat (nat_lit 4)))))⟩,
  ⟨(some (nat_lit 20)), none, .simple (.pick (.tmp (nat_lit 15)) (.const (.bool true)) (.tmp (nat_lit 19)))⟩,
  ⟨(some (nat_lit 21)), none, .simple (.move (.tmp (nat_lit 20)))⟩,
  ⟨(some (nat_lit 22)), (some ((nat_lit 21), false)), .simple (.fieldAddr (nat_lit 3) (.tmp (nat_lit 1)))⟩,
  ⟨(some (nat_lit 23)), (some ((nat_lit 21), false)), .simple (.load none (.tmp (nat_lit 22)))⟩,
  ⟨(some (nat_lit 24)), (some ((nat_lit 21), false)), .simple (.len (.tmp (nat_lit 23)))⟩,
  ⟨(some (nat_lit 25)), (some ((nat_lit 21), false)), .simple (.bin .gtr (.tmp (nat_lit 24)) (.const (.int .i64 (.ofNat (nat_lit 3)))))⟩,
  ⟨(some (nat_lit 26)), none, .simple (.pick (.tmp (nat_lit 21)) (.const (.bool true)) (.tmp (nat_lit 25)))⟩,
  ⟨(some (nat_lit 27)), none, .simple (.move (.tmp (nat_lit 26)))⟩,
  ⟨(some (nat_lit 28)), (some ((nat_lit 27), false)), .simple (.fieldAddr (nat_lit 4) (.tmp (nat_lit 1)))⟩,
  ⟨(some (nat_lit 29)), (some ((nat_lit 27), false)), .simple (.load none (.tmp (nat_lit 28)))⟩,
  ⟨(some (nat_lit 30)), (some ((nat_lit 27), false)), .simple (.len (.tmp (nat_lit 29)))⟩,
  ⟨(some (nat_lit 31)), (some ((nat_lit 27), false)), .simple (.bin .gtr (.tmp (nat_lit 30)) (.const (.int .i64 (.ofNat (nat_lit 2)))))⟩,
  ⟨(some (nat_lit 32)), none, .simple (.pick (.tmp (nat_lit 27)) (.const (.bool true)) (.tmp (nat_lit 31)))⟩,
  ⟨(some (nat_lit 33)), none, .simple (.move (.tmp (nat_lit 32)))⟩,
  ⟨(some (nat_lit 34)), (some ((nat_lit 33), false)), .simple (.fieldAddr (nat_lit 5) (.tmp (nat_lit 1)))⟩,
  ⟨(some (nat_lit 35)), (some ((nat_lit 33), false)), .simple (.load none (.tmp (nat_lit 34)))⟩,
  ⟨(some (nat_lit 36)), (some ((nat_lit 33), false)), .simple (.len (.tmp (nat_lit 35)))⟩,
  ⟨(some (nat_lit 37)), (some ((nat_lit 33), false)), .simple (.bin .gtr (.tmp (nat_lit 36)) (.const (.int .i64 (.ofNat (nat_lit 2)))))⟩,
  ⟨(some (nat_lit 38)), none, .simple (.pick (.tmp (nat_lit 33)) (.const (.bool true)) (.tmp (nat_lit 37)))⟩] (some [(nat_lit 1), (nat_lit 38)]))
(.cond (.tmp (nat_lit 38))
 (.seq (.region [
   ⟨(some (nat_lit 2)), none, .simple (.move (.const (.int .i64 (.ofNat (nat_lit 3)))))⟩] (some [(nat_lit 2)]))
 .ret)
 .skip))
(.seq (.seq (.region [
  ⟨(some (nat_lit 39)), none, .simple (.fieldAddr (nat_lit 0) (.tmp (nat_lit 1)))⟩,
  ⟨(some (nat_lit 40)), none, .simple (.load none (.tmp (nat_lit 39)))⟩,
  ⟨(some (nat_lit 41)), none, .simple (.bin .lss (.tmp (nat_lit 40)) (.const (.int .i64 (.ofNat (nat_lit 1)))))⟩,
  ⟨(some (nat_lit 42)), none, .simple (.move (.tmp (nat_lit 41)))⟩,
  ⟨(some (nat_lit 43)), (some ((nat_lit 42), false)), .simple (.fieldAddr (nat_lit 1) (.tmp (nat_lit 1)))⟩,
  ⟨(some (nat_lit 44)), (some ((nat_lit 42), false)), .simple (.load none (.tmp (nat_lit 43)))⟩,
  ⟨(some (nat_lit 45)), (some ((nat_lit 42), false)), .simple (.len (.tmp (nat_lit 44)))⟩,
  ⟨(some (nat_lit 46)), (some ((nat_lit 42), false)), .simple (.fieldAddr (nat_lit 0) (.tmp (nat_lit 1)))⟩,
  ⟨(some (nat_lit 47)), (some ((nat_lit 42), false)), .simple (.load none (.tmp (nat_lit 46)))⟩,
  ⟨(some (nat_lit 48)), (some ((nat_lit 42), false)), .simple (.bin .neq (.tmp (nat_lit 45)) (.tmp (nat_lit 47)))⟩,
  ⟨(some (nat_lit 49)), none, .simple (.pick (.tmp (nat_lit 42)) (.const (.bool true)) (.tmp (nat_lit 48)))⟩] (some [(nat_lit 1), (nat_lit 49)]))
(.cond (.tmp (nat_lit 49))
 (.seq (.region [
   ⟨(some (nat_lit 2)), none, .simple (.move (.const (.int .i64 (.ofNat (nat_lit 1)))))⟩] (some [(nat_lit 2)]))
 .ret)
 .skip))
(.seq (.seq (.region [
  ⟨(some (nat_lit 3)), none, .simple (.move (.const (.int .i64 (.ofNat (nat_lit 0)))))⟩] (some [(nat_lit 1), (nat_lit 3)]))
(.block (nat_lit 0) (.loop (.seq (.seq (.region [
    ⟨(some (nat_lit 50)), none, .simple (.move (.tmp (nat_lit 3)))⟩,
    ⟨(some (nat_lit 51)), none, .simple (.fieldAddr (nat_lit 0) (.tmp (nat_lit 1)))⟩,
    ⟨(some (nat_lit 52)), none, .simple (.load none (.tmp (nat_lit 51)))⟩,
    ⟨(some (nat_lit 53)), none, .simple (.bin .lss (.tmp (nat_lit 50)) (.tmp (nat_lit 52)))⟩] (some [(nat_lit 1), (nat_lit 3), (nat_lit 53)]))
  (.cond (.tmp (nat_lit 53))
   .skip
   (.exit (nat_lit 0))))
  (.seq (.block (nat_lit 1) (.seq (.region [
     ⟨(some (nat_lit 56)), none, .simple (.fieldAddr (nat_lit 1) (.tmp (nat_lit 1)))⟩,
     ⟨(some (nat_lit 57)), none, .simple (.load none (.tmp (nat_lit 56)))⟩,
     ⟨(some (nat_lit 58)), none, .simple (.move (.tmp (nat_lit 3)))⟩,
     ⟨(some (nat_lit 59)), none, .simple (.indexS (nat_lit 1) (.tmp (nat_lit 57)) (.tmp (nat_lit 58)))⟩,
     ⟨(some (nat_lit 60)), none, .simple (.load none (.tmp (nat_lit 59)))⟩,
     ⟨(some (nat_lit 61)), none, .call (.func (nat_lit 23)) [(.tmp (nat_lit 60)), (.const (.int .i64 (.ofNat (nat_lit 0)))), (.const (.int .i64 (.ofNat (nat_lit 100))))]⟩,
     ⟨(some (nat_lit 62)), none, .simple (.un .not (.tmp (nat_lit 61)))⟩] (some [(nat_lit 1), (nat_lit 3), (nat_lit 62)]))
   (.cond (.tmp (nat_lit 62))
    (.seq (.region [
      ⟨(some (nat_lit 2)), none, .simple (.move (.const (.int .i64 (.ofNat (nat_lit 1)))))⟩] (some [(nat_lit 2)]))
    .ret)
    .skip)))
  (.region [
    ⟨(some (nat_lit 54)), none, .simple (.move (.tmp (nat_lit 3)))⟩,
    ⟨(some (nat_lit 55)), none, .simple (.bin .add (.tmp (nat_lit 54)) (.const (.int .i64 (.ofNat (nat_lit 1)))))⟩,
    ⟨(some (nat_lit 3)), none, .simple (.move (.tmp (nat_lit 55)))⟩] (some [(nat_lit 1), (nat_lit 3)])))))))
(.seq (.seq (.region [
  ⟨(some (nat_lit 4)), none, .simple (.move (.const (.int .i64 (.ofNat (nat_lit 0)))))⟩] (some [(nat_lit 1), (nat_lit 4)]))
(.block (nat_lit 2) (.loop (.seq (.seq (.region [
    ⟨(some (nat_lit 63)), none, .simple (.move (.tmp (nat_lit 4)))⟩,
    ⟨(some (nat_lit 64)), none, .simple (.fieldAddr (nat_lit 2) (.tmp (nat_lit 1)))⟩,
    ⟨(some (nat_lit 65)), none, .simple (.load none (.tmp (nat_lit 64)))⟩,
    ⟨(some (nat_lit 66)), none, .simple (.len (.tmp (nat_lit 65)))⟩,
    ⟨(some (nat_lit 67)), none, .simple (.bin .lss (.tmp (nat_lit 63)) (.tmp (nat_lit 66)))⟩] (some [(nat_lit 1), (nat_lit 4), (nat_lit 67)]))
  (.cond (.tmp (nat_lit 67))
   .skip
   (.exit (nat_lit 2))))
  (.seq (.block (nat_lit 3) (.seq (.region [
     ⟨(some (nat_lit 70)), none, .simple (.fieldAddr (nat_lit 2) (.tmp (nat_lit 1)))⟩,
     ⟨(some (nat_lit 71)), none, .simple (.load none (.tmp (nat_lit 70)))⟩,
     ⟨(some (nat_lit 72)), none, .simple (.move (.tmp (nat_lit 4)))⟩,
     ⟨(some (nat_lit 73)), none, .simple (.indexS (nat_lit 7) (.tmp (nat_lit 71)) (.tmp (nat_lit 72)))⟩,
     ⟨(some (nat_lit 74)), none, .simple (.load (some (nat_lit 7)) (.tmp (nat_lit 73)))⟩,
     ⟨(some (nat_lit 5)), none, .simple (.alloc [(.d (.int .i64 (.ofNat (nat_lit 0)))), (.d (.int .i64 (.ofNat (nat_lit 0)))), (.d (.int .i64 (.ofNat (nat_lit 0)))), (.d (.int .i64 (.ofNat (nat_lit 0)))), (.d (.int .i64 (.ofNat (nat_lit 0)))), (.d (.int .i64 (.ofNat (nat_lit 0)))), (.d (.int .i64 (.ofNat (nat_lit 0))))])⟩,
     ⟨none, none, .simple (.store (nat_lit 7) (.tmp (nat_lit 5)) (.tmp (nat_lit 74)))⟩] (some [(nat_lit 1), (nat_lit 4), (nat_lit 5)]))
   (.seq (.region [
     ⟨(some (nat_lit 75)), none, .simple (.fieldAddr (nat_lit 0) (.tmp (nat_lit 5)))⟩,
     ⟨(some (nat_lit 76)), none, .simple (.load none (.tmp (nat_lit 75)))⟩,
     ⟨(some (nat_lit 77)), none, .simple (.fieldAddr (nat_lit 0) (.tmp (nat_lit 1)))⟩,
     ⟨(some (nat_lit 78)), none, .simple (.load none (.tmp (nat_lit 77)))⟩,
     ⟨(some (nat_lit 79)), none, .simple (.bin .sub (.tmp (nat_lit 78)) (.const (.int .i64 (.ofNat (nat_lit 1)))))⟩,
     ⟨(some (nat_lit 80)), none, .call (.func (nat_lit 23)) [(.tmp (nat_lit 76)), (.const (.int .i64 (.ofNat (nat_lit 0)))), (.tmp (nat_lit 79))]⟩,
     ⟨(some (nat_lit 81)), none, .simple (.un .not (.tmp (nat_lit 80)))⟩,
     ⟨(some (nat_lit 82)), none, .simple (.move (.tmp (nat_lit 81)))⟩,
     ⟨(some (nat_lit 83)), (some ((nat_lit 82), false)), .simple (.fieldAddr (nat_lit 1) (.tmp (nat_lit 5)))⟩,
     ⟨(some (nat_lit 84)), (some ((nat_lit 82), false)), .simple (.load none (.tmp (nat_lit 83)))⟩,
     ⟨(some (nat_lit 85)), (some ((nat_lit 82), false)), .simple (.fieldAddr (nat_lit 0) (.tmp (nat_lit 1)))⟩,
     ⟨(some (nat_lit 86)), (some ((nat_lit 82), false)), .simple (.load none (.tmp (nat_lit 85)))⟩,
     ⟨(some (nat_lit 87)), (some ((nat_lit 82), false)), .simple (.bin .sub (.tmp (nat_lit 86)) (.const (.int .i64 (.ofNat (nat_lit 1)))))⟩,
     ⟨(some (nat_lit 88)), (some ((nat_lit 82), false)), .call (.func (nat_lit 23)) [(.tmp (nat_lit 84)), (.const (.int .i64 (.ofNat (nat_lit 0)))), (.tmp (nat_lit 87))]⟩,
     ⟨(some (nat_lit 89)), (some ((nat_lit 82), false)), .simple (.un .not (.tmp (nat_lit 88)))⟩,
     ⟨(some (nat_lit 90)), none, .simple (.pick (.tmp (nat_lit 82)) (.const (.bool true)) (.tmp (nat_lit 89)))⟩,
     ⟨(some (nat_lit 91)), none, .simple (.move (.tmp (nat_lit 90)))⟩,
     ⟨(some (nat_lit 92)), (some ((nat_lit 91), false)), .simple (.fieldAddr (nat_lit 0) (.tmp (nat_lit 5)))⟩,
     ⟨(some (nat_lit 93)), (some ((nat_lit 91), false)), .simple (.load none (.tmp (nat_lit 92)))⟩,
     ⟨(some (nat_lit 94)), (some ((nat_lit 91), false)), .simple (.fieldAddr (nat_lit 1) (.tmp (nat_lit 5)))⟩,
     ⟨(some (nat_lit 95)), (some ((nat_lit 91), false)), .simple (.load none (.tmp (nat_lit 94)))⟩,
     ⟨(some (nat_lit 96)), (some ((nat_lit 91), false)), .simple (.bin .eql (.tmp (nat_lit 93)) (.tmp (nat_lit 95)))⟩,
     ⟨(some (nat_lit 97)), none, .simple (.pick (.tmp (nat_lit 91)) (.const (.bool true)) (.tmp (nat_lit 96)))⟩,
     ⟨(some (nat_lit 98)), none, .simple (.move (.tmp (nat_lit 97)))⟩,
     ⟨(some (nat_lit 99)), (some ((nat_lit 98), false)), .simple (.fieldAddr (nat_lit 2) (.tmp (nat_lit 5)))⟩,
     ⟨(some (nat_lit 100)), (some ((nat_lit 98), false)), .simple (.load none (.tmp (nat_lit 99)))⟩,
     ⟨(some (nat_lit 101)), (some ((nat_lit 98), false)), .call (.func (nat_lit 23)) [(.tmp (nat_lit 100)), (.const (.int .i64 (.ofNat (nat_lit 1)))), (.const (.int .i64 (.ofNat (nat_lit 100))))]⟩,
     ⟨(some (nat_lit 102)), (some ((nat_lit 98), false)), .simple (.un .not (.tmp (nat_lit 101)))⟩,
     ⟨(some (nat_lit 103)), none, .simple (.pick (.tmp (nat_lit 98)) (.const (.bool true)) (.tmp (nat_lit 102)))⟩,
     ⟨(some (nat_lit 104)), none, .simple (.move (.tmp (nat_lit 103)))⟩,
     ⟨(some (nat_lit 105)), (some ((nat_lit 104), false)), .simple (.fieldAddr (nat_lit 3) (.tmp (nat_lit 5)))⟩,
     ⟨(some (nat_lit 106)), (some ((nat_lit 104), false)), .simple (.load (some (nat_lit 2)) (.tmp (nat_lit 105)))⟩,
     ⟨(some (nat_lit 107)), (some ((nat_lit 104), false)), .call (.func (nat_lit 43)) [(.tmp (nat_lit 106))]⟩,
     ⟨(some (nat_lit 108)), (some ((nat_lit 104), false)), .simple (.un .not (.tmp (nat_lit 107)))⟩,
     ⟨(some (nat_lit 109)), none, .simple (.pick (.tmp (nat_lit 104)) (.const (.bool true)) (.tmp (nat_lit 108)))⟩,
     ⟨(some (nat_lit 110)), none, .simple (.move (.tmp (nat_lit 109)))⟩,
     ⟨(some (nat_lit 111)), (some ((nat_lit 110), false)), .simple (.fieldAddr (nat_lit 5) (.tmp (nat_lit 5)))⟩,
     ⟨(some (nat_lit 112)), (some ((nat_lit 110), false)), .simple (.load (some (nat_lit 2)) (.tmp (nat_lit 111)))⟩,
     ⟨(some (nat_lit 113)), (some ((nat_lit 110), false)), .call (.func (nat_lit 43)) [(.tmp (nat_lit 112))]⟩,
     ⟨(some (nat_lit 114)), (some ((nat_lit 110), false)), .simple (.un .not (.tmp (nat_lit 113)))⟩,
     ⟨(some (nat_lit 115)), none, .simple (.pick (.tmp (nat_lit 110)) (.const (.bool true)) (.tmp (nat_lit 114)))⟩,
     ⟨(some (nat_lit 116)), none, .simple (.move (.tmp (nat_lit 115)))⟩,
     ⟨(some (nat_lit 117)), (some ((nat_lit 116), false)), .simple (.fieldAddr (nat_lit 3) (.tmp (nat_lit 5)))⟩,
     ⟨(some (nat_lit 118)), (some ((nat_lit 116), false)), .simple (.fieldAddr (nat_lit 1) (.tmp (nat_lit 117)))⟩,
     ⟨(some (nat_lit 119)), (some ((nat_lit 116), false)), .simple (.load none (.tmp (nat_lit 118)))⟩,
     ⟨(some (nat_lit 120)), (some ((nat_lit 116), false)), .simple (.fieldAddr (nat_lit 3) (.tmp (nat_lit 5)))⟩,
     ⟨(some (nat_lit 121)), (some ((nat_lit 116), false)), .simple (.fieldAddr (nat_lit 0) (.tmp (nat_lit 120)))⟩,
     ⟨(some (nat_lit 122)), (some ((nat_lit 116), false)), .simple (.load none (.tmp (nat_lit 121)))⟩,
     ⟨(some (nat_lit 123)), (some ((nat_lit 116), false)), .simple (.bin .sub (.tmp (nat_lit 119)) (.tmp (nat_lit 122)))⟩,
     ⟨(some (nat_lit 124)), (some ((nat_lit 116), false)), .simple (.bin .gtr (.tmp (nat_lit 123)) (.const (.int .i64 (.ofNat (nat_lit 2)))))⟩,
     ⟨(some (nat_lit 125)), none, .simple (.pick (.tmp (nat_lit 116)) (.const (.bool true)) (.tmp (nat_lit 124)))⟩,
     ⟨(some (nat_lit 126)), none, .simple (.move (.tmp (nat_lit 125)))⟩,
     ⟨(some (nat_lit 127)), (some ((nat_lit 126), false)), .simple (.fieldAddr (nat_lit 5) (.tmp (nat_lit 5)))⟩,
     ⟨(some (nat_lit 128)), (some ((nat_lit 126), false)), .simple (.fieldAddr (nat_lit 1) (.tmp (nat_lit 127)))⟩,
     ⟨(some (nat_lit 129)), (some ((nat_lit 126), false)), .simple (.load none (.tmp (nat_lit 128)))⟩,
     ⟨(some (nat_lit 130)), (some ((nat_lit 126), false)), .simple (.fieldAddr (nat_lit 5) (.tmp (nat_lit 5)))⟩,
     ⟨(some (nat_lit 131)), (some ((nat_lit 126), false)), .simple (.fieldAddr (nat_lit 0) (.tmp (nat_lit 130)))⟩,
     ⟨(some (nat_lit 132)), (some ((nat_lit 126), false)), .simple (.load none (.tmp (nat_lit 131)))⟩,
     ⟨(some (nat_lit 133)), (some ((nat_lit 126), false)), .simple (.bin .sub (.tmp (nat_lit 129)) (.tmp (nat_lit 132)))⟩,
     ⟨(some (nat_lit 134)), (some ((nat_lit 126), false)), .simple (.bin .gtr (.tmp (nat_lit 133)) (.const (.int .i64 (.ofNat (nat_lit 2)))))⟩,
     ⟨(some (nat_lit 135)), none, .simple (.pick (.tmp (nat_lit 126)) (.const (.bool true)) (.tmp (nat_lit 134)))⟩] (some [(nat_lit 1), (nat_lit 4), (nat_lit 135)]))
   (.cond (.tmp (nat_lit 135))
    (.seq (.region [
      ⟨(some (nat_lit 2)), none, .simple (.move (.const (.int .i64 (.ofNat (nat_lit 1)))))⟩] (some [(nat_lit 2)]))
    .ret)
    .skip))))
  (.region [
    ⟨(some (nat_lit 68)), none, .simple (.move (.tmp (nat_lit 4)))⟩,
    ⟨(some (nat_lit 69)), none, .simple (.bin .add (.tmp (nat_lit 68)) (.const (.int .i64 (.ofNat (nat_lit 1)))))⟩,
    ⟨(some (nat_lit 4)), none, .simple (.move (.tmp (nat_lit 69)))⟩] (some [(nat_lit 1), (nat_lit 4)])))))))
(.seq (.seq (.region [
  ⟨(some (nat_lit 6)), none, .simple (.move (.const (.int .i64 (.ofNat (nat_lit 0)))))⟩] (some [(nat_lit 1), (nat_lit 6)]))
(.block (nat_lit 4) (.loop (.seq (.seq (.region [
    ⟨(some (nat_lit 136)), none, .simple (.move (.tmp (nat_lit 6)))⟩,
    ⟨(some (nat_lit 137)), none, .simple (.fieldAddr (nat_lit 3) (.tmp (nat_lit 1)))⟩,
    ⟨(some (nat_lit 138)), none, .simple (.load none (.tmp (nat_lit 137)))⟩,
    ⟨(some (nat_lit 139)), none, .simple (.len (.tmp (nat_lit 138)))⟩,
    ⟨(some (nat_lit 140)), none, .simple (.bin .lss (.tmp (nat_lit 136)) (.tmp (nat_lit 139)))⟩] (some [(nat_lit 1), (nat_lit 6), (nat_lit 140)]))
  (.cond (.tmp (nat_lit 140))
   .skip
   (.exit (nat_lit 4))))
  (.seq (.block (nat_lit 5) (.seq (.region [
     ⟨(some (nat_lit 143)), none, .simple (.fieldAddr (nat_lit 3) (.tmp (nat_lit 1)))⟩,
     ⟨(some (nat_lit 144)), none, .simple (.load none (.tmp (nat_lit 143)))⟩,
     ⟨(some (nat_lit 145)), none, .simple (.move (.tmp (nat_lit 6)))⟩,
     ⟨(some (nat_lit 146)), none, .simple (.indexS (nat_lit 3) (.tmp (nat_lit 144)) (.tmp (nat_lit 145)))⟩,
     ⟨(some (nat_lit 147)), none, .simple (.load (some (nat_lit 3)) (.tmp (nat_lit 146)))⟩,
     ⟨(some (nat_lit 7)), none, .simple (.alloc [(.d (.int .i64 (.ofNat (nat_lit 0)))), (.d (.int .i64 (.ofNat (nat_lit 0)))), (.d (.int .i64 (.ofNat (nat_lit 0))))])⟩,
     ⟨none, none, .simple (.store (nat_lit 3) (.tmp (nat_lit 7)) (.tmp (nat_lit 147)))⟩] (some [(nat_lit 1), (nat_lit 6), (nat_lit 7)]))
   (.seq (.region [
     ⟨(some (nat_lit 148)), none, .simple (.fieldAddr (nat_lit 0) (.tmp (nat_lit 7)))⟩,
     ⟨(some (nat_lit 149)), none, .simple (.load none (.tmp (nat_lit 148)))⟩,
     ⟨(some (nat_lit 150)), none, .simple (.fieldAddr (nat_lit 1) (.tmp (nat_lit 7)))⟩,
     ⟨(some (nat_lit 151)), none, .simple (.load none (.tmp (nat_lit 150)))⟩,
     ⟨(some (nat_lit 152)), none, .simple (.build [(.d (.int .i64 (.ofNat (nat_lit 0)))), (.d (.int .i64 (.ofNat (nat_lit 0))))] [((nat_lit 0), (nat_lit 1), (.tmp (nat_lit 149))), ((nat_lit 1), (nat_lit 1), (.tmp (nat_lit 151)))])⟩,
     ⟨(some (nat_lit 153)), none, .call (.func (nat_lit 43)) [(.tmp (nat_lit 152))]⟩,
     ⟨(some (nat_lit 154)), none, .simple (.un .not (.tmp (nat_lit 153)))⟩,
     ⟨(some (nat_lit 155)), none, .simple (.move (.tmp (nat_lit 154)))⟩,
     ⟨(some (nat_lit 156)), (some ((nat_lit 155), false)), .simple (.fieldAddr (nat_lit 2) (.tmp (nat_lit 7)))⟩,
     ⟨(some (nat_lit 157)), (some ((nat_lit 155), false)), .simple (.load none (.tmp (nat_lit 156)))⟩,
     ⟨(some (nat_lit 158)), (some ((nat_lit 155), false)), .call (.func (nat_lit 23)) [(.tmp (nat_lit 157)), (.const (.int .i64 (.ofNat (nat_lit 0)))), (.const (.int .i64 (.ofNat (nat_lit 50))))]⟩,
     ⟨(some (nat_lit 159)), (some ((nat_lit 155), false)), .simple (.un .not (.tmp (nat_lit 158)))⟩,
     ⟨(some (nat_lit 160)), none, .simple (.pick (.tmp (nat_lit 155)) (.const (.bool true)) (.tmp (nat_lit 159)))⟩] (some [(nat_lit 1), (nat_lit 6), (nat_lit 160)]))
   (.cond (.tmp (nat_lit 160))
    (.seq (.region [
      ⟨(some (nat_lit 2)), none, .simple (.move (.const (.int .i64 (.ofNat (nat_lit 1)))))⟩] (some [(nat_lit 2)]))
    .ret)
    .skip))))
  (.region [
    ⟨(some (nat_lit 141)), none, .simple (.move (.tmp (nat_lit 6)))⟩,
    ⟨(some (nat_lit 142)), none, .simple (.bin .add (.tmp (nat_lit 141)) (.const (.int .i64 (.ofNat (nat_lit 1)))))⟩,
    ⟨(some (nat_lit 6)), none, .simple (.move (.tmp (nat_lit 142)))⟩] (some [(nat_lit 1), (nat_lit 6)])))))))
(.seq (.region [
  ⟨(some (nat_lit 8)), none, .simple (.move (.const (.int .i64 (.negSucc (nat_lit 0)))))⟩] (some [(nat_lit 1), (nat_lit 8)]))
(.seq (.seq (.region [
  ⟨(some (nat_lit 9)), none, .simple (.move (.const (.int .i64 (.ofNat (nat_lit 0)))))⟩] (some [(nat_lit 1), (nat_lit 8), (nat_lit 9)]))
(.block (nat_lit 6) (.loop (.seq (.seq (.region [
    ⟨(some (nat_lit 161)), none, .simple (.move (.tmp (nat_lit 9)))⟩,
    ⟨(some (nat_lit 162)), none, .simple (.fieldAddr (nat_lit 4) (.tmp (nat_lit 1)))⟩,
    ⟨(some (nat_lit 163)), none, .simple (.load none (.tmp (nat_lit 162)))⟩,
    ⟨(some (nat_lit 164)), none, .simple (.len (.tmp (nat_lit 163)))⟩,
    ⟨(some (nat_lit 165)), none, .simple (.bin .lss (.tmp (nat_lit 161)) (.tmp (nat_lit 164)))⟩] (some [(nat_lit 1), (nat_lit 8), (nat_lit 9), (nat_lit 165)]))
  (.cond (.tmp (nat_lit 165))
   .skip
   (.exit (nat_lit 6))))
  (.seq (.block (nat_lit 7) (.seq (.region [
     ⟨(some (nat_lit 168)), none, .simple (.fieldAddr (nat_lit 4) (.tmp (nat_lit 1)))⟩,
     ⟨(some (nat_lit 169)), none, .simple (.load none (.tmp (nat_lit 168)))⟩,
     ⟨(some (nat_lit 170)), none, .simple (.move (.tmp (nat_lit 9)))⟩,
     ⟨(some (nat_lit 171)), none, .simple (.indexS (nat_lit 3) (.tmp (nat_lit 169)) (.tmp (nat_lit 170)))⟩,
     ⟨(some (nat_lit 172)), none, .simple (.load (some (nat_lit 3)) (.tmp (nat_lit 171)))⟩,
     ⟨(some (nat_lit 10)), none, .simple (.alloc [(.d (.int .i64 (.ofNat (nat_lit 0)))), (.d (.int .i64 (.ofNat (nat_lit 0)))), (.d (.int .i64 (.ofNat (nat_lit 0))))])⟩,
     ⟨none, none, .simple (.store (nat_lit 3) (.tmp (nat_lit 10)) (.tmp (nat_lit 172)))⟩] (some [(nat_lit 1), (nat_lit 8), (nat_lit 9), (nat_lit 10)]))
   (.seq (.seq (.region [
     ⟨(some (nat_lit 173)), none, .simple (.fieldAddr (nat_lit 0) (.tmp (nat_lit 10)))⟩,
     ⟨(some (nat_lit 174)), none, .simple (.load none (.tmp (nat_lit 173)))⟩,
     ⟨(some (nat_lit 175)), none, .simple (.move (.tmp (nat_lit 8)))⟩,
     ⟨(some (nat_lit 176)), none, .simple (.bin .add (.tmp (nat_lit 175)) (.const (.int .i64 (.ofNat (nat_lit 1)))))⟩,
     ⟨(some (nat_lit 177)), none, .call (.func (nat_lit 23)) [(.tmp (nat_lit 174)), (.tmp (nat_lit 176)), (.const (.int .i64 (.ofNat (nat_lit 11))))]⟩,
     ⟨(some (nat_lit 178)), none, .simple (.un .not (.tmp (nat_lit 177)))⟩,
     ⟨(some (nat_lit 179)), none, .simple (.move (.tmp (nat_lit 178)))⟩,
     ⟨(some (nat_lit 180)), (some ((nat_lit 179), false)), .simple (.fieldAddr (nat_lit 1) (.tmp (nat_lit 10)))⟩,
     ⟨(some (nat_lit 181)), (some ((nat_lit 179), false)), .simple (.load none (.tmp (nat_lit 180)))⟩,
     ⟨(some (nat_lit 182)), (some ((nat_lit 179), false)), .call (.func (nat_lit 23)) [(.tmp (nat_lit 181)), (.const (.int .i64 (.ofNat (nat_lit 1)))), (.const (.int .i64 (.ofNat (nat_lit 6))))]⟩,
     ⟨(some (nat_lit 183)), (some ((nat_lit 179), false)), .simple (.un .not (.tmp (nat_lit 182)))⟩,
     ⟨(some (nat_lit 184)), none, .simple (.pick (.tmp (nat_lit 179)) (.const (.bool true)) (.tmp (nat_lit 183)))⟩,
     ⟨(some (nat_lit 185)), none, .simple (.move (.tmp (nat_lit 184)))⟩,
     ⟨(some (nat_lit 186)), (some ((nat_lit 185), false)), .simple (.fieldAddr (nat_lit 2) (.tmp (nat_lit 10)))⟩,
     ⟨(some (nat_lit 187)), (some ((nat_lit 185), false)), .simple (.load none (.tmp (nat_lit 186)))⟩,
     ⟨(some (nat_lit 188)), (some ((nat_lit 185), false)), .call (.func (nat_lit 23)) [(.tmp (nat_lit 187)), (.const (.int .i64 (.ofNat (nat_lit 1)))), (.const (.int .i64 (.ofNat (nat_lit 4))))]⟩,
     ⟨(some (nat_lit 189)), (some ((nat_lit 185), false)), .simple (.un .not (.tmp (nat_lit 188)))⟩,
     ⟨(some (nat_lit 190)), none, .simple (.pick (.tmp (nat_lit 185)) (.const (.bool true)) (.tmp (nat_lit 189)))⟩] (some [(nat_lit 1), (nat_lit 9), (nat_lit 10), (nat_lit 190)]))
   (.cond (.tmp (nat_lit 190))
    (.seq (.region [
      ⟨(some (nat_lit 2)), none, .simple (.move (.const (.int .i64 (.ofNat (nat_lit 1)))))⟩] (some [(nat_lit 2)]))
    .ret)
    .skip))
   (.region [
     ⟨(some (nat_lit 191)), none, .simple (.fieldAddr (nat_lit 0) (.tmp (nat_lit 10)))⟩,
     ⟨(some (nat_lit 192)), none, .simple (.load none (.tmp (nat_lit 191)))⟩,
     ⟨(some (nat_lit 8)), none, .simple (.move (.tmp (nat_lit 192)))⟩] (some [(nat_lit 1), (nat_lit 8), (nat_lit 9)])))))
  (.region [
    ⟨(some (nat_lit 166)), none, .simple (.move (.tmp (nat_lit 9)))⟩,
    ⟨(some (nat_lit 167)), none, .simple (.bin .add (.tmp (nat_lit 166)) (.const (.int .i64 (.ofNat (nat_lit 1)))))⟩,
    ⟨(some (nat_lit 9)), none, .simple (.move (.tmp (nat_lit 167)))⟩] (some [(nat_lit 1), (nat_lit 8), (nat_lit 9)])))))))
(.seq (.seq (.region [
  ⟨(some (nat_lit 11)), none, .simple (.move (.const (.int .i64 (.ofNat (nat_lit 0)))))⟩] (some [(nat_lit 1), (nat_lit 11)]))
(.block (nat_lit 8) (.loop (.seq (.seq (.region [
    ⟨(some (nat_lit 193)), none, .simple (.move (.tmp (nat_lit 11)))⟩,
    ⟨(some (nat_lit 194)), none, .simple (.fieldAddr (nat_lit 5) (.tmp (nat_lit 1)))⟩,
    ⟨(some (nat_lit 195)), none, .simple (.load none (.tmp (nat_lit 194)))⟩,
    ⟨(some (nat_lit 196)), none, .simple (.len (.tmp (nat_lit 195)))⟩,
    ⟨(some (nat_lit 197)), none, .simple (.bin .lss (.tmp (nat_lit 193)) (.tmp (nat_lit 196)))⟩] (some [(nat_lit 1), (nat_lit 11), (nat_lit 197)]))
  (.cond (.tmp (nat_lit 197))
   .skip
   (.exit (nat_lit 8))))
  (.seq (.block (nat_lit 9) (.seq (.region [
     ⟨(some (nat_lit 200)), none, .simple (.fieldAddr (nat_lit 5) (.tmp (nat_lit 1)))⟩,
     ⟨(some (nat_lit 201)), none, .simple (.load none (.tmp (nat_lit 200)))⟩,
     ⟨(some (nat_lit 202)), none, .simple (.move (.tmp (nat_lit 11)))⟩,
     ⟨(some (nat_lit 203)), none, .simple (.indexS (nat_lit 2) (.tmp (nat_lit 201)) (.tmp (nat_lit 202)))⟩,
     ⟨(some (nat_lit 204)), none, .simple (.load (some (nat_lit 2)) (.tmp (nat_lit 203)))⟩,
     ⟨(some (nat_lit 205)), none, .call (.func (nat_lit 43)) [(.tmp (nat_lit 204))]⟩,
     ⟨(some (nat_lit 206)), none, .simple (.un .not (.tmp (nat_lit 205)))⟩] (some [(nat_lit 1), (nat_lit 11), (nat_lit 206)]))
   (.cond (.tmp (nat_lit 206))
    (.seq (.region [
      ⟨(some (nat_lit 2)), none, .simple (.move (.const (.int .i64 (.ofNat (nat_lit 1)))))⟩] (some [(nat_lit 2)]))
    .ret)
    .skip)))
  (.region [
    ⟨(some (nat_lit 198)), none, .simple (.move (.tmp (nat_lit 11)))⟩,
    ⟨(some (nat_lit 199)), none, .simple (.bin .add (.tmp (nat_lit 198)) (.const (.int .i64 (.ofNat (nat_lit 1)))))⟩,
    ⟨(some (nat_lit 11)), none, .simple (.move (.tmp (nat_lit 199)))⟩] (some [(nat_lit 1), (nat_lit 11)])))))))
(.seq (.region [
  ⟨(some (nat_lit 2)), none, .simple (.move (.const (.int .i64 (.ofNat (nat_lit 0)))))⟩] (some [(nat_lit 2)]))
.ret))))))))))
theorem k69 : Try.f69.body.bind (compC Try.prog G69) = some c69 := by kernel_rfl
theorem e69 : compRes Try.prog Try.f69.results.toList = some r69 := by kernel_rfl

/-! 81: contango/contangoref07.Open; parameters 2, captured 0 -/
def G81 : Cfg := ⟨[], [((nat_lit 0), [(nat_lit 1), (nat_lit 2)]), ((nat_lit 1), [(nat_lit 1), (nat_lit 2), (nat_lit 5)]), ((nat_lit 2), [(nat_lit 1), (nat_lit 2), (nat_lit 5), (nat_lit 10)]), ((nat_lit 4), [(nat_lit 1), (nat_lit 2), (nat_lit 5), (nat_lit 26)]), ((nat_lit 5), [(nat_lit 4)]), ((nat_lit 3), [(nat_lit 1), (nat_lit 2), (nat_lit 5)]), ((nat_lit 6), [(nat_lit 4)])], (nat_lit 27), []⟩
def r81 : List CRes := [.tmp (nat_lit 4)]
def c81 : CCode :=
(.seq (.region [
  ⟨(some (nat_lit 2)), none, .simple (.box false (.tmp (nat_lit 0)))⟩,
  ⟨(some (nat_lit 4)), none, .simple (.move (.const (.bool false)))⟩] (some [(nat_lit 1), (nat_lit 2)]))
(.seq (.seq (.region [
  ⟨(some (nat_lit 5)), none, .simple (.move (.const (.int .i64 (.ofNat (nat_lit 0)))))⟩] (some [(nat_lit 1), (nat_lit 2), (nat_lit 5)]))
(.block (nat_lit 0) (.loop (.seq (.seq (.region [
    ⟨(some (nat_lit 6)), none, .simple (.move (.tmp (nat_lit 5)))⟩,
    ⟨(some (nat_lit 7)), none, .simple (.fieldAddr (nat_lit 5) (.tmp (nat_lit 2)))⟩,
    ⟨(some (nat_lit 8)), none, .simple (.load none (.tmp (nat_lit 7)))⟩,
    ⟨(some (nat_lit 9)), none, .simple (.len (.tmp (nat_lit 8)))⟩,
    ⟨(some (nat_lit 10)), none, .simple (.bin .lss (.tmp (nat_lit 6)) (.tmp (nat_lit 9)))⟩] (some [(nat_lit 1), (nat_lit 2), (nat_lit 5), (nat_lit 10)]))
  (.cond (.tmp (nat_lit 10))
   .skip
   (.exit (nat_lit 0))))
  (.seq (.block (nat_lit 1) (.seq (.region [
     ⟨(some (nat_lit 13)), none, .simple (.move (.tmp (nat_lit 1)))⟩,
     ⟨(some (nat_lit 14)), none, .simple (.fieldAddr (nat_lit 5) (.tmp (nat_lit 2)))⟩,
     ⟨(some (nat_lit 15)), none, .simple (.load none (.tmp (nat_lit 14)))⟩,
     ⟨(some (nat_lit 16)), none, .simple (.move (.tmp (nat_lit 5)))⟩,
     ⟨(some (nat_lit 17)), none, .simple (.indexS (nat_lit 2) (.tmp (nat_lit 15)) (.tmp (nat_lit 16)))⟩,
     ⟨(some (nat_lit 18)), none, .simple (.fieldAddr (nat_lit 0) (.tmp (nat_lit 17)))⟩,
     ⟨(some (nat_lit 19)), none, .simple (.load none (.tmp (nat_lit 18)))⟩,
     ⟨(some (nat_lit 20)), none, .simple (.fieldAddr (nat_lit 5) (.tmp (nat_lit 2)))⟩,
     ⟨(some (nat_lit 21)), none, .simple (.load none (.tmp (nat_lit 20)))⟩,
     ⟨(some (nat_lit 22)), none, .simple (.move (.tmp (nat_lit 5)))⟩,
     ⟨(some (nat_lit 23)), none, .simple (.indexS (nat_lit 2) (.tmp (nat_lit 21)) (.tmp (nat_lit 22)))⟩,
     ⟨(some (nat_lit 24)), none, .simple (.fieldAddr (nat_lit 1) (.tmp (nat_lit 23)))⟩,
     ⟨(some (nat_lit 25)), none, .simple (.load none (.tmp (nat_lit 24)))⟩,
     ⟨(some (nat_lit 26)), none, .call (.func (nat_lit 23)) [(.tmp (nat_lit 13)), (.tmp (nat_lit 19)), (.tmp (nat_lit 25))]⟩] (some [(nat_lit 1), (nat_lit 2), (nat_lit 5), (nat_lit 26)]))
   (.cond (.tmp (nat_lit 26))
    (.seq (.region [
      ⟨(some (nat_lit 4)), none, .simple (.move (.const (.bool false)))⟩] (some [(nat_lit 4)]))
    .ret)
    .skip)))
  (.region [
    ⟨(some (nat_lit 11)), none, .simple (.move (.tmp (nat_lit 5)))⟩,
    ⟨(some (nat_lit 12)), none, .simple (.bin .add (.tmp (nat_lit 11)) (.const (.int .i64 (.ofNat (nat_lit 1)))))⟩,
    ⟨(some (nat_lit 5)), none, .simple (.move (.tmp (nat_lit 12)))⟩] (some [(nat_lit 1), (nat_lit 2), (nat_lit 5)])))))))
(.seq (.region [
  ⟨(some (nat_lit 4)), none, .simple (.move (.const (.bool true)))⟩] (some [(nat_lit 4)]))
.ret)))
theorem k81 : Try.f81.body.bind (compC Try.prog G81) = some c81 := by kernel_rfl
theorem e81 : compRes Try.prog Try.f81.results.toList = some r81 := by kernel_rfl

/-! 12: contango/contangolaw07.CouponLater; parameters 4, captured 0 -/
def G12 : Cfg := ⟨[(nat_lit 45), (nat_lit 42), (nat_lit 39), (nat_lit 11)], [((nat_lit 0), [(nat_lit 1), (nat_lit 2), (nat_lit 4), (nat_lit 7)]), ((nat_lit 1), [(nat_lit 1), (nat_lit 2), (nat_lit 4), (nat_lit 7), (nat_lit 26)]), ((nat_lit 2), [(nat_lit 8)]), ((nat_lit 3), [(nat_lit 2), (nat_lit 4), (nat_lit 7), (nat_lit 9)]), ((nat_lit 4), [(nat_lit 4), (nat_lit 7), (nat_lit 9), (nat_lit 10)]), ((nat_lit 5), [(nat_lit 4), (nat_lit 7), (nat_lit 9), (nat_lit 10), (nat_lit 11)]), ((nat_lit 6), [(nat_lit 4), (nat_lit 9), (nat_lit 10), (nat_lit 11)]), ((nat_lit 7), [(nat_lit 4), (nat_lit 9), (nat_lit 10), (nat_lit 11), (nat_lit 12), (nat_lit 13)]), ((nat_lit 8), [(nat_lit 9), (nat_lit 11), (nat_lit 12), (nat_lit 13), (nat_lit 14), (nat_lit 15)]), ((nat_lit 9), [(nat_lit 9), (nat_lit 11), (nat_lit 12), (nat_lit 96)]), ((nat_lit 10), [(nat_lit 8)]), ((nat_lit 11), [(nat_lit 9), (nat_lit 11), (nat_lit 12), (nat_lit 99)]), ((nat_lit 12), [(nat_lit 8)]), ((nat_lit 13), [(nat_lit 12), (nat_lit 16), (nat_lit 17)]), ((nat_lit 14), [(nat_lit 8)])], (nat_lit 126), [((nat_lit 7), [((nat_lit 11), (some (nat_lit 5)))])]⟩
def r12 : List CRes := [.tmp (nat_lit 8)]
def c12 : CCode :=
(.seq (.region [
  ⟨(some (nat_lit 4)), none, .simple (.box false (.tmp (nat_lit 0)))⟩,
  ⟨(some (nat_lit 7)), none, .simple (.box false (.tmp (nat_lit 3)))⟩,
  ⟨(some (nat_lit 8)), none, .simple (.move (.const (.bool false)))⟩] (some [(nat_lit 1), (nat_lit 2), (nat_lit 4), (nat_lit 7)]))
(.seq (.seq (.region [
  ⟨(some (nat_lit 18)), none, .simple (.load (some (nat_lit 6)) (.tmp (nat_lit 4)))⟩,
  ⟨(some (nat_lit 19)), none, .simple (.build [(.d .nils), (.d .nils)] [])⟩,
  ⟨(some (nat_lit 20)), none, .call (.func (nat_lit 17)) [(.tmp (nat_lit 18)), (.tmp (nat_lit 19))]⟩,
  ⟨(some (nat_lit 21)), none, .simple (.un .not (.tmp (nat_lit 20)))⟩,
  ⟨(some (nat_lit 22)), none, .simple (.move (.tmp (nat_lit 21)))⟩,
  ⟨(some (nat_lit 23)), (some ((nat_lit 22), false)), .simple (.load (some (nat_lit 6)) (.tmp (nat_lit 4)))⟩,
  ⟨(some (nat_lit 24)), (some ((nat_lit 22), false)), .call (.func (nat_lit 34)) [(.tmp (nat_lit 23))]⟩,
  ⟨(some (nat_lit 25)), (some ((nat_lit 22), false)), .simple (.bin .neq (.tmp (nat_lit 24)) (.const (.int .i64 (.ofNat (nat_lit 0)))))⟩,
  ⟨(some (nat_lit 26)), none, .simple (.pick (.tmp (nat_lit 22)) (.const (.bool true)) (.tmp (nat_lit 25)))⟩] (some [(nat_lit 1), (nat_lit 2), (nat_lit 4), (nat_lit 7), (nat_lit 26)]))
(.cond (.tmp (nat_lit 26))
 (.seq (.region [
   ⟨(some (nat_lit 27)), none, .call (.func (nat_lit 18)) []⟩,
   ⟨(some (nat_lit 8)), none, .simple (.move (.tmp (nat_lit 27)))⟩] (some [(nat_lit 8)]))
 .ret)
 .skip))
(.seq (.region [
  ⟨(some (nat_lit 28)), none, .simple (.move (.tmp (nat_lit 1)))⟩,
  ⟨(some (nat_lit 29)), none, .simple (.conv .i64 (.tmp (nat_lit 28)))⟩,
  ⟨(some (nat_lit 30)), none, .simple (.bin .rem (.tmp (nat_lit 29)) (.const (.int .i64 (.ofNat (nat_lit 12)))))⟩,
  ⟨(some (nat_lit 9)), none, .simple (.move (.tmp (nat_lit 30)))⟩] (some [(nat_lit 2), (nat_lit 4), (nat_lit 7), (nat_lit 9)]))
(.seq (.region [
  ⟨(some (nat_lit 31)), none, .simple (.move (.tmp (nat_lit 9)))⟩,
  ⟨(some (nat_lit 32)), none, .simple (.move (.tmp (nat_lit 2)))⟩,
  ⟨(some (nat_lit 33)), none, .simple (.conv .i64 (.tmp (nat_lit 32)))⟩,
  ⟨(some (nat_lit 34)), none, .simple (.move (.tmp (nat_lit 9)))⟩,
  ⟨(some (nat_lit 35)), none, .simple (.bin .sub (.const (.int .i64 (.ofNat (nat_lit 12)))) (.tmp (nat_lit 34)))⟩,
  ⟨(some (nat_lit 36)), none, .simple (.bin .rem (.tmp (nat_lit 33)) (.tmp (nat_lit 35)))⟩,
  ⟨(some (nat_lit 37)), none, .simple (.bin .add (.tmp (nat_lit 31)) (.tmp (nat_lit 36)))⟩,
  ⟨(some (nat_lit 10)), none, .simple (.move (.tmp (nat_lit 37)))⟩] (some [(nat_lit 4), (nat_lit 7), (nat_lit 9), (nat_lit 10)]))
(.seq (.region [
  ⟨(some (nat_lit 38)), none, .simple (.load (some (nat_lit 6)) (.tmp (nat_lit 4)))⟩,
  ⟨(some (nat_lit 11)), none, .simple (.alloc [(.d (.int .i64 (.ofNat (nat_lit 0)))), (.d .nils), (.d .nils), (.d .nils), (.d .nils), (.d .nils)])⟩,
  ⟨none, none, .simple (.store (nat_lit 6) (.tmp (nat_lit 11)) (.tmp (nat_lit 38)))⟩] (some [(nat_lit 4), (nat_lit 7), (nat_lit 9), (nat_lit 10), (nat_lit 11)]))
(.seq (.seq (.region [
  ⟨(some (nat_lit 40)), none, .simple (.fieldAddr (nat_lit 5) (.tmp (nat_lit 4)))⟩,
  ⟨(some (nat_lit 41)), none, .simple (.load none (.tmp (nat_lit 40)))⟩] none)
(.both (.seq (.region [
   ⟨(some (nat_lit 39)), none, .simple (.bslice true (nat_lit 73) (nat_lit 2) (nat_lit 0) [] [])⟩] none)
 (.both (.region [
    ⟨(some (nat_lit 42)), none, .app (nat_lit 73) (nat_lit 2) (nat_lit 16) (.tmp (nat_lit 39)) (.tmp (nat_lit 41))⟩,
    ⟨(some (nat_lit 43)), none, .simple (.load (some (nat_lit 2)) (.tmp (nat_lit 7)))⟩,
    ⟨(some (nat_lit 44)), none, .simple (.bslice false (nat_lit 73) (nat_lit 2) (nat_lit 1) [(.int .i64 (.ofNat (nat_lit 0))), (.int .i64 (.ofNat (nat_lit 0)))] [((nat_lit 0), (.tmp (nat_lit 43)))])⟩,
    ⟨(some (nat_lit 45)), none, .app (nat_lit 73) (nat_lit 2) (nat_lit 16) (.tmp (nat_lit 42)) (.tmp (nat_lit 44))⟩,
    ⟨(some (nat_lit 46)), none, .simple (.fieldAddr (nat_lit 5) (.tmp (nat_lit 11)))⟩,
    ⟨none, none, .simple (.store (nat_lit 1) (.tmp (nat_lit 46)) (.tmp (nat_lit 45)))⟩] (some [(nat_lit 4), (nat_lit 9), (nat_lit 10), (nat_lit 11)]))
  (.region [
    ⟨(some (nat_lit 43)), none, .simple (.load (some (nat_lit 2)) (.tmp (nat_lit 7)))⟩,
    ⟨(some (nat_lit 44)), none, .simple (.bslice false (nat_lit 73) (nat_lit 2) (nat_lit 1) [(.int .i64 (.ofNat (nat_lit 0))), (.int .i64 (.ofNat (nat_lit 0)))] [((nat_lit 0), (.tmp (nat_lit 43)))])⟩,
    ⟨(some (nat_lit 42)), none, .app (nat_lit 73) (nat_lit 2) (nat_lit 16) (.tmp (nat_lit 39)) (.tmp (nat_lit 41))⟩,
    ⟨(some (nat_lit 45)), none, .app (nat_lit 73) (nat_lit 2) (nat_lit 16) (.tmp (nat_lit 42)) (.tmp (nat_lit 44))⟩,
    ⟨(some (nat_lit 46)), none, .simple (.fieldAddr (nat_lit 5) (.tmp (nat_lit 11)))⟩,
    ⟨none, none, .simple (.store (nat_lit 1) (.tmp (nat_lit 46)) (.tmp (nat_lit 45)))⟩] (some [(nat_lit 4), (nat_lit 9), (nat_lit 10), (nat_lit 11)]))))
 (.region [
   ⟨(some (nat_lit 43)), none, .simple (.load (some (nat_lit 2)) (.tmp (nat_lit 7)))⟩,
   ⟨(some (nat_lit 44)), none, .simple (.bslice false (nat_lit 73) (nat_lit 2) (nat_lit 1) [(.int .i64 (.ofNat (nat_lit 0))), (.int .i64 (.ofNat (nat_lit 0)))] [((nat_lit 0), (.tmp (nat_lit 43)))])⟩,
   ⟨(some (nat_lit 39)), none, .simple (.bslice true (nat_lit 73) (nat_lit 2) (nat_lit 0) [] [])⟩,
   ⟨(some (nat_lit 42)), none, .app (nat_lit 73) (nat_lit 2) (nat_lit 16) (.tmp (nat_lit 39)) (.tmp (nat_lit 41))⟩,
   ⟨(some (nat_lit 45)), none, .app (nat_lit 73) (nat_lit 2) (nat_lit 16) (.tmp (nat_lit 42)) (.tmp (nat_lit 44))⟩,
   ⟨(some (nat_lit 46)), none, .simple (.fieldAddr (nat_lit 5) (.tmp (nat_lit 11)))⟩,
   ⟨none, none, .simple (.store (nat_lit 1) (.tmp (nat_lit 46)) (.tmp (nat_lit 45)))⟩] (some [(nat_lit 4), (nat_lit 9), (nat_lit 10), (nat_lit 11)]))))
(.seq (.seq (.frz ((nat_lit 11), (some (nat_lit 5))))
(.region [
  ⟨(some (nat_lit 48)), none, .simple (.load (some (nat_lit 6)) (.tmp (nat_lit 4)))⟩,
  ⟨(some (nat_lit 49)), none, .call (.func (nat_lit 20)) [(.tmp (nat_lit 48))]⟩,
  ⟨(some (nat_lit 50)), none, .simple (.move (.tmp (nat_lit 9)))⟩,
  ⟨(some (nat_lit 51)), none, .call (.func (nat_lit 50)) [(.tmp (nat_lit 49)), (.tmp (nat_lit 50))]⟩,
  ⟨(some (nat_lit 47)), none, .simple (.move (.tmp (nat_lit 51)))⟩,
  ⟨(some (nat_lit 52)), none, .simple (.extract (.tmp (nat_lit 47)) (nat_lit 0))⟩,
  ⟨(some (nat_lit 53)), none, .simple (.extract (.tmp (nat_lit 47)) (nat_lit 1))⟩,
  ⟨(some (nat_lit 12)), none, .simple (.move (.tmp (nat_lit 52)))⟩,
  ⟨(some (nat_lit 13)), none, .simple (.move (.tmp (nat_lit 53)))⟩] (some [(nat_lit 4), (nat_lit 9), (nat_lit 10), (nat_lit 11), (nat_lit 12), (nat_lit 13)])))
(.seq (.region [
  ⟨(some (nat_lit 55)), none, .simple (.load (some (nat_lit 6)) (.tmp (nat_lit 4)))⟩,
  ⟨(some (nat_lit 56)), none, .call (.func (nat_lit 20)) [(.tmp (nat_lit 55))]⟩,
  ⟨(some (nat_lit 57)), none, .simple (.move (.tmp (nat_lit 10)))⟩,
  ⟨(some (nat_lit 58)), none, .call (.func (nat_lit 50)) [(.tmp (nat_lit 56)), (.tmp (nat_lit 57))]⟩,
  ⟨(some (nat_lit 54)), none, .simple (.move (.tmp (nat_lit 58)))⟩,
  ⟨(some (nat_lit 59)), none, .simple (.extract (.tmp (nat_lit 54)) (nat_lit 0))⟩,
  ⟨(some (nat_lit 60)), none, .simple (.extract (.tmp (nat_lit 54)) (nat_lit 1))⟩,
  ⟨(some (nat_lit 14)), none, .simple (.move (.tmp (nat_lit 59)))⟩,
  ⟨(some (nat_lit 15)), none, .simple (.move (.tmp (nat_lit 60)))⟩] (some [(nat_lit 9), (nat_lit 11), (nat_lit 12), (nat_lit 13), (nat_lit 14), (nat_lit 15)]))
(.seq (.seq (.region [
  ⟨(some (nat_lit 61)), none, .simple (.move (.tmp (nat_lit 13)))⟩,
  ⟨(some (nat_lit 62)), none, .simple (.bin .neq (.tmp (nat_lit 61)) (.const (.int .i64 (.ofNat (nat_lit 0)))))⟩,
  ⟨(some (nat_lit 63)), none, .simple (.move (.tmp (nat_lit 62)))⟩,
  ⟨(some (nat_lit 64)), (some ((nat_lit 63), false)), .simple (.move (.tmp (nat_lit 15)))⟩,
  ⟨(some (nat_lit 65)), (some ((nat_lit 63), false)), .simple (.bin .neq (.tmp (nat_lit 64)) (.const (.int .i64 (.ofNat (nat_lit 0)))))⟩,
  ⟨(some (nat_lit 66)), none, .simple (.pick (.tmp (nat_lit 63)) (.const (.bool true)) (.tmp (nat_lit 65)))⟩,
  ⟨(some (nat_lit 67)), none, .simple (.move (.tmp (nat_lit 66)))⟩,
  ⟨(some (nat_lit 68)), (some ((nat_lit 67), false)), .simple (.move (.tmp (nat_lit 12)))⟩,
  ⟨(some (nat_lit 69)), (some ((nat_lit 67), false)), .simple (.bin .neq (.tmp (nat_lit 68)) (.const (.int .i64 (.negSucc (nat_lit 0)))))⟩,
  ⟨(some (nat_lit 70)), (some ((nat_lit 67), false)), .simple (.move (.tmp (nat_lit 69)))⟩,
  ⟨(some (nat_lit 71)), (some ((nat_lit 70), true)), .simple (.move (.tmp (nat_lit 12)))⟩,
  ⟨(some (nat_lit 72)), (some ((nat_lit 70), true)), .simple (.move (.tmp (nat_lit 9)))⟩,
  ⟨(some (nat_lit 73)), (some ((nat_lit 70), true)), .simple (.bin .lss (.tmp (nat_lit 71)) (.tmp (nat_lit 72)))⟩,
  ⟨(some (nat_lit 74)), (some ((nat_lit 70), true)), .simple (.move (.tmp (nat_lit 73)))⟩,
  ⟨(some (nat_lit 75)), (some ((nat_lit 74), false)), .simple (.move (.tmp (nat_lit 12)))⟩,
  ⟨(some (nat_lit 76)), (some ((nat_lit 74), false)), .simple (.bin .gtr (.tmp (nat_lit 75)) (.const (.int .i64 (.ofNat (nat_lit 11)))))⟩,
  ⟨(some (nat_lit 77)), (some ((nat_lit 70), true)), .simple (.pick (.tmp (nat_lit 74)) (.const (.bool true)) (.tmp (nat_lit 76)))⟩,
  ⟨(some (nat_lit 78)), (some ((nat_lit 67), false)), .simple (.pick (.tmp (nat_lit 70)) (.tmp (nat_lit 77)) (.const (.bool false)))⟩,
  ⟨(some (nat_lit 79)), none, .simple (.pick (.tmp (nat_lit 67)) (.const (.bool true)) (.tmp (nat_lit 78)))⟩,
  ⟨(some (nat_lit 80)), none, .simple (.move (.tmp (nat_lit 79)))⟩,
  ⟨(some (nat_lit 81)), (some ((nat_lit 80), false)), .simple (.move (.tmp (nat_lit 12)))⟩,
  ⟨(some (nat_lit 82)), (some ((nat_lit 80), false)), .simple (.bin .eql (.tmp (nat_lit 81)) (.const (.int .i64 (.negSucc (nat_lit 0)))))⟩,
  ⟨(some (nat_lit 83)), (some ((nat_lit 80), false)), .simple (.move (.tmp (nat_lit 82)))⟩,
  ⟨(some (nat_lit 84)), (some ((nat_lit 83), true)), .simple (.move (.tmp (nat_lit 14)))⟩,
  ⟨(some (nat_lit 85)), (some ((nat_lit 83), true)), .simple (.bin .neq (.tmp (nat_lit 84)) (.const (.int .i64 (.negSucc (nat_lit 0)))))⟩,
  ⟨(some (nat_lit 86)), (some ((nat_lit 80), false)), .simple (.pick (.tmp (nat_lit 83)) (.tmp (nat_lit 85)) (.const (.bool false)))⟩,
  ⟨(some (nat_lit 87)), none, .simple (.pick (.tmp (nat_lit 80)) (.const (.bool true)) (.tmp (nat_lit 86)))⟩,
  ⟨(some (nat_lit 88)), none, .simple (.move (.tmp (nat_lit 87)))⟩,
  ⟨(some (nat_lit 89)), (some ((nat_lit 88), false)), .simple (.move (.tmp (nat_lit 14)))⟩,
  ⟨(some (nat_lit 90)), (some ((nat_lit 88), false)), .simple (.bin .neq (.tmp (nat_lit 89)) (.const (.int .i64 (.negSucc (nat_lit 0)))))⟩,
  ⟨(some (nat_lit 91)), (some ((nat_lit 88), false)), .simple (.move (.tmp (nat_lit 90)))⟩,
  ⟨(some (nat_lit 92)), (some ((nat_lit 91), true)), .simple (.move (.tmp (nat_lit 14)))⟩,
  ⟨(some (nat_lit 93)), (some ((nat_lit 91), true)), .simple (.move (.tmp (nat_lit 12)))⟩,
  ⟨(some (nat_lit 94)), (some ((nat_lit 91), true)), .simple (.bin .lss (.tmp (nat_lit 92)) (.tmp (nat_lit 93)))⟩,
  ⟨(some (nat_lit 95)), (some ((nat_lit 88), false)), .simple (.pick (.tmp (nat_lit 91)) (.tmp (nat_lit 94)) (.const (.bool false)))⟩,
  ⟨(some (nat_lit 96)), none, .simple (.pick (.tmp (nat_lit 88)) (.const (.bool true)) (.tmp (nat_lit 95)))⟩] (some [(nat_lit 9), (nat_lit 11), (nat_lit 12), (nat_lit 96)]))
(.cond (.tmp (nat_lit 96))
 (.seq (.region [
   ⟨(some (nat_lit 8)), none, .simple (.move (.const (.bool false)))⟩] (some [(nat_lit 8)]))
 .ret)
 .skip))
(.seq (.seq (.region [
  ⟨(some (nat_lit 97)), none, .simple (.load (some (nat_lit 6)) (.tmp (nat_lit 11)))⟩,
  ⟨(some (nat_lit 98)), none, .call (.func (nat_lit 34)) [(.tmp (nat_lit 97))]⟩,
  ⟨(some (nat_lit 99)), none, .simple (.bin .neq (.tmp (nat_lit 98)) (.const (.int .i64 (.ofNat (nat_lit 0)))))⟩] (some [(nat_lit 9), (nat_lit 11), (nat_lit 12), (nat_lit 99)]))
(.cond (.tmp (nat_lit 99))
 (.seq (.region [
   ⟨(some (nat_lit 100)), none, .call (.func (nat_lit 18)) []⟩,
   ⟨(some (nat_lit 8)), none, .simple (.move (.tmp (nat_lit 100)))⟩] (some [(nat_lit 8)]))
 .ret)
 .skip))
(.seq (.region [
  ⟨(some (nat_lit 102)), none, .simple (.load (some (nat_lit 6)) (.tmp (nat_lit 11)))⟩,
  ⟨(some (nat_lit 103)), none, .call (.func (nat_lit 20)) [(.tmp (nat_lit 102))]⟩,
  ⟨(some (nat_lit 104)), none, .simple (.move (.tmp (nat_lit 9)))⟩,
  ⟨(some (nat_lit 105)), none, .call (.func (nat_lit 50)) [(.tmp (nat_lit 103)), (.tmp (nat_lit 104))]⟩,
  ⟨(some (nat_lit 101)), none, .simple (.move (.tmp (nat_lit 105)))⟩,
  ⟨(some (nat_lit 106)), none, .simple (.extract (.tmp (nat_lit 101)) (nat_lit 0))⟩,
  ⟨(some (nat_lit 107)), none, .simple (.extract (.tmp (nat_lit 101)) (nat_lit 1))⟩,
  ⟨(some (nat_lit 16)), none, .simple (.move (.tmp (nat_lit 106)))⟩,
  ⟨(some (nat_lit 17)), none, .simple (.move (.tmp (nat_lit 107)))⟩] (some [(nat_lit 12), (nat_lit 16), (nat_lit 17)]))
(.seq (.region [
  ⟨(some (nat_lit 108)), none, .simple (.move (.tmp (nat_lit 17)))⟩,
  ⟨(some (nat_lit 109)), none, .simple (.bin .eql (.tmp (nat_lit 108)) (.const (.int .i64 (.ofNat (nat_lit 0)))))⟩,
  ⟨(some (nat_lit 110)), none, .simple (.move (.tmp (nat_lit 109)))⟩,
  ⟨(some (nat_lit 111)), (some ((nat_lit 110), true)), .simple (.move (.tmp (nat_lit 16)))⟩,
  ⟨(some (nat_lit 112)), (some ((nat_lit 110), true)), .simple (.bin .eql (.tmp (nat_lit 111)) (.const (.int .i64 (.negSucc (nat_lit 0)))))⟩,
  ⟨(some (nat_lit 113)), (some ((nat_lit 110), true)), .simple (.move (.tmp (nat_lit 112)))⟩,
  ⟨(some (nat_lit 114)), (some ((nat_lit 113), false)), .simple (.move (.tmp (nat_lit 12)))⟩,
  ⟨(some (nat_lit 115)), (some ((nat_lit 113), false)), .simple (.bin .neq (.tmp (nat_lit 114)) (.const (.int .i64 (.negSucc (nat_lit 0)))))⟩,
  ⟨(some (nat_lit 116)), (some ((nat_lit 113), false)), .simple (.move (.tmp (nat_lit 115)))⟩,
  ⟨(some (nat_lit 117)), (some ((nat_lit 116), true)), .simple (.move (.tmp (nat_lit 16)))⟩,
  ⟨(some (nat_lit 118)), (some ((nat_lit 116), true)), .simple (.move (.tmp (nat_lit 12)))⟩,
  ⟨(some (nat_lit 119)), (some ((nat_lit 116), true)), .simple (.bin .geq (.tmp (nat_lit 117)) (.tmp (nat_lit 118)))⟩,
  ⟨(some (nat_lit 120)), (some ((nat_lit 113), false)), .simple (.pick (.tmp (nat_lit 116)) (.tmp (nat_lit 119)) (.const (.bool false)))⟩,
  ⟨(some (nat_lit 121)), (some ((nat_lit 110), true)), .simple (.pick (.tmp (nat_lit 113)) (.const (.bool true)) (.tmp (nat_lit 120)))⟩,
  ⟨(some (nat_lit 122)), none, .simple (.pick (.tmp (nat_lit 110)) (.tmp (nat_lit 121)) (.const (.bool false)))⟩,
  ⟨(some (nat_lit 123)), none, .simple (.move (.tmp (nat_lit 122)))⟩,
  ⟨(some (nat_lit 124)), (some ((nat_lit 123), true)), .call (.func (nat_lit 18)) []⟩,
  ⟨(some (nat_lit 125)), none, .simple (.pick (.tmp (nat_lit 123)) (.tmp (nat_lit 124)) (.const (.bool false)))⟩,
  ⟨(some (nat_lit 8)), none, .simple (.move (.tmp (nat_lit 125)))⟩] (some [(nat_lit 8)]))
.ret))))))))))))
theorem k12 : Try.f12.body.bind (compC Try.prog G12) = some c12 := by kernel_rfl
theorem e12 : compRes Try.prog Try.f12.results.toList = some r12 := by kernel_rfl

/-! 13: contango/contangolaw07.CouponRegisters; parameters 3, captured 0 -/
def G13 : Cfg := ⟨[], [((nat_lit 0), [(nat_lit 2), (nat_lit 3), (nat_lit 4)]), ((nat_lit 1), [(nat_lit 2), (nat_lit 3), (nat_lit 4), (nat_lit 15)]), ((nat_lit 2), [(nat_lit 6)]), ((nat_lit 3), [(nat_lit 2), (nat_lit 3), (nat_lit 4), (nat_lit 7), (nat_lit 8)]), ((nat_lit 4), [(nat_lit 2), (nat_lit 3), (nat_lit 4), (nat_lit 7), (nat_lit 8), (nat_lit 9)]), ((nat_lit 5), [(nat_lit 2), (nat_lit 3), (nat_lit 4), (nat_lit 7), (nat_lit 8), (nat_lit 9), (nat_lit 10), (nat_lit 11)]), ((nat_lit 6), [(nat_lit 2), (nat_lit 3), (nat_lit 7), (nat_lit 8), (nat_lit 10), (nat_lit 11), (nat_lit 43)]), ((nat_lit 7), [(nat_lit 6)]), ((nat_lit 8), [(nat_lit 2), (nat_lit 3), (nat_lit 7), (nat_lit 8), (nat_lit 10), (nat_lit 11), (nat_lit 45)]), ((nat_lit 9), [(nat_lit 2), (nat_lit 3), (nat_lit 7), (nat_lit 8), (nat_lit 10), (nat_lit 11), (nat_lit 47)]), ((nat_lit 11), [(nat_lit 7), (nat_lit 8), (nat_lit 10), (nat_lit 11)]), ((nat_lit 10), [(nat_lit 7), (nat_lit 8), (nat_lit 10), (nat_lit 11)]), ((nat_lit 12), [(nat_lit 6)])], (nat_lit 62), []⟩
def r13 : List CRes := [.tmp (nat_lit 6)]
def c13 : CCode :=
(.seq (.region [
  ⟨(some (nat_lit 3)), none, .simple (.box false (.tmp (nat_lit 0)))⟩,
  ⟨(some (nat_lit 4)), none, .simple (.box false (.tmp (nat_lit 1)))⟩,
  ⟨(some (nat_lit 6)), none, .simple (.move (.const (.bool false)))⟩] (some [(nat_lit 2), (nat_lit 3), (nat_lit 4)]))
(.seq (.seq (.region [
  ⟨(some (nat_lit 12)), none, .simple (.load (some (nat_lit 6)) (.tmp (nat_lit 3)))⟩,
  ⟨(some (nat_lit 13)), none, .simple (.load (some (nat_lit 2)) (.tmp (nat_lit 4)))⟩,
  ⟨(some (nat_lit 14)), none, .call (.func (nat_lit 17)) [(.tmp (nat_lit 12)), (.tmp (nat_lit 13))]⟩,
  ⟨(some (nat_lit 15)), none, .simple (.un .not (.tmp (nat_lit 14)))⟩] (some [(nat_lit 2), (nat_lit 3), (nat_lit 4), (nat_lit 15)]))
(.cond (.tmp (nat_lit 15))
 (.seq (.region [
   ⟨(some (nat_lit 16)), none, .call (.func (nat_lit 18)) []⟩,
   ⟨(some (nat_lit 6)), none, .simple (.move (.tmp (nat_lit 16)))⟩] (some [(nat_lit 6)]))
 .ret)
 .skip))
(.seq (.region [
  ⟨(some (nat_lit 18)), none, .simple (.load (some (nat_lit 6)) (.tmp (nat_lit 3)))⟩,
  ⟨(some (nat_lit 19)), none, .call (.func (nat_lit 20)) [(.tmp (nat_lit 18))]⟩,
  ⟨(some (nat_lit 20)), none, .simple (.move (.tmp (nat_lit 2)))⟩,
  ⟨(some (nat_lit 21)), none, .call (.func (nat_lit 50)) [(.tmp (nat_lit 19)), (.tmp (nat_lit 20))]⟩,
  ⟨(some (nat_lit 17)), none, .simple (.move (.tmp (nat_lit 21)))⟩,
  ⟨(some (nat_lit 22)), none, .simple (.extract (.tmp (nat_lit 17)) (nat_lit 0))⟩,
  ⟨(some (nat_lit 23)), none, .simple (.extract (.tmp (nat_lit 17)) (nat_lit 1))⟩,
  ⟨(some (nat_lit 7)), none, .simple (.move (.tmp (nat_lit 22)))⟩,
  ⟨(some (nat_lit 8)), none, .simple (.move (.tmp (nat_lit 23)))⟩] (some [(nat_lit 2), (nat_lit 3), (nat_lit 4), (nat_lit 7), (nat_lit 8)]))
(.seq (.region [
  ⟨(some (nat_lit 24)), none, .simple (.load (some (nat_lit 6)) (.tmp (nat_lit 3)))⟩,
  ⟨(some (nat_lit 26)), none, .simple (.load (some (nat_lit 2)) (.tmp (nat_lit 4)))⟩,
  ⟨(some (nat_lit 25)), none, .callx (.func (nat_lit 20)) [(.tmp (nat_lit 24))]⟩,
  ⟨(some (nat_lit 27)), none, .call (.func (nat_lit 21)) [(.tmp (nat_lit 26))]⟩,
  ⟨(some (nat_lit 28)), none, .call (.func (nat_lit 51)) [(.tmp (nat_lit 25)), (.tmp (nat_lit 27))]⟩,
  ⟨(some (nat_lit 9)), none, .simple (.move (.tmp (nat_lit 28)))⟩] (some [(nat_lit 2), (nat_lit 3), (nat_lit 4), (nat_lit 7), (nat_lit 8), (nat_lit 9)]))
(.seq (.region [
  ⟨(some (nat_lit 29)), none, .simple (.load (some (nat_lit 6)) (.tmp (nat_lit 3)))⟩,
  ⟨(some (nat_lit 30)), none, .call (.func (nat_lit 34)) [(.tmp (nat_lit 29))]⟩,
  ⟨(some (nat_lit 10)), none, .simple (.move (.tmp (nat_lit 30)))⟩,
  ⟨(some (nat_lit 11)), none, .simple (.move (.const (.int .i64 (.ofNat (nat_lit 0)))))⟩] (some [(nat_lit 2), (nat_lit 3), (nat_lit 4), (nat_lit 7), (nat_lit 8), (nat_lit 9), (nat_lit 10), (nat_lit 11)]))
(.seq (.seq (.region [
  ⟨(some (nat_lit 31)), none, .simple (.load (some (nat_lit 6)) (.tmp (nat_lit 3)))⟩,
  ⟨(some (nat_lit 32)), none, .call (.func (nat_lit 20)) [(.tmp (nat_lit 31))]⟩,
  ⟨(some (nat_lit 33)), none, .call (.func (nat_lit 52)) [(.tmp (nat_lit 32))]⟩,
  ⟨(some (nat_lit 34)), none, .simple (.move (.tmp (nat_lit 10)))⟩,
  ⟨(some (nat_lit 35)), none, .simple (.bin .neq (.tmp (nat_lit 33)) (.tmp (nat_lit 34)))⟩,
  ⟨(some (nat_lit 36)), none, .simple (.move (.tmp (nat_lit 35)))⟩,
  ⟨(some (nat_lit 37)), (some ((nat_lit 36), false)), .simple (.move (.tmp (nat_lit 9)))⟩,
  ⟨(some (nat_lit 38)), (some ((nat_lit 36), false)), .simple (.load (some (nat_lit 6)) (.tmp (nat_lit 3)))⟩,
  ⟨(some (nat_lit 39)), (some ((nat_lit 36), false)), .simple (.load (some (nat_lit 2)) (.tmp (nat_lit 4)))⟩,
  ⟨(some (nat_lit 40)), (some ((nat_lit 36), false)), .call (.func (nat_lit 22)) [(.tmp (nat_lit 38)), (.tmp (nat_lit 39))]⟩,
  ⟨(some (nat_lit 41)), (some ((nat_lit 36), false)), .simple (.bin .eql (.tmp (nat_lit 40)) (.const (.int .i64 (.ofNat (nat_lit 0)))))⟩,
  ⟨(some (nat_lit 42)), (some ((nat_lit 36), false)), .simple (.binB true (.tmp (nat_lit 37)) (.tmp (nat_lit 41)))⟩,
  ⟨(some (nat_lit 43)), none, .simple (.pick (.tmp (nat_lit 36)) (.const (.bool true)) (.tmp (nat_lit 42)))⟩] (some [(nat_lit 2), (nat_lit 3), (nat_lit 7), (nat_lit 8), (nat_lit 10), (nat_lit 11), (nat_lit 43)]))
(.cond (.tmp (nat_lit 43))
 (.seq (.region [
   ⟨(some (nat_lit 6)), none, .simple (.move (.const (.bool false)))⟩] (some [(nat_lit 6)]))
 .ret)
 .skip))
(.seq (.seq (.region [
  ⟨(some (nat_lit 44)), none, .simple (.move (.tmp (nat_lit 10)))⟩,
  ⟨(some (nat_lit 45)), none, .simple (.bin .eql (.tmp (nat_lit 44)) (.const (.int .i64 (.ofNat (nat_lit 0)))))⟩] (some [(nat_lit 2), (nat_lit 3), (nat_lit 7), (nat_lit 8), (nat_lit 10), (nat_lit 11), (nat_lit 45)]))
(.cond (.tmp (nat_lit 45))
 (.seq (.region [
   ⟨(some (nat_lit 46)), none, .simple (.move (.tmp (nat_lit 2)))⟩,
   ⟨(some (nat_lit 47)), none, .call (.func (nat_lit 23)) [(.tmp (nat_lit 46)), (.const (.int .i64 (.ofNat (nat_lit 0)))), (.const (.int .i64 (.ofNat (nat_lit 11))))]⟩] (some [(nat_lit 2), (nat_lit 3), (nat_lit 7), (nat_lit 8), (nat_lit 10), (nat_lit 11), (nat_lit 47)]))
 (.cond (.tmp (nat_lit 47))
  (.region [
    ⟨(some (nat_lit 48)), none, .simple (.load (some (nat_lit 6)) (.tmp (nat_lit 3)))⟩,
    ⟨(some (nat_lit 49)), none, .simple (.move (.tmp (nat_lit 2)))⟩,
    ⟨(some (nat_lit 50)), none, .call (.func (nat_lit 49)) [(.tmp (nat_lit 48)), (.tmp (nat_lit 49))]⟩,
    ⟨(some (nat_lit 11)), none, .simple (.move (.tmp (nat_lit 50)))⟩] (some [(nat_lit 7), (nat_lit 8), (nat_lit 10), (nat_lit 11)]))
  (.region [
    ⟨(some (nat_lit 10)), none, .simple (.move (.const (.int .i64 (.ofNat (nat_lit 2)))))⟩] (some [(nat_lit 7), (nat_lit 8), (nat_lit 10), (nat_lit 11)]))))
 .skip))
(.seq (.region [
  ⟨(some (nat_lit 51)), none, .simple (.move (.tmp (nat_lit 8)))⟩,
  ⟨(some (nat_lit 52)), none, .simple (.move (.tmp (nat_lit 10)))⟩,
  ⟨(some (nat_lit 53)), none, .simple (.bin .eql (.tmp (nat_lit 51)) (.tmp (nat_lit 52)))⟩,
  ⟨(some (nat_lit 54)), none, .simple (.move (.tmp (nat_lit 53)))⟩,
  ⟨(some (nat_lit 55)), (some ((nat_lit 54), true)), .simple (.move (.tmp (nat_lit 7)))⟩,
  ⟨(some (nat_lit 56)), (some ((nat_lit 54), true)), .simple (.move (.tmp (nat_lit 11)))⟩,
  ⟨(some (nat_lit 57)), (some ((nat_lit 54), true)), .simple (.bin .eql (.tmp (nat_lit 55)) (.tmp (nat_lit 56)))⟩,
  ⟨(some (nat_lit 58)), none, .simple (.pick (.tmp (nat_lit 54)) (.tmp (nat_lit 57)) (.const (.bool false)))⟩,
  ⟨(some (nat_lit 59)), none, .simple (.move (.tmp (nat_lit 58)))⟩,
  ⟨(some (nat_lit 60)), (some ((nat_lit 59), true)), .call (.func (nat_lit 18)) []⟩,
  ⟨(some (nat_lit 61)), none, .simple (.pick (.tmp (nat_lit 59)) (.tmp (nat_lit 60)) (.const (.bool false)))⟩,
  ⟨(some (nat_lit 6)), none, .simple (.move (.tmp (nat_lit 61)))⟩] (some [(nat_lit 6)]))
.ret))))))))
theorem k13 : Try.f13.body.bind (compC Try.prog G13) = some c13 := by kernel_rfl
theorem e13 : compRes Try.prog Try.f13.results.toList = some r13 := by kernel_rfl

end Go.Proofs.Ytdnefcjbcieecaa
