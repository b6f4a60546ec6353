import Derived.Test.YtdnefcjbcieecaaCoreX
import Derived.Test.YtdnefcjbcieecaaProg
import Derived.KernelRfl
namespace Go.Proofs.Ytdnefcjbcieecaa
open Go Go.Proofs

/-! 14: contango/contangolaw07.CouponNames; parameters 0, captured 0 -/
def G14 : Cfg := ⟨[(nat_lit 228), (nat_lit 14), (nat_lit 25), (nat_lit 26), (nat_lit 27), (nat_lit 28), (nat_lit 29), (nat_lit 30), (nat_lit 31), (nat_lit 32)], [((nat_lit 0), []), ((nat_lit 1), [(nat_lit 1), (nat_lit 2)]), ((nat_lit 2), [(nat_lit 1), (nat_lit 2), (nat_lit 3), (nat_lit 5)]), ((nat_lit 3), [(nat_lit 1), (nat_lit 2), (nat_lit 3), (nat_lit 5), (nat_lit 6), (nat_lit 7)]), ((nat_lit 4), [(nat_lit 1), (nat_lit 2), (nat_lit 3), (nat_lit 5), (nat_lit 6), (nat_lit 7), (nat_lit 8), (nat_lit 9)]), ((nat_lit 5), [(nat_lit 1), (nat_lit 2), (nat_lit 3), (nat_lit 5), (nat_lit 6), (nat_lit 7), (nat_lit 8), (nat_lit 9), (nat_lit 10), (nat_lit 11)]), ((nat_lit 6), [(nat_lit 1), (nat_lit 2), (nat_lit 3), (nat_lit 5), (nat_lit 6), (nat_lit 7), (nat_lit 8), (nat_lit 9), (nat_lit 10), (nat_lit 11), (nat_lit 12), (nat_lit 13)]), ((nat_lit 7), [(nat_lit 1), (nat_lit 2), (nat_lit 3), (nat_lit 5), (nat_lit 6), (nat_lit 7), (nat_lit 8), (nat_lit 9), (nat_lit 10), (nat_lit 11), (nat_lit 12), (nat_lit 13), (nat_lit 14)]), ((nat_lit 8), [(nat_lit 1), (nat_lit 2), (nat_lit 3), (nat_lit 5), (nat_lit 6), (nat_lit 7), (nat_lit 8), (nat_lit 9), (nat_lit 10), (nat_lit 11), (nat_lit 12), (nat_lit 13), (nat_lit 14)]), ((nat_lit 9), [(nat_lit 1), (nat_lit 2), (nat_lit 3), (nat_lit 5), (nat_lit 6), (nat_lit 7), (nat_lit 8), (nat_lit 9), (nat_lit 10), (nat_lit 11), (nat_lit 12), (nat_lit 13), (nat_lit 15), (nat_lit 16)]), ((nat_lit 10), [(nat_lit 151)]), ((nat_lit 11), [(nat_lit 0)]), ((nat_lit 12), [(nat_lit 2)]), ((nat_lit 13), [(nat_lit 2), (nat_lit 5)]), ((nat_lit 14), [(nat_lit 2), (nat_lit 5), (nat_lit 7)]), ((nat_lit 15), [(nat_lit 2), (nat_lit 5), (nat_lit 7), (nat_lit 9)]), ((nat_lit 16), [(nat_lit 2), (nat_lit 5), (nat_lit 7), (nat_lit 9), (nat_lit 11)]), ((nat_lit 17), [(nat_lit 2), (nat_lit 5), (nat_lit 7), (nat_lit 9), (nat_lit 11), (nat_lit 13)]), ((nat_lit 18), [(nat_lit 2), (nat_lit 5), (nat_lit 7), (nat_lit 9), (nat_lit 11), (nat_lit 13), (nat_lit 20)]), ((nat_lit 19), [(nat_lit 2), (nat_lit 5), (nat_lit 7), (nat_lit 9), (nat_lit 11), (nat_lit 13), (nat_lit 20), (nat_lit 24)]), ((nat_lit 20), [(nat_lit 2), (nat_lit 5), (nat_lit 7), (nat_lit 9), (nat_lit 11), (nat_lit 13), (nat_lit 20), (nat_lit 24), (nat_lit 25), (nat_lit 26), (nat_lit 27), (nat_lit 28), (nat_lit 29), (nat_lit 30), (nat_lit 31), (nat_lit 32)]), ((nat_lit 21), [(nat_lit 2), (nat_lit 5), (nat_lit 7), (nat_lit 9), (nat_lit 11), (nat_lit 13), (nat_lit 20), (nat_lit 24), (nat_lit 25), (nat_lit 26), (nat_lit 27), (nat_lit 28), (nat_lit 29), (nat_lit 30), (nat_lit 31), (nat_lit 32)]), ((nat_lit 22), [(nat_lit 2), (nat_lit 5), (nat_lit 7), (nat_lit 9), (nat_lit 11), (nat_lit 13), (nat_lit 20), (nat_lit 24), (nat_lit 25), (nat_lit 26), (nat_lit 27), (nat_lit 28), (nat_lit 29), (nat_lit 30), (nat_lit 31), (nat_lit 32)]), ((nat_lit 23), [(nat_lit 2), (nat_lit 5), (nat_lit 7), (nat_lit 9), (nat_lit 11), (nat_lit 13), (nat_lit 20), (nat_lit 24), (nat_lit 25), (nat_lit 26), (nat_lit 27), (nat_lit 28), (nat_lit 29), (nat_lit 30), (nat_lit 31), (nat_lit 32)]), ((nat_lit 24), [(nat_lit 2), (nat_lit 5), (nat_lit 7), (nat_lit 9), (nat_lit 11), (nat_lit 13), (nat_lit 20), (nat_lit 24), (nat_lit 25), (nat_lit 26), (nat_lit 27), (nat_lit 28), (nat_lit 29), (nat_lit 30), (nat_lit 31), (nat_lit 32)]), ((nat_lit 25), [(nat_lit 2), (nat_lit 5), (nat_lit 7), (nat_lit 9), (nat_lit 11), (nat_lit 13), (nat_lit 20), (nat_lit 24), (nat_lit 25), (nat_lit 26), (nat_lit 27), (nat_lit 28), (nat_lit 29), (nat_lit 30), (nat_lit 31), (nat_lit 32)]), ((nat_lit 26), [(nat_lit 2), (nat_lit 5), (nat_lit 7), (nat_lit 9), (nat_lit 11), (nat_lit 13), (nat_lit 20), (nat_lit 24), (nat_lit 25), (nat_lit 26), (nat_lit 27), (nat_lit 28), (nat_lit 29), (nat_lit 30), (nat_lit 31), (nat_lit 32)]), ((nat_lit 27), [(nat_lit 2), (nat_lit 5), (nat_lit 7), (nat_lit 9), (nat_lit 11), (nat_lit 13), (nat_lit 20), (nat_lit 24), (nat_lit 25), (nat_lit 26), (nat_lit 27), (nat_lit 28), (nat_lit 29), (nat_lit 30), (nat_lit 31), (nat_lit 32)]), ((nat_lit 28), [(nat_lit 2), (nat_lit 5), (nat_lit 7), (nat_lit 9), (nat_lit 11), (nat_lit 13), (nat_lit 20), (nat_lit 24), (nat_lit 25), (nat_lit 26), (nat_lit 27), (nat_lit 28), (nat_lit 29), (nat_lit 30), (nat_lit 31), (nat_lit 32)]), ((nat_lit 29), [(nat_lit 0)])], (nat_lit 320), []⟩
def r14 : List CRes := [.tmp (nat_lit 0)]
def c14 : CCode :=
(.seq (.region [
  ⟨(some (nat_lit 0)), none, .simple (.move (.const (.bool false)))⟩] (some []))
(.seq (.region [
  ⟨(some (nat_lit 34)), none, .call (.func (nat_lit 53)) [(.const (.int .i64 (.ofNat (nat_lit 4))))]⟩,
  ⟨(some (nat_lit 35)), none, .call (.func (nat_lit 50)) [(.tmp (nat_lit 34)), (.const (.int .i64 (.ofNat (nat_lit 4))))]⟩,
  ⟨(some (nat_lit 33)), none, .simple (.move (.tmp (nat_lit 35)))⟩,
  ⟨(some (nat_lit 36)), none, .simple (.extract (.tmp (nat_lit 33)) (nat_lit 0))⟩,
  ⟨(some (nat_lit 37)), none, .simple (.extract (.tmp (nat_lit 33)) (nat_lit 1))⟩,
  ⟨(some (nat_lit 1)), none, .simple (.move (.tmp (nat_lit 36)))⟩,
  ⟨(some (nat_lit 2)), none, .simple (.move (.tmp (nat_lit 37)))⟩] (some [(nat_lit 1), (nat_lit 2)]))
(.seq (.region [
  ⟨(some (nat_lit 39)), none, .call (.func (nat_lit 53)) [(.const (.int .i64 (.ofNat (nat_lit 4))))]⟩,
  ⟨(some (nat_lit 40)), none, .call (.func (nat_lit 54)) [(.const (.int .i64 (.ofNat (nat_lit 2)))), (.const (.int .i64 (.ofNat (nat_lit 4))))]⟩,
  ⟨(some (nat_lit 41)), none, .call (.func (nat_lit 19)) [(.tmp (nat_lit 39)), (.tmp (nat_lit 40)), (.const (.int .i64 (.ofNat (nat_lit 3))))]⟩,
  ⟨(some (nat_lit 38)), none, .simple (.move (.tmp (nat_lit 41)))⟩,
  ⟨(some (nat_lit 42)), none, .simple (.extract (.tmp (nat_lit 38)) (nat_lit 0))⟩,
  ⟨(some (nat_lit 43)), none, .simple (.extract (.tmp (nat_lit 38)) (nat_lit 1))⟩,
  ⟨(some (nat_lit 44)), none, .simple (.extract (.tmp (nat_lit 38)) (nat_lit 2))⟩,
  ⟨(some (nat_lit 3)), none, .simple (.move (.tmp (nat_lit 42)))⟩,
  ⟨(some (nat_lit 4)), none, .simple (.move (.tmp (nat_lit 43)))⟩,
  ⟨(some (nat_lit 5)), none, .simple (.move (.tmp (nat_lit 44)))⟩] (some [(nat_lit 1), (nat_lit 2), (nat_lit 3), (nat_lit 5)]))
(.seq (.region [
  ⟨(some (nat_lit 46)), none, .call (.func (nat_lit 53)) [(.const (.int .i64 (.ofNat (nat_lit 4))))]⟩,
  ⟨(some (nat_lit 47)), none, .call (.func (nat_lit 54)) [(.const (.int .i64 (.ofNat (nat_lit 2)))), (.const (.int .i64 (.ofNat (nat_lit 4))))]⟩,
  ⟨(some (nat_lit 48)), none, .call (.func (nat_lit 25)) [(.tmp (nat_lit 46)), (.tmp (nat_lit 47)), (.const (.int .i64 (.ofNat (nat_lit 0))))]⟩,
  ⟨(some (nat_lit 45)), none, .simple (.move (.tmp (nat_lit 48)))⟩,
  ⟨(some (nat_lit 49)), none, .simple (.extract (.tmp (nat_lit 45)) (nat_lit 0))⟩,
  ⟨(some (nat_lit 50)), none, .simple (.extract (.tmp (nat_lit 45)) (nat_lit 1))⟩,
  ⟨(some (nat_lit 6)), none, .simple (.move (.tmp (nat_lit 49)))⟩,
  ⟨(some (nat_lit 7)), none, .simple (.move (.tmp (nat_lit 50)))⟩] (some [(nat_lit 1), (nat_lit 2), (nat_lit 3), (nat_lit 5), (nat_lit 6), (nat_lit 7)]))
(.seq (.region [
  ⟨(some (nat_lit 52)), none, .call (.func (nat_lit 53)) [(.const (.int .i64 (.ofNat (nat_lit 4))))]⟩,
  ⟨(some (nat_lit 53)), none, .call (.func (nat_lit 54)) [(.const (.int .i64 (.ofNat (nat_lit 2)))), (.const (.int .i64 (.ofNat (nat_lit 4))))]⟩,
  ⟨(some (nat_lit 54)), none, .call (.func (nat_lit 26)) [(.tmp (nat_lit 52)), (.tmp (nat_lit 53)), (.const (.int .i64 (.ofNat (nat_lit 0))))]⟩,
  ⟨(some (nat_lit 51)), none, .simple (.move (.tmp (nat_lit 54)))⟩,
  ⟨(some (nat_lit 55)), none, .simple (.extract (.tmp (nat_lit 51)) (nat_lit 0))⟩,
  ⟨(some (nat_lit 56)), none, .simple (.extract (.tmp (nat_lit 51)) (nat_lit 1))⟩,
  ⟨(some (nat_lit 8)), none, .simple (.move (.tmp (nat_lit 55)))⟩,
  ⟨(some (nat_lit 9)), none, .simple (.move (.tmp (nat_lit 56)))⟩] (some [(nat_lit 1), (nat_lit 2), (nat_lit 3), (nat_lit 5), (nat_lit 6), (nat_lit 7), (nat_lit 8), (nat_lit 9)]))
(.seq (.region [
  ⟨(some (nat_lit 58)), none, .call (.func (nat_lit 53)) [(.const (.int .i64 (.ofNat (nat_lit 4))))]⟩,
  ⟨(some (nat_lit 59)), none, .call (.func (nat_lit 54)) [(.const (.int .i64 (.ofNat (nat_lit 3)))), (.const (.int .i64 (.ofNat (nat_lit 4))))]⟩,
  ⟨(some (nat_lit 60)), none, .call (.func (nat_lit 27)) [(.tmp (nat_lit 58)), (.tmp (nat_lit 59)), (.const (.int .i64 (.ofNat (nat_lit 0))))]⟩,
  ⟨(some (nat_lit 57)), none, .simple (.move (.tmp (nat_lit 60)))⟩,
  ⟨(some (nat_lit 61)), none, .simple (.extract (.tmp (nat_lit 57)) (nat_lit 0))⟩,
  ⟨(some (nat_lit 62)), none, .simple (.extract (.tmp (nat_lit 57)) (nat_lit 1))⟩,
  ⟨(some (nat_lit 10)), none, .simple (.move (.tmp (nat_lit 61)))⟩,
  ⟨(some (nat_lit 11)), none, .simple (.move (.tmp (nat_lit 62)))⟩] (some [(nat_lit 1), (nat_lit 2), (nat_lit 3), (nat_lit 5), (nat_lit 6), (nat_lit 7), (nat_lit 8), (nat_lit 9), (nat_lit 10), (nat_lit 11)]))
(.seq (.region [
  ⟨(some (nat_lit 64)), none, .call (.func (nat_lit 53)) [(.const (.int .i64 (.ofNat (nat_lit 10))))]⟩,
  ⟨(some (nat_lit 65)), none, .call (.func (nat_lit 38)) [(.tmp (nat_lit 64))]⟩,
  ⟨(some (nat_lit 63)), none, .simple (.move (.tmp (nat_lit 65)))⟩,
  ⟨(some (nat_lit 66)), none, .simple (.extract (.tmp (nat_lit 63)) (nat_lit 0))⟩,
  ⟨(some (nat_lit 67)), none, .simple (.extract (.tmp (nat_lit 63)) (nat_lit 1))⟩,
  ⟨(some (nat_lit 12)), none, .simple (.move (.tmp (nat_lit 66)))⟩,
  ⟨(some (nat_lit 13)), none, .simple (.move (.tmp (nat_lit 67)))⟩] (some [(nat_lit 1), (nat_lit 2), (nat_lit 3), (nat_lit 5), (nat_lit 6), (nat_lit 7), (nat_lit 8), (nat_lit 9), (nat_lit 10), (nat_lit 11), (nat_lit 12), (nat_lit 13)]))
(.seq (.region [
  ⟨(some (nat_lit 68)), none, .call (.func (nat_lit 53)) [(.const (.int .i64 (.ofNat (nat_lit 4))))]⟩,
  ⟨(some (nat_lit 14)), none, .simple (.alloc [(.d (.int .i64 (.ofNat (nat_lit 0)))), (.d .nils), (.d .nils), (.d .nils), (.d .nils), (.d .nils)])⟩,
  ⟨none, none, .simple (.store (nat_lit 6) (.tmp (nat_lit 14)) (.tmp (nat_lit 68)))⟩] (some [(nat_lit 1), (nat_lit 2), (nat_lit 3), (nat_lit 5), (nat_lit 6), (nat_lit 7), (nat_lit 8), (nat_lit 9), (nat_lit 10), (nat_lit 11), (nat_lit 12), (nat_lit 13), (nat_lit 14)]))
(.seq (.region [
  ⟨(some (nat_lit 69)), none, .simple (.fieldAddr (nat_lit 5) (.tmp (nat_lit 14)))⟩,
  ⟨(some (nat_lit 70)), none, .simple (.load none (.tmp (nat_lit 69)))⟩,
  ⟨(some (nat_lit 71)), none, .simple (.indexS (nat_lit 2) (.tmp (nat_lit 70)) (.const (.int .i64 (.ofNat (nat_lit 0)))))⟩,
  ⟨(some (nat_lit 72)), none, .simple (.fieldAddr (nat_lit 1) (.tmp (nat_lit 71)))⟩,
  ⟨none, none, .simple (.store (nat_lit 1) (.tmp (nat_lit 72)) (.const (.int .i64 (.ofNat (nat_lit 11)))))⟩] (some [(nat_lit 1), (nat_lit 2), (nat_lit 3), (nat_lit 5), (nat_lit 6), (nat_lit 7), (nat_lit 8), (nat_lit 9), (nat_lit 10), (nat_lit 11), (nat_lit 12), (nat_lit 13), (nat_lit 14)]))
(.seq (.region [
  ⟨(some (nat_lit 74)), none, .simple (.load (some (nat_lit 6)) (.tmp (nat_lit 14)))⟩,
  ⟨(some (nat_lit 75)), none, .call (.func (nat_lit 50)) [(.tmp (nat_lit 74)), (.const (.int .i64 (.ofNat (nat_lit 5))))]⟩,
  ⟨(some (nat_lit 73)), none, .simple (.move (.tmp (nat_lit 75)))⟩,
  ⟨(some (nat_lit 76)), none, .simple (.extract (.tmp (nat_lit 73)) (nat_lit 0))⟩,
  ⟨(some (nat_lit 77)), none, .simple (.extract (.tmp (nat_lit 73)) (nat_lit 1))⟩,
  ⟨(some (nat_lit 15)), none, .simple (.move (.tmp (nat_lit 76)))⟩,
  ⟨(some (nat_lit 16)), none, .simple (.move (.tmp (nat_lit 77)))⟩] (some [(nat_lit 1), (nat_lit 2), (nat_lit 3), (nat_lit 5), (nat_lit 6), (nat_lit 7), (nat_lit 8), (nat_lit 9), (nat_lit 10), (nat_lit 11), (nat_lit 12), (nat_lit 13), (nat_lit 15), (nat_lit 16)]))
(.seq (.seq (.region [
  ⟨(some (nat_lit 78)), none, .simple (.move (.tmp (nat_lit 2)))⟩,
  ⟨(some (nat_lit 79)), none, .simple (.bin .neq (.tmp (nat_lit 78)) (.const (.int .i64 (.ofNat (nat_lit 0)))))⟩,
  ⟨(some (nat_lit 80)), none, .simple (.move (.tmp (nat_lit 79)))⟩,
  ⟨(some (nat_lit 81)), (some ((nat_lit 80), false)), .simple (.move (.tmp (nat_lit 1)))⟩,
  ⟨(some (nat_lit 82)), (some ((nat_lit 80), false)), .simple (.bin .neq (.tmp (nat_lit 81)) (.const (.int .i64 (.ofNat (nat_lit 4)))))⟩,
  ⟨(some (nat_lit 83)), none, .simple (.pick (.tmp (nat_lit 80)) (.const (.bool true)) (.tmp (nat_lit 82)))⟩,
  ⟨(some (nat_lit 84)), none, .simple (.move (.tmp (nat_lit 83)))⟩,
  ⟨(some (nat_lit 85)), (some ((nat_lit 84), false)), .simple (.move (.tmp (nat_lit 5)))⟩,
  ⟨(some (nat_lit 86)), (some ((nat_lit 84), false)), .simple (.bin .neq (.tmp (nat_lit 85)) (.const (.int .i64 (.ofNat (nat_lit 0)))))⟩,
  ⟨(some (nat_lit 87)), none, .simple (.pick (.tmp (nat_lit 84)) (.const (.bool true)) (.tmp (nat_lit 86)))⟩,
  ⟨(some (nat_lit 88)), none, .simple (.move (.tmp (nat_lit 87)))⟩,
  ⟨(some (nat_lit 89)), (some ((nat_lit 88), false)), .simple (.move (.tmp (nat_lit 3)))⟩,
  ⟨(some (nat_lit 90)), (some ((nat_lit 88), false)), .simple (.bslice false (nat_lit 3) (nat_lit 1) (nat_lit 2) [(.int .i64 (.ofNat (nat_lit 0))), (.int .i64 (.ofNat (nat_lit 0)))] [((nat_lit 0), (.const (.int .i64 (.ofNat (nat_lit 10))))), ((nat_lit 1), (.const (.int .i64 (.ofNat (nat_lit 0)))))])⟩,
  ⟨(some (nat_lit 91)), (some ((nat_lit 88), false)), .call (.func (nat_lit 28)) [(.tmp (nat_lit 89)), (.tmp (nat_lit 90))]⟩,
  ⟨(some (nat_lit 92)), (some ((nat_lit 88), false)), .simple (.un .not (.tmp (nat_lit 91)))⟩,
  ⟨(some (nat_lit 93)), none, .simple (.pick (.tmp (nat_lit 88)) (.const (.bool true)) (.tmp (nat_lit 92)))⟩,
  ⟨(some (nat_lit 94)), none, .simple (.move (.tmp (nat_lit 93)))⟩,
  ⟨(some (nat_lit 95)), (some ((nat_lit 94), false)), .simple (.move (.tmp (nat_lit 7)))⟩,
  ⟨(some (nat_lit 96)), (some ((nat_lit 94), false)), .simple (.bin .neq (.tmp (nat_lit 95)) (.const (.int .i64 (.ofNat (nat_lit 0)))))⟩,
  ⟨(some (nat_lit 97)), none, .simple (.pick (.tmp (nat_lit 94)) (.const (.bool true)) (.tmp (nat_lit 96)))⟩,
  ⟨(some (nat_lit 98)), none, .simple (.move (.tmp (nat_lit 97)))⟩,
  ⟨(some (nat_lit 99)), (some ((nat_lit 98), false)), .simple (.move (.tmp (nat_lit 6)))⟩,
  ⟨(some (nat_lit 100)), (some ((nat_lit 98), false)), .simple (.bslice false (nat_lit 3) (nat_lit 1) (nat_lit 2) [(.int .i64 (.ofNat (nat_lit 0))), (.int .i64 (.ofNat (nat_lit 0)))] [((nat_lit 0), (.const (.int .i64 (.ofNat (nat_lit 32400))))), ((nat_lit 1), (.const (.int .i64 (.ofNat (nat_lit 21600)))))])⟩,
  ⟨(some (nat_lit 101)), (some ((nat_lit 98), false)), .call (.func (nat_lit 28)) [(.tmp (nat_lit 99)), (.tmp (nat_lit 100))]⟩,
  ⟨(some (nat_lit 102)), (some ((nat_lit 98), false)), .simple (.un .not (.tmp (nat_lit 101)))⟩,
  ⟨(some (nat_lit 103)), none, .simple (.pick (.tmp (nat_lit 98)) (.const (.bool true)) (.tmp (nat_lit 102)))⟩,
  ⟨(some (nat_lit 104)), none, .simple (.move (.tmp (nat_lit 103)))⟩,
  ⟨(some (nat_lit 105)), (some ((nat_lit 104), false)), .simple (.move (.tmp (nat_lit 9)))⟩,
  ⟨(some (nat_lit 106)), (some ((nat_lit 104), false)), .simple (.bin .neq (.tmp (nat_lit 105)) (.const (.int .i64 (.ofNat (nat_lit 0)))))⟩,
  ⟨(some (nat_lit 107)), none, .simple (.pick (.tmp (nat_lit 104)) (.const (.bool true)) (.tmp (nat_lit 106)))⟩,
  ⟨(some (nat_lit 108)), none, .simple (.move (.tmp (nat_lit 107)))⟩,
  ⟨(some (nat_lit 109)), (some ((nat_lit 108), false)), .simple (.move (.tmp (nat_lit 8)))⟩,
  ⟨(some (nat_lit 110)), (some ((nat_lit 108), false)), .simple (.bslice false (nat_lit 3) (nat_lit 1) (nat_lit 1) [(.int .i64 (.ofNat (nat_lit 0)))] [((nat_lit 0), (.const (.int .i64 (.ofNat (nat_lit 0)))))])⟩,
  ⟨(some (nat_lit 111)), (some ((nat_lit 108), false)), .call (.func (nat_lit 28)) [(.tmp (nat_lit 109)), (.tmp (nat_lit 110))]⟩,
  ⟨(some (nat_lit 112)), (some ((nat_lit 108), false)), .simple (.un .not (.tmp (nat_lit 111)))⟩,
  ⟨(some (nat_lit 113)), none, .simple (.pick (.tmp (nat_lit 108)) (.const (.bool true)) (.tmp (nat_lit 112)))⟩,
  ⟨(some (nat_lit 114)), none, .simple (.move (.tmp (nat_lit 113)))⟩,
  ⟨(some (nat_lit 115)), (some ((nat_lit 114), false)), .simple (.move (.tmp (nat_lit 11)))⟩,
  ⟨(some (nat_lit 116)), (some ((nat_lit 114), false)), .simple (.bin .neq (.tmp (nat_lit 115)) (.const (.int .i64 (.ofNat (nat_lit 0)))))⟩,
  ⟨(some (nat_lit 117)), none, .simple (.pick (.tmp (nat_lit 114)) (.const (.bool true)) (.tmp (nat_lit 116)))⟩,
  ⟨(some (nat_lit 118)), none, .simple (.move (.tmp (nat_lit 117)))⟩,
  ⟨(some (nat_lit 119)), (some ((nat_lit 118), false)), .simple (.move (.tmp (nat_lit 10)))⟩,
  ⟨(some (nat_lit 120)), (some ((nat_lit 118), false)), .simple (.bslice false (nat_lit 3) (nat_lit 1) (nat_lit 2) [(.int .i64 (.ofNat (nat_lit 0))), (.int .i64 (.ofNat (nat_lit 0)))] [((nat_lit 0), (.const (.int .i64 (.ofNat (nat_lit 54000))))), ((nat_lit 1), (.const (.int .i64 (.ofNat (nat_lit 0)))))])⟩,
  ⟨(some (nat_lit 121)), (some ((nat_lit 118), false)), .call (.func (nat_lit 28)) [(.tmp (nat_lit 119)), (.tmp (nat_lit 120))]⟩,
  ⟨(some (nat_lit 122)), (some ((nat_lit 118), false)), .simple (.un .not (.tmp (nat_lit 121)))⟩,
  ⟨(some (nat_lit 123)), none, .simple (.pick (.tmp (nat_lit 118)) (.const (.bool true)) (.tmp (nat_lit 122)))⟩,
  ⟨(some (nat_lit 124)), none, .simple (.move (.tmp (nat_lit 123)))⟩,
  ⟨(some (nat_lit 125)), (some ((nat_lit 124), false)), .simple (.move (.tmp (nat_lit 13)))⟩,
  ⟨(some (nat_lit 126)), (some ((nat_lit 124), false)), .simple (.bin .neq (.tmp (nat_lit 125)) (.const (.int .i64 (.ofNat (nat_lit 0)))))⟩,
  ⟨(some (nat_lit 127)), none, .simple (.pick (.tmp (nat_lit 124)) (.const (.bool true)) (.tmp (nat_lit 126)))⟩,
  ⟨(some (nat_lit 128)), none, .simple (.move (.tmp (nat_lit 127)))⟩,
  ⟨(some (nat_lit 129)), (some ((nat_lit 128), false)), .simple (.move (.tmp (nat_lit 12)))⟩,
  ⟨(some (nat_lit 130)), (some ((nat_lit 128), false)), .simple (.len (.tmp (nat_lit 129)))⟩,
  ⟨(some (nat_lit 131)), (some ((nat_lit 128), false)), .simple (.bin .neq (.tmp (nat_lit 130)) (.const (.int .i64 (.ofNat (nat_lit 0)))))⟩,
  ⟨(some (nat_lit 132)), none, .simple (.pick (.tmp (nat_lit 128)) (.const (.bool true)) (.tmp (nat_lit 131)))⟩,
  ⟨(some (nat_lit 133)), none, .simple (.move (.tmp (nat_lit 132)))⟩,
  ⟨(some (nat_lit 134)), (some ((nat_lit 133), false)), .simple (.move (.tmp (nat_lit 16)))⟩,
  ⟨(some (nat_lit 135)), (some ((nat_lit 133), false)), .simple (.bin .neq (.tmp (nat_lit 134)) (.const (.int .i64 (.ofNat (nat_lit 0)))))⟩,
  ⟨(some (nat_lit 136)), none, .simple (.pick (.tmp (nat_lit 133)) (.const (.bool true)) (.tmp (nat_lit 135)))⟩,
  ⟨(some (nat_lit 137)), none, .simple (.move (.tmp (nat_lit 136)))⟩,
  ⟨(some (nat_lit 138)), (some ((nat_lit 137), false)), .simple (.move (.tmp (nat_lit 15)))⟩,
  ⟨(some (nat_lit 139)), (some ((nat_lit 137), false)), .simple (.bin .neq (.tmp (nat_lit 138)) (.const (.int .i64 (.negSucc (nat_lit 0)))))⟩,
  ⟨(some (nat_lit 140)), none, .simple (.pick (.tmp (nat_lit 137)) (.const (.bool true)) (.tmp (nat_lit 139)))⟩,
  ⟨(some (nat_lit 141)), none, .simple (.move (.tmp (nat_lit 140)))⟩,
  ⟨(some (nat_lit 142)), (some ((nat_lit 141), false)), .call (.func (nat_lit 53)) [(.const (.int .i64 (.ofNat (nat_lit 4))))]⟩,
  ⟨(some (nat_lit 143)), (some ((nat_lit 141), false)), .call (.func (nat_lit 54)) [(.const (.int .i64 (.ofNat (nat_lit 3)))), (.const (.int .i64 (.ofNat (nat_lit 5))))]⟩,
  ⟨(some (nat_lit 144)), (some ((nat_lit 141), false)), .call (.func (nat_lit 51)) [(.tmp (nat_lit 142)), (.tmp (nat_lit 143))]⟩,
  ⟨(some (nat_lit 145)), (some ((nat_lit 141), false)), .simple (.un .not (.tmp (nat_lit 144)))⟩,
  ⟨(some (nat_lit 146)), none, .simple (.pick (.tmp (nat_lit 141)) (.const (.bool true)) (.tmp (nat_lit 145)))⟩,
  ⟨(some (nat_lit 147)), none, .simple (.move (.tmp (nat_lit 146)))⟩,
  ⟨(some (nat_lit 148)), (some ((nat_lit 147), false)), .call (.func (nat_lit 53)) [(.const (.int .i64 (.ofNat (nat_lit 4))))]⟩,
  ⟨(some (nat_lit 149)), (some ((nat_lit 147), false)), .call (.func (nat_lit 54)) [(.const (.int .i64 (.ofNat (nat_lit 3)))), (.const (.int .i64 (.ofNat (nat_lit 6))))]⟩,
  ⟨(some (nat_lit 150)), (some ((nat_lit 147), false)), .call (.func (nat_lit 51)) [(.tmp (nat_lit 148)), (.tmp (nat_lit 149))]⟩,
  ⟨(some (nat_lit 151)), none, .simple (.pick (.tmp (nat_lit 147)) (.const (.bool true)) (.tmp (nat_lit 150)))⟩] (some [(nat_lit 151)]))
(.cond (.tmp (nat_lit 151))
 (.seq (.region [
   ⟨(some (nat_lit 0)), none, .simple (.move (.const (.bool false)))⟩] (some [(nat_lit 0)]))
 .ret)
 .skip))
(.seq (.region [
  ⟨(some (nat_lit 153)), none, .call (.func (nat_lit 53)) [(.const (.int .i64 (.ofNat (nat_lit 4))))]⟩,
  ⟨(some (nat_lit 154)), none, .call (.func (nat_lit 50)) [(.tmp (nat_lit 153)), (.const (.int .i64 (.ofNat (nat_lit 12))))]⟩,
  ⟨(some (nat_lit 152)), none, .simple (.move (.tmp (nat_lit 154)))⟩,
  ⟨(some (nat_lit 155)), none, .simple (.extract (.tmp (nat_lit 152)) (nat_lit 0))⟩,
  ⟨(some (nat_lit 156)), none, .simple (.extract (.tmp (nat_lit 152)) (nat_lit 1))⟩,
  ⟨(some (nat_lit 2)), none, .simple (.move (.tmp (nat_lit 156)))⟩] (some [(nat_lit 2)]))
(.seq (.region [
  ⟨(some (nat_lit 158)), none, .call (.func (nat_lit 53)) [(.const (.int .i64 (.ofNat (nat_lit 4))))]⟩,
  ⟨(some (nat_lit 159)), none, .call (.func (nat_lit 54)) [(.const (.int .i64 (.ofNat (nat_lit 2)))), (.const (.int .i64 (.ofNat (nat_lit 4))))]⟩,
  ⟨(some (nat_lit 160)), none, .call (.func (nat_lit 19)) [(.tmp (nat_lit 158)), (.tmp (nat_lit 159)), (.const (.int .i64 (.ofNat (nat_lit 12))))]⟩,
  ⟨(some (nat_lit 157)), none, .simple (.move (.tmp (nat_lit 160)))⟩,
  ⟨(some (nat_lit 161)), none, .simple (.extract (.tmp (nat_lit 157)) (nat_lit 0))⟩,
  ⟨(some (nat_lit 162)), none, .simple (.extract (.tmp (nat_lit 157)) (nat_lit 1))⟩,
  ⟨(some (nat_lit 163)), none, .simple (.extract (.tmp (nat_lit 157)) (nat_lit 2))⟩,
  ⟨(some (nat_lit 5)), none, .simple (.move (.tmp (nat_lit 163)))⟩] (some [(nat_lit 2), (nat_lit 5)]))
(.seq (.region [
  ⟨(some (nat_lit 165)), none, .call (.func (nat_lit 53)) [(.const (.int .i64 (.ofNat (nat_lit 4))))]⟩,
  ⟨(some (nat_lit 166)), none, .call (.func (nat_lit 54)) [(.const (.int .i64 (.ofNat (nat_lit 1)))), (.const (.int .i64 (.ofNat (nat_lit 4))))]⟩,
  ⟨(some (nat_lit 167)), none, .call (.func (nat_lit 19)) [(.tmp (nat_lit 165)), (.tmp (nat_lit 166)), (.const (.int .i64 (.ofNat (nat_lit 0))))]⟩,
  ⟨(some (nat_lit 164)), none, .simple (.move (.tmp (nat_lit 167)))⟩,
  ⟨(some (nat_lit 168)), none, .simple (.extract (.tmp (nat_lit 164)) (nat_lit 0))⟩,
  ⟨(some (nat_lit 169)), none, .simple (.extract (.tmp (nat_lit 164)) (nat_lit 1))⟩,
  ⟨(some (nat_lit 170)), none, .simple (.extract (.tmp (nat_lit 164)) (nat_lit 2))⟩,
  ⟨(some (nat_lit 7)), none, .simple (.move (.tmp (nat_lit 170)))⟩] (some [(nat_lit 2), (nat_lit 5), (nat_lit 7)]))
(.seq (.region [
  ⟨(some (nat_lit 172)), none, .call (.func (nat_lit 53)) [(.const (.int .i64 (.ofNat (nat_lit 4))))]⟩,
  ⟨(some (nat_lit 173)), none, .call (.func (nat_lit 54)) [(.const (.int .i64 (.ofNat (nat_lit 2)))), (.const (.int .i64 (.ofNat (nat_lit 4))))]⟩,
  ⟨(some (nat_lit 174)), none, .call (.func (nat_lit 25)) [(.tmp (nat_lit 172)), (.tmp (nat_lit 173)), (.const (.int .i64 (.ofNat (nat_lit 1))))]⟩,
  ⟨(some (nat_lit 171)), none, .simple (.move (.tmp (nat_lit 174)))⟩,
  ⟨(some (nat_lit 175)), none, .simple (.extract (.tmp (nat_lit 171)) (nat_lit 0))⟩,
  ⟨(some (nat_lit 176)), none, .simple (.extract (.tmp (nat_lit 171)) (nat_lit 1))⟩,
  ⟨(some (nat_lit 9)), none, .simple (.move (.tmp (nat_lit 176)))⟩] (some [(nat_lit 2), (nat_lit 5), (nat_lit 7), (nat_lit 9)]))
(.seq (.region [
  ⟨(some (nat_lit 178)), none, .call (.func (nat_lit 53)) [(.const (.int .i64 (.ofNat (nat_lit 11))))]⟩,
  ⟨(some (nat_lit 179)), none, .call (.func (nat_lit 54)) [(.const (.int .i64 (.ofNat (nat_lit 2)))), (.const (.int .i64 (.ofNat (nat_lit 4))))]⟩,
  ⟨(some (nat_lit 180)), none, .call (.func (nat_lit 26)) [(.tmp (nat_lit 178)), (.tmp (nat_lit 179)), (.const (.int .i64 (.ofNat (nat_lit 0))))]⟩,
  ⟨(some (nat_lit 177)), none, .simple (.move (.tmp (nat_lit 180)))⟩,
  ⟨(some (nat_lit 181)), none, .simple (.extract (.tmp (nat_lit 177)) (nat_lit 0))⟩,
  ⟨(some (nat_lit 182)), none, .simple (.extract (.tmp (nat_lit 177)) (nat_lit 1))⟩,
  ⟨(some (nat_lit 11)), none, .simple (.move (.tmp (nat_lit 182)))⟩] (some [(nat_lit 2), (nat_lit 5), (nat_lit 7), (nat_lit 9), (nat_lit 11)]))
(.seq (.region [
  ⟨(some (nat_lit 184)), none, .call (.func (nat_lit 53)) [(.const (.int .i64 (.ofNat (nat_lit 4))))]⟩,
  ⟨(some (nat_lit 185)), none, .simple (.build [(.d .nils), (.d .nils)] [])⟩,
  ⟨(some (nat_lit 186)), none, .call (.func (nat_lit 27)) [(.tmp (nat_lit 184)), (.tmp (nat_lit 185)), (.const (.int .i64 (.ofNat (nat_lit 0))))]⟩,
  ⟨(some (nat_lit 183)), none, .simple (.move (.tmp (nat_lit 186)))⟩,
  ⟨(some (nat_lit 187)), none, .simple (.extract (.tmp (nat_lit 183)) (nat_lit 0))⟩,
  ⟨(some (nat_lit 188)), none, .simple (.extract (.tmp (nat_lit 183)) (nat_lit 1))⟩,
  ⟨(some (nat_lit 13)), none, .simple (.move (.tmp (nat_lit 188)))⟩] (some [(nat_lit 2), (nat_lit 5), (nat_lit 7), (nat_lit 9), (nat_lit 11), (nat_lit 13)]))
(.seq (.region [
  ⟨(some (nat_lit 190)), none, .call (.func (nat_lit 53)) [(.const (.int .i64 (.ofNat (nat_lit 11))))]⟩,
  ⟨(some (nat_lit 191)), none, .call (.func (nat_lit 33)) [(.tmp (nat_lit 190)), (.const (.int .i64 (.ofNat (nat_lit 0))))]⟩,
  ⟨(some (nat_lit 189)), none, .simple (.move (.tmp (nat_lit 191)))⟩,
  ⟨(some (nat_lit 192)), none, .simple (.extract (.tmp (nat_lit 189)) (nat_lit 0))⟩,
  ⟨(some (nat_lit 193)), none, .simple (.extract (.tmp (nat_lit 189)) (nat_lit 1))⟩,
  ⟨(some (nat_lit 194)), none, .simple (.extract (.tmp (nat_lit 189)) (nat_lit 2))⟩,
  ⟨(some (nat_lit 195)), none, .simple (.extract (.tmp (nat_lit 189)) (nat_lit 3))⟩,
  ⟨(some (nat_lit 17)), none, .simple (.move (.tmp (nat_lit 192)))⟩,
  ⟨(some (nat_lit 18)), none, .simple (.move (.tmp (nat_lit 193)))⟩,
  ⟨(some (nat_lit 19)), none, .simple (.move (.tmp (nat_lit 194)))⟩,
  ⟨(some (nat_lit 20)), none, .simple (.move (.tmp (nat_lit 195)))⟩] (some [(nat_lit 2), (nat_lit 5), (nat_lit 7), (nat_lit 9), (nat_lit 11), (nat_lit 13), (nat_lit 20)]))
(.seq (.region [
  ⟨(some (nat_lit 197)), none, .call (.func (nat_lit 53)) [(.const (.int .i64 (.ofNat (nat_lit 11))))]⟩,
  ⟨(some (nat_lit 198)), none, .call (.func (nat_lit 33)) [(.tmp (nat_lit 197)), (.const (.int .i64 (.ofNat (nat_lit 1))))]⟩,
  ⟨(some (nat_lit 196)), none, .simple (.move (.tmp (nat_lit 198)))⟩,
  ⟨(some (nat_lit 199)), none, .simple (.extract (.tmp (nat_lit 196)) (nat_lit 0))⟩,
  ⟨(some (nat_lit 200)), none, .simple (.extract (.tmp (nat_lit 196)) (nat_lit 1))⟩,
  ⟨(some (nat_lit 201)), none, .simple (.extract (.tmp (nat_lit 196)) (nat_lit 2))⟩,
  ⟨(some (nat_lit 202)), none, .simple (.extract (.tmp (nat_lit 196)) (nat_lit 3))⟩,
  ⟨(some (nat_lit 21)), none, .simple (.move (.tmp (nat_lit 199)))⟩,
  ⟨(some (nat_lit 22)), none, .simple (.move (.tmp (nat_lit 200)))⟩,
  ⟨(some (nat_lit 23)), none, .simple (.move (.tmp (nat_lit 201)))⟩,
  ⟨(some (nat_lit 24)), none, .simple (.move (.tmp (nat_lit 202)))⟩] (some [(nat_lit 2), (nat_lit 5), (nat_lit 7), (nat_lit 9), (nat_lit 11), (nat_lit 13), (nat_lit 20), (nat_lit 24)]))
(.seq (.region [
  ⟨(some (nat_lit 203)), none, .call (.func (nat_lit 53)) [(.const (.int .i64 (.ofNat (nat_lit 4))))]⟩,
  ⟨(some (nat_lit 204)), none, .call (.func (nat_lit 53)) [(.const (.int .i64 (.ofNat (nat_lit 4))))]⟩,
  ⟨(some (nat_lit 205)), none, .call (.func (nat_lit 53)) [(.const (.int .i64 (.ofNat (nat_lit 4))))]⟩,
  ⟨(some (nat_lit 206)), none, .call (.func (nat_lit 53)) [(.const (.int .i64 (.ofNat (nat_lit 4))))]⟩,
  ⟨(some (nat_lit 207)), none, .call (.func (nat_lit 53)) [(.const (.int .i64 (.ofNat (nat_lit 4))))]⟩,
  ⟨(some (nat_lit 208)), none, .call (.func (nat_lit 53)) [(.const (.int .i64 (.ofNat (nat_lit 4))))]⟩,
  ⟨(some (nat_lit 209)), none, .call (.func (nat_lit 53)) [(.const (.int .i64 (.ofNat (nat_lit 4))))]⟩,
  ⟨(some (nat_lit 210)), none, .call (.func (nat_lit 53)) [(.const (.int .i64 (.ofNat (nat_lit 4))))]⟩,
  ⟨(some (nat_lit 25)), none, .simple (.alloc [(.d (.int .i64 (.ofNat (nat_lit 0)))), (.d .nils), (.d .nils), (.d .nils), (.d .nils), (.d .nils)])⟩,
  ⟨(some (nat_lit 26)), none, .simple (.alloc [(.d (.int .i64 (.ofNat (nat_lit 0)))), (.d .nils), (.d .nils), (.d .nils), (.d .nils), (.d .nils)])⟩,
  ⟨(some (nat_lit 27)), none, .simple (.alloc [(.d (.int .i64 (.ofNat (nat_lit 0)))), (.d .nils), (.d .nils), (.d .nils), (.d .nils), (.d .nils)])⟩,
  ⟨(some (nat_lit 28)), none, .simple (.alloc [(.d (.int .i64 (.ofNat (nat_lit 0)))), (.d .nils), (.d .nils), (.d .nils), (.d .nils), (.d .nils)])⟩,
  ⟨(some (nat_lit 29)), none, .simple (.alloc [(.d (.int .i64 (.ofNat (nat_lit 0)))), (.d .nils), (.d .nils), (.d .nils), (.d .nils), (.d .nils)])⟩,
  ⟨(some (nat_lit 30)), none, .simple (.alloc [(.d (.int .i64 (.ofNat (nat_lit 0)))), (.d .nils), (.d .nils), (.d .nils), (.d .nils), (.d .nils)])⟩,
  ⟨(some (nat_lit 31)), none, .simple (.alloc [(.d (.int .i64 (.ofNat (nat_lit 0)))), (.d .nils), (.d .nils), (.d .nils), (.d .nils), (.d .nils)])⟩,
  ⟨(some (nat_lit 32)), none, .simple (.alloc [(.d (.int .i64 (.ofNat (nat_lit 0)))), (.d .nils), (.d .nils), (.d .nils), (.d .nils), (.d .nils)])⟩,
  ⟨none, none, .simple (.store (nat_lit 6) (.tmp (nat_lit 25)) (.tmp (nat_lit 203)))⟩,
  ⟨none, none, .simple (.store (nat_lit 6) (.tmp (nat_lit 26)) (.tmp (nat_lit 204)))⟩,
  ⟨none, none, .simple (.store (nat_lit 6) (.tmp (nat_lit 27)) (.tmp (nat_lit 205)))⟩,
  ⟨none, none, .simple (.store (nat_lit 6) (.tmp (nat_lit 28)) (.tmp (nat_lit 206)))⟩,
  ⟨none, none, .simple (.store (nat_lit 6) (.tmp (nat_lit 29)) (.tmp (nat_lit 207)))⟩,
  ⟨none, none, .simple (.store (nat_lit 6) (.tmp (nat_lit 30)) (.tmp (nat_lit 208)))⟩,
  ⟨none, none, .simple (.store (nat_lit 6) (.tmp (nat_lit 31)) (.tmp (nat_lit 209)))⟩,
  ⟨none, none, .simple (.store (nat_lit 6) (.tmp (nat_lit 32)) (.tmp (nat_lit 210)))⟩] (some [(nat_lit 2), (nat_lit 5), (nat_lit 7), (nat_lit 9), (nat_lit 11), (nat_lit 13), (nat_lit 20), (nat_lit 24), (nat_lit 25), (nat_lit 26), (nat_lit 27), (nat_lit 28), (nat_lit 29), (nat_lit 30), (nat_lit 31), (nat_lit 32)]))
(.seq (.region [
  ⟨(some (nat_lit 211)), none, .simple (.fieldAddr (nat_lit 2) (.tmp (nat_lit 25)))⟩,
  ⟨(some (nat_lit 212)), none, .simple (.load none (.tmp (nat_lit 211)))⟩,
  ⟨(some (nat_lit 213)), none, .simple (.indexS (nat_lit 7) (.tmp (nat_lit 212)) (.const (.int .i64 (.ofNat (nat_lit 0)))))⟩,
  ⟨(some (nat_lit 214)), none, .simple (.fieldAddr (nat_lit 1) (.tmp (nat_lit 213)))⟩,
  ⟨none, none, .simple (.store (nat_lit 1) (.tmp (nat_lit 214)) (.const (.int .i64 (.ofNat (nat_lit 0)))))⟩] (some [(nat_lit 2), (nat_lit 5), (nat_lit 7), (nat_lit 9), (nat_lit 11), (nat_lit 13), (nat_lit 20), (nat_lit 24), (nat_lit 25), (nat_lit 26), (nat_lit 27), (nat_lit 28), (nat_lit 29), (nat_lit 30), (nat_lit 31), (nat_lit 32)]))
(.seq (.region [
  ⟨(some (nat_lit 215)), none, .simple (.fieldAddr (nat_lit 2) (.tmp (nat_lit 26)))⟩,
  ⟨(some (nat_lit 216)), none, .simple (.load none (.tmp (nat_lit 215)))⟩,
  ⟨(some (nat_lit 217)), none, .callx (.func (nat_lit 55)) [(.const (.int .i64 (.ofNat (nat_lit 1)))), (.const (.int .i64 (.ofNat (nat_lit 4))))]⟩,
  ⟨(some (nat_lit 218)), none, .simple (.indexS (nat_lit 7) (.tmp (nat_lit 216)) (.const (.int .i64 (.ofNat (nat_lit 0)))))⟩,
  ⟨(some (nat_lit 219)), none, .simple (.fieldAddr (nat_lit 3) (.tmp (nat_lit 218)))⟩,
  ⟨none, none, .simple (.store (nat_lit 2) (.tmp (nat_lit 219)) (.tmp (nat_lit 217)))⟩] (some [(nat_lit 2), (nat_lit 5), (nat_lit 7), (nat_lit 9), (nat_lit 11), (nat_lit 13), (nat_lit 20), (nat_lit 24), (nat_lit 25), (nat_lit 26), (nat_lit 27), (nat_lit 28), (nat_lit 29), (nat_lit 30), (nat_lit 31), (nat_lit 32)]))
(.seq (.region [
  ⟨(some (nat_lit 220)), none, .simple (.fieldAddr (nat_lit 3) (.tmp (nat_lit 27)))⟩,
  ⟨(some (nat_lit 221)), none, .simple (.load none (.tmp (nat_lit 220)))⟩,
  ⟨(some (nat_lit 222)), none, .simple (.indexS (nat_lit 3) (.tmp (nat_lit 221)) (.const (.int .i64 (.ofNat (nat_lit 0)))))⟩,
  ⟨(some (nat_lit 223)), none, .simple (.fieldAddr (nat_lit 0) (.tmp (nat_lit 222)))⟩,
  ⟨none, none, .simple (.store (nat_lit 1) (.tmp (nat_lit 223)) (.const (.int .i64 (.ofNat (nat_lit 5)))))⟩] (some [(nat_lit 2), (nat_lit 5), (nat_lit 7), (nat_lit 9), (nat_lit 11), (nat_lit 13), (nat_lit 20), (nat_lit 24), (nat_lit 25), (nat_lit 26), (nat_lit 27), (nat_lit 28), (nat_lit 29), (nat_lit 30), (nat_lit 31), (nat_lit 32)]))
(.seq (.region [
  ⟨(some (nat_lit 224)), none, .simple (.fieldAddr (nat_lit 4) (.tmp (nat_lit 28)))⟩,
  ⟨(some (nat_lit 225)), none, .simple (.load none (.tmp (nat_lit 224)))⟩,
  ⟨(some (nat_lit 226)), none, .simple (.build [(.d (.int .i64 (.ofNat (nat_lit 0)))), (.d (.int .i64 (.ofNat (nat_lit 0)))), (.d (.int .i64 (.ofNat (nat_lit 0))))] [((nat_lit 0), (nat_lit 1), (.const (.int .i64 (.ofNat (nat_lit 4))))), ((nat_lit 1), (nat_lit 1), (.const (.int .i64 (.ofNat (nat_lit 1))))), ((nat_lit 2), (nat_lit 1), (.const (.int .i64 (.ofNat (nat_lit 1)))))])⟩,
  ⟨(some (nat_lit 227)), none, .simple (.bslice false (nat_lit 96) (nat_lit 3) (nat_lit 1) [(.int .i64 (.ofNat (nat_lit 0))), (.int .i64 (.ofNat (nat_lit 0))), (.int .i64 (.ofNat (nat_lit 0)))] [((nat_lit 0), (.tmp (nat_lit 226)))])⟩,
  ⟨(some (nat_lit 228)), none, .app (nat_lit 96) (nat_lit 3) (nat_lit 24) (.tmp (nat_lit 225)) (.tmp (nat_lit 227))⟩,
  ⟨(some (nat_lit 229)), none, .simple (.fieldAddr (nat_lit 4) (.tmp (nat_lit 28)))⟩,
  ⟨none, none, .simple (.store (nat_lit 1) (.tmp (nat_lit 229)) (.tmp (nat_lit 228)))⟩] (some [(nat_lit 2), (nat_lit 5), (nat_lit 7), (nat_lit 9), (nat_lit 11), (nat_lit 13), (nat_lit 20), (nat_lit 24), (nat_lit 25), (nat_lit 26), (nat_lit 27), (nat_lit 28), (nat_lit 29), (nat_lit 30), (nat_lit 31), (nat_lit 32)]))
(.seq (.region [
  ⟨(some (nat_lit 230)), none, .simple (.fieldAddr (nat_lit 4) (.tmp (nat_lit 29)))⟩,
  ⟨(some (nat_lit 231)), none, .simple (.load none (.tmp (nat_lit 230)))⟩,
  ⟨(some (nat_lit 232)), none, .simple (.indexS (nat_lit 3) (.tmp (nat_lit 231)) (.const (.int .i64 (.ofNat (nat_lit 0)))))⟩,
  ⟨(some (nat_lit 233)), none, .simple (.fieldAddr (nat_lit 2) (.tmp (nat_lit 232)))⟩,
  ⟨none, none, .simple (.store (nat_lit 1) (.tmp (nat_lit 233)) (.const (.int .i64 (.ofNat (nat_lit 5)))))⟩] (some [(nat_lit 2), (nat_lit 5), (nat_lit 7), (nat_lit 9), (nat_lit 11), (nat_lit 13), (nat_lit 20), (nat_lit 24), (nat_lit 25), (nat_lit 26), (nat_lit 27), (nat_lit 28), (nat_lit 29), (nat_lit 30), (nat_lit 31), (nat_lit 32)]))
(.seq (.region [
  ⟨(some (nat_lit 234)), none, .simple (.fieldAddr (nat_lit 5) (.tmp (nat_lit 30)))⟩,
  ⟨(some (nat_lit 235)), none, .simple (.load none (.tmp (nat_lit 234)))⟩,
  ⟨(some (nat_lit 236)), none, .simple (.indexS (nat_lit 2) (.tmp (nat_lit 235)) (.const (.int .i64 (.ofNat (nat_lit 0)))))⟩,
  ⟨(some (nat_lit 237)), none, .simple (.fieldAddr (nat_lit 1) (.tmp (nat_lit 236)))⟩,
  ⟨none, none, .simple (.store (nat_lit 1) (.tmp (nat_lit 237)) (.const (.int .i64 (.ofNat (nat_lit 12)))))⟩] (some [(nat_lit 2), (nat_lit 5), (nat_lit 7), (nat_lit 9), (nat_lit 11), (nat_lit 13), (nat_lit 20), (nat_lit 24), (nat_lit 25), (nat_lit 26), (nat_lit 27), (nat_lit 28), (nat_lit 29), (nat_lit 30), (nat_lit 31), (nat_lit 32)]))
(.seq (.region [
  ⟨(some (nat_lit 238)), none, .simple (.mkslice (nat_lit 93) (nat_lit 7) (nat_lit 56) [(.int .i64 (.ofNat (nat_lit 0))), (.int .i64 (.ofNat (nat_lit 0))), (.int .i64 (.ofNat (nat_lit 0))), (.int .i64 (.ofNat (nat_lit 0))), (.int .i64 (.ofNat (nat_lit 0))), (.int .i64 (.ofNat (nat_lit 0))), (.int .i64 (.ofNat (nat_lit 0)))] (.const (.int .i64 (.ofNat (nat_lit 5)))) (.const (.int .i64 (.ofNat (nat_lit 5)))))⟩,
  ⟨(some (nat_lit 239)), none, .simple (.fieldAddr (nat_lit 2) (.tmp (nat_lit 31)))⟩,
  ⟨none, none, .simple (.store (nat_lit 1) (.tmp (nat_lit 239)) (.tmp (nat_lit 238)))⟩] (some [(nat_lit 2), (nat_lit 5), (nat_lit 7), (nat_lit 9), (nat_lit 11), (nat_lit 13), (nat_lit 20), (nat_lit 24), (nat_lit 25), (nat_lit 26), (nat_lit 27), (nat_lit 28), (nat_lit 29), (nat_lit 30), (nat_lit 31), (nat_lit 32)]))
(.seq (.region [
  ⟨(some (nat_lit 240)), none, .simple (.bslice false (nat_lit 3) (nat_lit 1) (nat_lit 1) [(.int .i64 (.ofNat (nat_lit 0)))] [((nat_lit 0), (.const (.int .i64 (.ofNat (nat_lit 10)))))])⟩,
  ⟨(some (nat_lit 241)), none, .simple (.fieldAddr (nat_lit 1) (.tmp (nat_lit 32)))⟩,
  ⟨none, none, .simple (.store (nat_lit 1) (.tmp (nat_lit 241)) (.tmp (nat_lit 240)))⟩] (some [(nat_lit 2), (nat_lit 5), (nat_lit 7), (nat_lit 9), (nat_lit 11), (nat_lit 13), (nat_lit 20), (nat_lit 24), (nat_lit 25), (nat_lit 26), (nat_lit 27), (nat_lit 28), (nat_lit 29), (nat_lit 30), (nat_lit 31), (nat_lit 32)]))
(.seq (.region [
  ⟨(some (nat_lit 242)), none, .simple (.move (.tmp (nat_lit 2)))⟩,
  ⟨(some (nat_lit 243)), none, .simple (.bin .eql (.tmp (nat_lit 242)) (.const (.int .i64 (.ofNat (nat_lit 2)))))⟩,
  ⟨(some (nat_lit 244)), none, .simple (.move (.tmp (nat_lit 243)))⟩,
  ⟨(some (nat_lit 245)), (some ((nat_lit 244), true)), .simple (.move (.tmp (nat_lit 5)))⟩,
  ⟨(some (nat_lit 246)), (some ((nat_lit 244), true)), .simple (.bin .eql (.tmp (nat_lit 245)) (.const (.int .i64 (.ofNat (nat_lit 2)))))⟩,
  ⟨(some (nat_lit 247)), none, .simple (.pick (.tmp (nat_lit 244)) (.tmp (nat_lit 246)) (.const (.bool false)))⟩,
  ⟨(some (nat_lit 248)), none, .simple (.move (.tmp (nat_lit 247)))⟩,
  ⟨(some (nat_lit 249)), (some ((nat_lit 248), true)), .simple (.move (.tmp (nat_lit 7)))⟩,
  ⟨(some (nat_lit 250)), (some ((nat_lit 248), true)), .simple (.bin .eql (.tmp (nat_lit 249)) (.const (.int .i64 (.ofNat (nat_lit 2)))))⟩,
  ⟨(some (nat_lit 251)), none, .simple (.pick (.tmp (nat_lit 248)) (.tmp (nat_lit 250)) (.const (.bool false)))⟩,
  ⟨(some (nat_lit 252)), none, .simple (.move (.tmp (nat_lit 251)))⟩,
  ⟨(some (nat_lit 253)), (some ((nat_lit 252), true)), .simple (.move (.tmp (nat_lit 9)))⟩,
  ⟨(some (nat_lit 254)), (some ((nat_lit 252), true)), .simple (.bin .eql (.tmp (nat_lit 253)) (.const (.int .i64 (.ofNat (nat_lit 2)))))⟩,
  ⟨(some (nat_lit 255)), none, .simple (.pick (.tmp (nat_lit 252)) (.tmp (nat_lit 254)) (.const (.bool false)))⟩,
  ⟨(some (nat_lit 256)), none, .simple (.move (.tmp (nat_lit 255)))⟩,
  ⟨(some (nat_lit 257)), (some ((nat_lit 256), true)), .simple (.move (.tmp (nat_lit 11)))⟩,
  ⟨(some (nat_lit 258)), (some ((nat_lit 256), true)), .simple (.bin .eql (.tmp (nat_lit 257)) (.const (.int .i64 (.ofNat (nat_lit 11)))))⟩,
  ⟨(some (nat_lit 259)), none, .simple (.pick (.tmp (nat_lit 256)) (.tmp (nat_lit 258)) (.const (.bool false)))⟩,
  ⟨(some (nat_lit 260)), none, .simple (.move (.tmp (nat_lit 259)))⟩,
  ⟨(some (nat_lit 261)), (some ((nat_lit 260), true)), .simple (.move (.tmp (nat_lit 13)))⟩,
  ⟨(some (nat_lit 262)), (some ((nat_lit 260), true)), .simple (.bin .eql (.tmp (nat_lit 261)) (.const (.int .i64 (.ofNat (nat_lit 2)))))⟩,
  ⟨(some (nat_lit 263)), none, .simple (.pick (.tmp (nat_lit 260)) (.tmp (nat_lit 262)) (.const (.bool false)))⟩,
  ⟨(some (nat_lit 264)), none, .simple (.move (.tmp (nat_lit 263)))⟩,
  ⟨(some (nat_lit 265)), (some ((nat_lit 264), true)), .simple (.move (.tmp (nat_lit 20)))⟩,
  ⟨(some (nat_lit 266)), (some ((nat_lit 264), true)), .simple (.bin .eql (.tmp (nat_lit 265)) (.const (.int .i64 (.ofNat (nat_lit 9)))))⟩,
  ⟨(some (nat_lit 267)), none, .simple (.pick (.tmp (nat_lit 264)) (.tmp (nat_lit 266)) (.const (.bool false)))⟩,
  ⟨(some (nat_lit 268)), none, .simple (.move (.tmp (nat_lit 267)))⟩,
  ⟨(some (nat_lit 269)), (some ((nat_lit 268), true)), .simple (.move (.tmp (nat_lit 24)))⟩,
  ⟨(some (nat_lit 270)), (some ((nat_lit 268), true)), .simple (.bin .eql (.tmp (nat_lit 269)) (.const (.int .i64 (.ofNat (nat_lit 2)))))⟩,
  ⟨(some (nat_lit 271)), none, .simple (.pick (.tmp (nat_lit 268)) (.tmp (nat_lit 270)) (.const (.bool false)))⟩,
  ⟨(some (nat_lit 272)), none, .simple (.move (.tmp (nat_lit 271)))⟩,
  ⟨(some (nat_lit 273)), (some ((nat_lit 272), true)), .simple (.load (some (nat_lit 6)) (.tmp (nat_lit 25)))⟩,
  ⟨(some (nat_lit 274)), (some ((nat_lit 272), true)), .call (.func (nat_lit 52)) [(.tmp (nat_lit 273))]⟩,
  ⟨(some (nat_lit 275)), (some ((nat_lit 272), true)), .simple (.bin .eql (.tmp (nat_lit 274)) (.const (.int .i64 (.ofNat (nat_lit 1)))))⟩,
  ⟨(some (nat_lit 276)), none, .simple (.pick (.tmp (nat_lit 272)) (.tmp (nat_lit 275)) (.const (.bool false)))⟩,
  ⟨(some (nat_lit 277)), none, .simple (.move (.tmp (nat_lit 276)))⟩,
  ⟨(some (nat_lit 278)), (some ((nat_lit 277), true)), .simple (.load (some (nat_lit 6)) (.tmp (nat_lit 26)))⟩,
  ⟨(some (nat_lit 279)), (some ((nat_lit 277), true)), .call (.func (nat_lit 52)) [(.tmp (nat_lit 278))]⟩,
  ⟨(some (nat_lit 280)), (some ((nat_lit 277), true)), .simple (.bin .eql (.tmp (nat_lit 279)) (.const (.int .i64 (.ofNat (nat_lit 1)))))⟩,
  ⟨(some (nat_lit 281)), none, .simple (.pick (.tmp (nat_lit 277)) (.tmp (nat_lit 280)) (.const (.bool false)))⟩,
  ⟨(some (nat_lit 282)), none, .simple (.move (.tmp (nat_lit 281)))⟩,
  ⟨(some (nat_lit 283)), (some ((nat_lit 282), true)), .simple (.load (some (nat_lit 6)) (.tmp (nat_lit 27)))⟩,
  ⟨(some (nat_lit 284)), (some ((nat_lit 282), true)), .call (.func (nat_lit 52)) [(.tmp (nat_lit 283))]⟩,
  ⟨(some (nat_lit 285)), (some ((nat_lit 282), true)), .simple (.bin .eql (.tmp (nat_lit 284)) (.const (.int .i64 (.ofNat (nat_lit 1)))))⟩,
  ⟨(some (nat_lit 286)), none, .simple (.pick (.tmp (nat_lit 282)) (.tmp (nat_lit 285)) (.const (.bool false)))⟩,
  ⟨(some (nat_lit 287)), none, .simple (.move (.tmp (nat_lit 286)))⟩,
  ⟨(some (nat_lit 288)), (some ((nat_lit 287), true)), .simple (.load (some (nat_lit 6)) (.tmp (nat_lit 28)))⟩,
  ⟨(some (nat_lit 289)), (some ((nat_lit 287), true)), .call (.func (nat_lit 52)) [(.tmp (nat_lit 288))]⟩,
  ⟨(some (nat_lit 290)), (some ((nat_lit 287), true)), .simple (.bin .eql (.tmp (nat_lit 289)) (.const (.int .i64 (.ofNat (nat_lit 1)))))⟩,
  ⟨(some (nat_lit 291)), none, .simple (.pick (.tmp (nat_lit 287)) (.tmp (nat_lit 290)) (.const (.bool false)))⟩,
  ⟨(some (nat_lit 292)), none, .simple (.move (.tmp (nat_lit 291)))⟩,
  ⟨(some (nat_lit 293)), (some ((nat_lit 292), true)), .simple (.load (some (nat_lit 6)) (.tmp (nat_lit 29)))⟩,
  ⟨(some (nat_lit 294)), (some ((nat_lit 292), true)), .call (.func (nat_lit 52)) [(.tmp (nat_lit 293))]⟩,
  ⟨(some (nat_lit 295)), (some ((nat_lit 292), true)), .simple (.bin .eql (.tmp (nat_lit 294)) (.const (.int .i64 (.ofNat (nat_lit 1)))))⟩,
  ⟨(some (nat_lit 296)), none, .simple (.pick (.tmp (nat_lit 292)) (.tmp (nat_lit 295)) (.const (.bool false)))⟩,
  ⟨(some (nat_lit 297)), none, .simple (.move (.tmp (nat_lit 296)))⟩,
  ⟨(some (nat_lit 298)), (some ((nat_lit 297), true)), .simple (.load (some (nat_lit 6)) (.tmp (nat_lit 30)))⟩,
  ⟨(some (nat_lit 299)), (some ((nat_lit 297), true)), .call (.func (nat_lit 52)) [(.tmp (nat_lit 298))]⟩,
  ⟨(some (nat_lit 300)), (some ((nat_lit 297), true)), .simple (.bin .eql (.tmp (nat_lit 299)) (.const (.int .i64 (.ofNat (nat_lit 1)))))⟩,
  ⟨(some (nat_lit 301)), none, .simple (.pick (.tmp (nat_lit 297)) (.tmp (nat_lit 300)) (.const (.bool false)))⟩,
  ⟨(some (nat_lit 302)), none, .simple (.move (.tmp (nat_lit 301)))⟩,
  ⟨(some (nat_lit 303)), (some ((nat_lit 302), true)), .simple (.load (some (nat_lit 6)) (.tmp (nat_lit 31)))⟩,
  ⟨(some (nat_lit 304)), (some ((nat_lit 302), true)), .call (.func (nat_lit 52)) [(.tmp (nat_lit 303))]⟩,
  ⟨(some (nat_lit 305)), (some ((nat_lit 302), true)), .simple (.bin .eql (.tmp (nat_lit 304)) (.const (.int .i64 (.ofNat (nat_lit 3)))))⟩,
  ⟨(some (nat_lit 306)), none, .simple (.pick (.tmp (nat_lit 302)) (.tmp (nat_lit 305)) (.const (.bool false)))⟩,
  ⟨(some (nat_lit 307)), none, .simple (.move (.tmp (nat_lit 306)))⟩,
  ⟨(some (nat_lit 308)), (some ((nat_lit 307), true)), .simple (.load (some (nat_lit 6)) (.tmp (nat_lit 32)))⟩,
  ⟨(some (nat_lit 309)), (some ((nat_lit 307), true)), .call (.func (nat_lit 52)) [(.tmp (nat_lit 308))]⟩,
  ⟨(some (nat_lit 310)), (some ((nat_lit 307), true)), .simple (.bin .eql (.tmp (nat_lit 309)) (.const (.int .i64 (.ofNat (nat_lit 1)))))⟩,
  ⟨(some (nat_lit 311)), none, .simple (.pick (.tmp (nat_lit 307)) (.tmp (nat_lit 310)) (.const (.bool false)))⟩,
  ⟨(some (nat_lit 312)), none, .simple (.move (.tmp (nat_lit 311)))⟩,
  ⟨(some (nat_lit 313)), (some ((nat_lit 312), true)), .simple (.build [(.d (.int .i64 (.ofNat (nat_lit 0)))), (.d .nils), (.d .nils), (.d .nils), (.d .nils), (.d .nils)] [])⟩,
  ⟨(some (nat_lit 314)), (some ((nat_lit 312), true)), .call (.func (nat_lit 52)) [(.tmp (nat_lit 313))]⟩,
  ⟨(some (nat_lit 315)), (some ((nat_lit 312), true)), .simple (.bin .eql (.tmp (nat_lit 314)) (.const (.int .i64 (.ofNat (nat_lit 1)))))⟩,
  ⟨(some (nat_lit 316)), none, .simple (.pick (.tmp (nat_lit 312)) (.tmp (nat_lit 315)) (.const (.bool false)))⟩,
  ⟨(some (nat_lit 317)), none, .simple (.move (.tmp (nat_lit 316)))⟩,
  ⟨(some (nat_lit 318)), (some ((nat_lit 317), true)), .call (.func (nat_lit 18)) []⟩,
  ⟨(some (nat_lit 319)), none, .simple (.pick (.tmp (nat_lit 317)) (.tmp (nat_lit 318)) (.const (.bool false)))⟩,
  ⟨(some (nat_lit 0)), none, .simple (.move (.tmp (nat_lit 319)))⟩] (some [(nat_lit 0)]))
.ret)))))))))))))))))))))))))))))
theorem k14 : Try.f14.body.bind (compC Try.prog G14) = some c14 := by kernel_rfl
theorem e14 : compRes Try.prog Try.f14.results.toList = some r14 := by kernel_rfl
def F14 : FunX := ⟨false, G14, c14, r14⟩
theorem o14 : FunOk Try.prog 14 F14 := ⟨Try.f14, by kernel_rfl, k14, e14, by kernel_rfl, by kernel_rfl⟩

/-! 18: contango/contangolaw07.awake; parameters 0, captured 0 -/
def G18 : Cfg := ⟨[], [((nat_lit 0), []), ((nat_lit 1), [(nat_lit 1), (nat_lit 2)]), ((nat_lit 2), [(nat_lit 1), (nat_lit 2), (nat_lit 3), (nat_lit 4), (nat_lit 5)]), ((nat_lit 3), [(nat_lit 1), (nat_lit 2), (nat_lit 3), (nat_lit 4), (nat_lit 5), (nat_lit 6), (nat_lit 7)]), ((nat_lit 4), [(nat_lit 1), (nat_lit 2), (nat_lit 3), (nat_lit 4), (nat_lit 5), (nat_lit 6), (nat_lit 7), (nat_lit 8), (nat_lit 9)]), ((nat_lit 5), [(nat_lit 1), (nat_lit 2), (nat_lit 3), (nat_lit 4), (nat_lit 5), (nat_lit 6), (nat_lit 7), (nat_lit 8), (nat_lit 9), (nat_lit 10), (nat_lit 11)]), ((nat_lit 6), [(nat_lit 1), (nat_lit 2), (nat_lit 3), (nat_lit 4), (nat_lit 5), (nat_lit 6), (nat_lit 7), (nat_lit 8), (nat_lit 9), (nat_lit 10), (nat_lit 11), (nat_lit 12), (nat_lit 13), (nat_lit 14), (nat_lit 15)]), ((nat_lit 7), [(nat_lit 1), (nat_lit 2), (nat_lit 3), (nat_lit 4), (nat_lit 5), (nat_lit 6), (nat_lit 7), (nat_lit 8), (nat_lit 9), (nat_lit 10), (nat_lit 11), (nat_lit 12), (nat_lit 13), (nat_lit 14), (nat_lit 15), (nat_lit 16), (nat_lit 17)]), ((nat_lit 8), [(nat_lit 0)])], (nat_lit 156), []⟩
def r18 : List CRes := [.tmp (nat_lit 0)]
def c18 : CCode :=
(.seq (.region [
  ⟨(some (nat_lit 0)), none, .simple (.move (.const (.bool false)))⟩] (some []))
(.seq (.region [
  ⟨(some (nat_lit 19)), none, .call (.func (nat_lit 53)) [(.const (.int .i64 (.ofNat (nat_lit 4))))]⟩,
  ⟨(some (nat_lit 20)), none, .call (.func (nat_lit 50)) [(.tmp (nat_lit 19)), (.const (.int .i64 (.ofNat (nat_lit 5))))]⟩,
  ⟨(some (nat_lit 18)), none, .simple (.move (.tmp (nat_lit 20)))⟩,
  ⟨(some (nat_lit 21)), none, .simple (.extract (.tmp (nat_lit 18)) (nat_lit 0))⟩,
  ⟨(some (nat_lit 22)), none, .simple (.extract (.tmp (nat_lit 18)) (nat_lit 1))⟩,
  ⟨(some (nat_lit 1)), none, .simple (.move (.tmp (nat_lit 21)))⟩,
  ⟨(some (nat_lit 2)), none, .simple (.move (.tmp (nat_lit 22)))⟩] (some [(nat_lit 1), (nat_lit 2)]))
(.seq (.region [
  ⟨(some (nat_lit 24)), none, .call (.func (nat_lit 53)) [(.const (.int .i64 (.ofNat (nat_lit 4))))]⟩,
  ⟨(some (nat_lit 25)), none, .call (.func (nat_lit 54)) [(.const (.int .i64 (.ofNat (nat_lit 2)))), (.const (.int .i64 (.ofNat (nat_lit 4))))]⟩,
  ⟨(some (nat_lit 26)), none, .call (.func (nat_lit 19)) [(.tmp (nat_lit 24)), (.tmp (nat_lit 25)), (.const (.int .i64 (.ofNat (nat_lit 4))))]⟩,
  ⟨(some (nat_lit 23)), none, .simple (.move (.tmp (nat_lit 26)))⟩,
  ⟨(some (nat_lit 27)), none, .simple (.extract (.tmp (nat_lit 23)) (nat_lit 0))⟩,
  ⟨(some (nat_lit 28)), none, .simple (.extract (.tmp (nat_lit 23)) (nat_lit 1))⟩,
  ⟨(some (nat_lit 29)), none, .simple (.extract (.tmp (nat_lit 23)) (nat_lit 2))⟩,
  ⟨(some (nat_lit 3)), none, .simple (.move (.tmp (nat_lit 27)))⟩,
  ⟨(some (nat_lit 4)), none, .simple (.move (.tmp (nat_lit 28)))⟩,
  ⟨(some (nat_lit 5)), none, .simple (.move (.tmp (nat_lit 29)))⟩] (some [(nat_lit 1), (nat_lit 2), (nat_lit 3), (nat_lit 4), (nat_lit 5)]))
(.seq (.region [
  ⟨(some (nat_lit 31)), none, .call (.func (nat_lit 53)) [(.const (.int .i64 (.ofNat (nat_lit 4))))]⟩,
  ⟨(some (nat_lit 32)), none, .call (.func (nat_lit 54)) [(.const (.int .i64 (.ofNat (nat_lit 2)))), (.const (.int .i64 (.ofNat (nat_lit 5))))]⟩,
  ⟨(some (nat_lit 33)), none, .call (.func (nat_lit 25)) [(.tmp (nat_lit 31)), (.tmp (nat_lit 32)), (.const (.int .i64 (.ofNat (nat_lit 0))))]⟩,
  ⟨(some (nat_lit 30)), none, .simple (.move (.tmp (nat_lit 33)))⟩,
  ⟨(some (nat_lit 34)), none, .simple (.extract (.tmp (nat_lit 30)) (nat_lit 0))⟩,
  ⟨(some (nat_lit 35)), none, .simple (.extract (.tmp (nat_lit 30)) (nat_lit 1))⟩,
  ⟨(some (nat_lit 6)), none, .simple (.move (.tmp (nat_lit 34)))⟩,
  ⟨(some (nat_lit 7)), none, .simple (.move (.tmp (nat_lit 35)))⟩] (some [(nat_lit 1), (nat_lit 2), (nat_lit 3), (nat_lit 4), (nat_lit 5), (nat_lit 6), (nat_lit 7)]))
(.seq (.region [
  ⟨(some (nat_lit 37)), none, .call (.func (nat_lit 53)) [(.const (.int .i64 (.ofNat (nat_lit 4))))]⟩,
  ⟨(some (nat_lit 38)), none, .call (.func (nat_lit 54)) [(.const (.int .i64 (.ofNat (nat_lit 3)))), (.const (.int .i64 (.ofNat (nat_lit 4))))]⟩,
  ⟨(some (nat_lit 39)), none, .call (.func (nat_lit 26)) [(.tmp (nat_lit 37)), (.tmp (nat_lit 38)), (.const (.int .i64 (.ofNat (nat_lit 0))))]⟩,
  ⟨(some (nat_lit 36)), none, .simple (.move (.tmp (nat_lit 39)))⟩,
  ⟨(some (nat_lit 40)), none, .simple (.extract (.tmp (nat_lit 36)) (nat_lit 0))⟩,
  ⟨(some (nat_lit 41)), none, .simple (.extract (.tmp (nat_lit 36)) (nat_lit 1))⟩,
  ⟨(some (nat_lit 8)), none, .simple (.move (.tmp (nat_lit 40)))⟩,
  ⟨(some (nat_lit 9)), none, .simple (.move (.tmp (nat_lit 41)))⟩] (some [(nat_lit 1), (nat_lit 2), (nat_lit 3), (nat_lit 4), (nat_lit 5), (nat_lit 6), (nat_lit 7), (nat_lit 8), (nat_lit 9)]))
(.seq (.region [
  ⟨(some (nat_lit 43)), none, .call (.func (nat_lit 53)) [(.const (.int .i64 (.ofNat (nat_lit 4))))]⟩,
  ⟨(some (nat_lit 44)), none, .call (.func (nat_lit 54)) [(.const (.int .i64 (.ofNat (nat_lit 2)))), (.const (.int .i64 (.ofNat (nat_lit 5))))]⟩,
  ⟨(some (nat_lit 45)), none, .call (.func (nat_lit 27)) [(.tmp (nat_lit 43)), (.tmp (nat_lit 44)), (.const (.int .i64 (.ofNat (nat_lit 0))))]⟩,
  ⟨(some (nat_lit 42)), none, .simple (.move (.tmp (nat_lit 45)))⟩,
  ⟨(some (nat_lit 46)), none, .simple (.extract (.tmp (nat_lit 42)) (nat_lit 0))⟩,
  ⟨(some (nat_lit 47)), none, .simple (.extract (.tmp (nat_lit 42)) (nat_lit 1))⟩,
  ⟨(some (nat_lit 10)), none, .simple (.move (.tmp (nat_lit 46)))⟩,
  ⟨(some (nat_lit 11)), none, .simple (.move (.tmp (nat_lit 47)))⟩] (some [(nat_lit 1), (nat_lit 2), (nat_lit 3), (nat_lit 4), (nat_lit 5), (nat_lit 6), (nat_lit 7), (nat_lit 8), (nat_lit 9), (nat_lit 10), (nat_lit 11)]))
(.seq (.region [
  ⟨(some (nat_lit 49)), none, .call (.func (nat_lit 53)) [(.const (.int .i64 (.ofNat (nat_lit 4))))]⟩,
  ⟨(some (nat_lit 50)), none, .call (.func (nat_lit 33)) [(.tmp (nat_lit 49)), (.const (.int .i64 (.ofNat (nat_lit 0))))]⟩,
  ⟨(some (nat_lit 48)), none, .simple (.move (.tmp (nat_lit 50)))⟩,
  ⟨(some (nat_lit 51)), none, .simple (.extract (.tmp (nat_lit 48)) (nat_lit 0))⟩,
  ⟨(some (nat_lit 52)), none, .simple (.extract (.tmp (nat_lit 48)) (nat_lit 1))⟩,
  ⟨(some (nat_lit 53)), none, .simple (.extract (.tmp (nat_lit 48)) (nat_lit 2))⟩,
  ⟨(some (nat_lit 54)), none, .simple (.extract (.tmp (nat_lit 48)) (nat_lit 3))⟩,
  ⟨(some (nat_lit 12)), none, .simple (.move (.tmp (nat_lit 51)))⟩,
  ⟨(some (nat_lit 13)), none, .simple (.move (.tmp (nat_lit 52)))⟩,
  ⟨(some (nat_lit 14)), none, .simple (.move (.tmp (nat_lit 53)))⟩,
  ⟨(some (nat_lit 15)), none, .simple (.move (.tmp (nat_lit 54)))⟩] (some [(nat_lit 1), (nat_lit 2), (nat_lit 3), (nat_lit 4), (nat_lit 5), (nat_lit 6), (nat_lit 7), (nat_lit 8), (nat_lit 9), (nat_lit 10), (nat_lit 11), (nat_lit 12), (nat_lit 13), (nat_lit 14), (nat_lit 15)]))
(.seq (.region [
  ⟨(some (nat_lit 56)), none, .call (.func (nat_lit 53)) [(.const (.int .i64 (.ofNat (nat_lit 11))))]⟩,
  ⟨(some (nat_lit 57)), none, .call (.func (nat_lit 38)) [(.tmp (nat_lit 56))]⟩,
  ⟨(some (nat_lit 55)), none, .simple (.move (.tmp (nat_lit 57)))⟩,
  ⟨(some (nat_lit 58)), none, .simple (.extract (.tmp (nat_lit 55)) (nat_lit 0))⟩,
  ⟨(some (nat_lit 59)), none, .simple (.extract (.tmp (nat_lit 55)) (nat_lit 1))⟩,
  ⟨(some (nat_lit 16)), none, .simple (.move (.tmp (nat_lit 58)))⟩,
  ⟨(some (nat_lit 17)), none, .simple (.move (.tmp (nat_lit 59)))⟩] (some [(nat_lit 1), (nat_lit 2), (nat_lit 3), (nat_lit 4), (nat_lit 5), (nat_lit 6), (nat_lit 7), (nat_lit 8), (nat_lit 9), (nat_lit 10), (nat_lit 11), (nat_lit 12), (nat_lit 13), (nat_lit 14), (nat_lit 15), (nat_lit 16), (nat_lit 17)]))
(.seq (.region [
  ⟨(some (nat_lit 60)), none, .simple (.move (.tmp (nat_lit 2)))⟩,
  ⟨(some (nat_lit 61)), none, .simple (.bin .eql (.tmp (nat_lit 60)) (.const (.int .i64 (.ofNat (nat_lit 0)))))⟩,
  ⟨(some (nat_lit 62)), none, .simple (.move (.tmp (nat_lit 61)))⟩,
  ⟨(some (nat_lit 63)), (some ((nat_lit 62), true)), .simple (.move (.tmp (nat_lit 1)))⟩,
  ⟨(some (nat_lit 64)), (some ((nat_lit 62), true)), .simple (.bin .eql (.tmp (nat_lit 63)) (.const (.int .i64 (.ofNat (nat_lit 7)))))⟩,
  ⟨(some (nat_lit 65)), none, .simple (.pick (.tmp (nat_lit 62)) (.tmp (nat_lit 64)) (.const (.bool false)))⟩,
  ⟨(some (nat_lit 66)), none, .simple (.move (.tmp (nat_lit 65)))⟩,
  ⟨(some (nat_lit 67)), (some ((nat_lit 66), true)), .simple (.move (.tmp (nat_lit 5)))⟩,
  ⟨(some (nat_lit 68)), (some ((nat_lit 66), true)), .simple (.bin .eql (.tmp (nat_lit 67)) (.const (.int .i64 (.ofNat (nat_lit 0)))))⟩,
  ⟨(some (nat_lit 69)), none, .simple (.pick (.tmp (nat_lit 66)) (.tmp (nat_lit 68)) (.const (.bool false)))⟩,
  ⟨(some (nat_lit 70)), none, .simple (.move (.tmp (nat_lit 69)))⟩,
  ⟨(some (nat_lit 71)), (some ((nat_lit 70), true)), .simple (.move (.tmp (nat_lit 3)))⟩,
  ⟨(some (nat_lit 72)), (some ((nat_lit 70), true)), .simple (.bslice false (nat_lit 3) (nat_lit 1) (nat_lit 2) [(.int .i64 (.ofNat (nat_lit 0))), (.int .i64 (.ofNat (nat_lit 0)))] [((nat_lit 0), (.const (.int .i64 (.ofNat (nat_lit 9))))), ((nat_lit 1), (.const (.int .i64 (.ofNat (nat_lit 6)))))])⟩,
  ⟨(some (nat_lit 73)), (some ((nat_lit 70), true)), .call (.func (nat_lit 28)) [(.tmp (nat_lit 71)), (.tmp (nat_lit 72))]⟩,
  ⟨(some (nat_lit 74)), none, .simple (.pick (.tmp (nat_lit 70)) (.tmp (nat_lit 73)) (.const (.bool false)))⟩,
  ⟨(some (nat_lit 75)), none, .simple (.move (.tmp (nat_lit 74)))⟩,
  ⟨(some (nat_lit 76)), (some ((nat_lit 75), true)), .simple (.move (.tmp (nat_lit 4)))⟩,
  ⟨(some (nat_lit 77)), (some ((nat_lit 75), true)), .simple (.bslice false (nat_lit 3) (nat_lit 1) (nat_lit 2) [(.int .i64 (.ofNat (nat_lit 0))), (.int .i64 (.ofNat (nat_lit 0)))] [((nat_lit 0), (.const (.int .i64 (.ofNat (nat_lit 0))))), ((nat_lit 1), (.const (.int .i64 (.ofNat (nat_lit 0)))))])⟩,
  ⟨(some (nat_lit 78)), (some ((nat_lit 75), true)), .call (.func (nat_lit 28)) [(.tmp (nat_lit 76)), (.tmp (nat_lit 77))]⟩,
  ⟨(some (nat_lit 79)), none, .simple (.pick (.tmp (nat_lit 75)) (.tmp (nat_lit 78)) (.const (.bool false)))⟩,
  ⟨(some (nat_lit 80)), none, .simple (.move (.tmp (nat_lit 79)))⟩,
  ⟨(some (nat_lit 81)), (some ((nat_lit 80), true)), .simple (.move (.tmp (nat_lit 7)))⟩,
  ⟨(some (nat_lit 82)), (some ((nat_lit 80), true)), .simple (.bin .eql (.tmp (nat_lit 81)) (.const (.int .i64 (.ofNat (nat_lit 0)))))⟩,
  ⟨(some (nat_lit 83)), none, .simple (.pick (.tmp (nat_lit 80)) (.tmp (nat_lit 82)) (.const (.bool false)))⟩,
  ⟨(some (nat_lit 84)), none, .simple (.move (.tmp (nat_lit 83)))⟩,
  ⟨(some (nat_lit 85)), (some ((nat_lit 84), true)), .simple (.move (.tmp (nat_lit 6)))⟩,
  ⟨(some (nat_lit 86)), (some ((nat_lit 84), true)), .simple (.bslice false (nat_lit 3) (nat_lit 1) (nat_lit 2) [(.int .i64 (.ofNat (nat_lit 0))), (.int .i64 (.ofNat (nat_lit 0)))] [((nat_lit 0), (.const (.int .i64 (.ofNat (nat_lit 54000))))), ((nat_lit 1), (.const (.int .i64 (.ofNat (nat_lit 0)))))])⟩,
  ⟨(some (nat_lit 87)), (some ((nat_lit 84), true)), .call (.func (nat_lit 28)) [(.tmp (nat_lit 85)), (.tmp (nat_lit 86))]⟩,
  ⟨(some (nat_lit 88)), none, .simple (.pick (.tmp (nat_lit 84)) (.tmp (nat_lit 87)) (.const (.bool false)))⟩,
  ⟨(some (nat_lit 89)), none, .simple (.move (.tmp (nat_lit 88)))⟩,
  ⟨(some (nat_lit 90)), (some ((nat_lit 89), true)), .simple (.move (.tmp (nat_lit 9)))⟩,
  ⟨(some (nat_lit 91)), (some ((nat_lit 89), true)), .simple (.bin .eql (.tmp (nat_lit 90)) (.const (.int .i64 (.ofNat (nat_lit 0)))))⟩,
  ⟨(some (nat_lit 92)), none, .simple (.pick (.tmp (nat_lit 89)) (.tmp (nat_lit 91)) (.const (.bool false)))⟩,
  ⟨(some (nat_lit 93)), none, .simple (.move (.tmp (nat_lit 92)))⟩,
  ⟨(some (nat_lit 94)), (some ((nat_lit 93), true)), .simple (.move (.tmp (nat_lit 8)))⟩,
  ⟨(some (nat_lit 95)), (some ((nat_lit 93), true)), .simple (.bslice false (nat_lit 3) (nat_lit 1) (nat_lit 1) [(.int .i64 (.ofNat (nat_lit 0)))] [((nat_lit 0), (.const (.int .i64 (.negSucc (nat_lit 21599)))))])⟩,
  ⟨(some (nat_lit 96)), (some ((nat_lit 93), true)), .call (.func (nat_lit 28)) [(.tmp (nat_lit 94)), (.tmp (nat_lit 95))]⟩,
  ⟨(some (nat_lit 97)), none, .simple (.pick (.tmp (nat_lit 93)) (.tmp (nat_lit 96)) (.const (.bool false)))⟩,
  ⟨(some (nat_lit 98)), none, .simple (.move (.tmp (nat_lit 97)))⟩,
  ⟨(some (nat_lit 99)), (some ((nat_lit 98), true)), .simple (.move (.tmp (nat_lit 11)))⟩,
  ⟨(some (nat_lit 100)), (some ((nat_lit 98), true)), .simple (.bin .eql (.tmp (nat_lit 99)) (.const (.int .i64 (.ofNat (nat_lit 0)))))⟩,
  ⟨(some (nat_lit 101)), none, .simple (.pick (.tmp (nat_lit 98)) (.tmp (nat_lit 100)) (.const (.bool false)))⟩,
  ⟨(some (nat_lit 102)), none, .simple (.move (.tmp (nat_lit 101)))⟩,
  ⟨(some (nat_lit 103)), (some ((nat_lit 102), true)), .simple (.move (.tmp (nat_lit 10)))⟩,
  ⟨(some (nat_lit 104)), (some ((nat_lit 102), true)), .simple (.bslice false (nat_lit 3) (nat_lit 1) (nat_lit 2) [(.int .i64 (.ofNat (nat_lit 0))), (.int .i64 (.ofNat (nat_lit 0)))] [((nat_lit 0), (.const (.int .i64 (.ofNat (nat_lit 32400))))), ((nat_lit 1), (.const (.int .i64 (.ofNat (nat_lit 21600)))))])⟩,
  ⟨(some (nat_lit 105)), (some ((nat_lit 102), true)), .call (.func (nat_lit 28)) [(.tmp (nat_lit 103)), (.tmp (nat_lit 104))]⟩,
  ⟨(some (nat_lit 106)), none, .simple (.pick (.tmp (nat_lit 102)) (.tmp (nat_lit 105)) (.const (.bool false)))⟩,
  ⟨(some (nat_lit 107)), none, .simple (.move (.tmp (nat_lit 106)))⟩,
  ⟨(some (nat_lit 108)), (some ((nat_lit 107), true)), .simple (.move (.tmp (nat_lit 15)))⟩,
  ⟨(some (nat_lit 109)), (some ((nat_lit 107), true)), .simple (.bin .eql (.tmp (nat_lit 108)) (.const (.int .i64 (.ofNat (nat_lit 0)))))⟩,
  ⟨(some (nat_lit 110)), none, .simple (.pick (.tmp (nat_lit 107)) (.tmp (nat_lit 109)) (.const (.bool false)))⟩,
  ⟨(some (nat_lit 111)), none, .simple (.move (.tmp (nat_lit 110)))⟩,
  ⟨(some (nat_lit 112)), (some ((nat_lit 111), true)), .simple (.move (.tmp (nat_lit 12)))⟩,
  ⟨(some (nat_lit 113)), (some ((nat_lit 111), true)), .simple (.len (.tmp (nat_lit 112)))⟩,
  ⟨(some (nat_lit 114)), (some ((nat_lit 111), true)), .simple (.bin .eql (.tmp (nat_lit 113)) (.const (.int .i64 (.ofNat (nat_lit 2)))))⟩,
  ⟨(some (nat_lit 115)), none, .simple (.pick (.tmp (nat_lit 111)) (.tmp (nat_lit 114)) (.const (.bool false)))⟩,
  ⟨(some (nat_lit 116)), none, .simple (.move (.tmp (nat_lit 115)))⟩,
  ⟨(some (nat_lit 117)), (some ((nat_lit 116), true)), .simple (.move (.tmp (nat_lit 12)))⟩,
  ⟨(some (nat_lit 118)), (some ((nat_lit 116), true)), .simple (.indexS (nat_lit 2) (.tmp (nat_lit 117)) (.const (.int .i64 (.ofNat (nat_lit 0)))))⟩,
  ⟨(some (nat_lit 119)), (some ((nat_lit 116), true)), .simple (.load (some (nat_lit 2)) (.tmp (nat_lit 118)))⟩,
  ⟨(some (nat_lit 120)), (some ((nat_lit 116), true)), .callx (.func (nat_lit 55)) [(.const (.int .i64 (.ofNat (nat_lit 32400)))), (.const (.int .i64 (.ofNat (nat_lit 54000))))]⟩,
  ⟨(some (nat_lit 121)), (some ((nat_lit 116), true)), .simple (.eqA false [(.int .i64), (.int .i64)] (.tmp (nat_lit 119)) (.tmp (nat_lit 120)))⟩,
  ⟨(some (nat_lit 122)), none, .simple (.pick (.tmp (nat_lit 116)) (.tmp (nat_lit 121)) (.const (.bool false)))⟩,
  ⟨(some (nat_lit 123)), none, .simple (.move (.tmp (nat_lit 122)))⟩,
  ⟨(some (nat_lit 124)), (some ((nat_lit 123), true)), .simple (.move (.tmp (nat_lit 13)))⟩,
  ⟨(some (nat_lit 125)), (some ((nat_lit 123), true)), .simple (.len (.tmp (nat_lit 124)))⟩,
  ⟨(some (nat_lit 126)), (some ((nat_lit 123), true)), .simple (.bin .eql (.tmp (nat_lit 125)) (.const (.int .i64 (.ofNat (nat_lit 1)))))⟩,
  ⟨(some (nat_lit 127)), none, .simple (.pick (.tmp (nat_lit 123)) (.tmp (nat_lit 126)) (.const (.bool false)))⟩,
  ⟨(some (nat_lit 128)), none, .simple (.move (.tmp (nat_lit 127)))⟩,
  ⟨(some (nat_lit 129)), (some ((nat_lit 128), true)), .simple (.move (.tmp (nat_lit 13)))⟩,
  ⟨(some (nat_lit 130)), (some ((nat_lit 128), true)), .simple (.indexS (nat_lit 2) (.tmp (nat_lit 129)) (.const (.int .i64 (.ofNat (nat_lit 0)))))⟩,
  ⟨(some (nat_lit 131)), (some ((nat_lit 128), true)), .simple (.load (some (nat_lit 2)) (.tmp (nat_lit 130)))⟩,
  ⟨(some (nat_lit 132)), (some ((nat_lit 128), true)), .callx (.func (nat_lit 55)) [(.const (.int .i64 (.negSucc (nat_lit 21599)))), (.const (.int .i64 (.ofNat (nat_lit 21600))))]⟩,
  ⟨(some (nat_lit 133)), (some ((nat_lit 128), true)), .simple (.eqA false [(.int .i64), (.int .i64)] (.tmp (nat_lit 131)) (.tmp (nat_lit 132)))⟩,
  ⟨(some (nat_lit 134)), none, .simple (.pick (.tmp (nat_lit 128)) (.tmp (nat_lit 133)) (.const (.bool false)))⟩,
  ⟨(some (nat_lit 135)), none, .simple (.move (.tmp (nat_lit 134)))⟩,
  ⟨(some (nat_lit 136)), (some ((nat_lit 135), true)), .simple (.move (.tmp (nat_lit 14)))⟩,
  ⟨(some (nat_lit 137)), (some ((nat_lit 135), true)), .simple (.len (.tmp (nat_lit 136)))⟩,
  ⟨(some (nat_lit 138)), (some ((nat_lit 135), true)), .simple (.bin .eql (.tmp (nat_lit 137)) (.const (.int .i64 (.ofNat (nat_lit 2)))))⟩,
  ⟨(some (nat_lit 139)), none, .simple (.pick (.tmp (nat_lit 135)) (.tmp (nat_lit 138)) (.const (.bool false)))⟩,
  ⟨(some (nat_lit 140)), none, .simple (.move (.tmp (nat_lit 139)))⟩,
  ⟨(some (nat_lit 141)), (some ((nat_lit 140), true)), .simple (.move (.tmp (nat_lit 14)))⟩,
  ⟨(some (nat_lit 142)), (some ((nat_lit 140), true)), .simple (.indexS (nat_lit 2) (.tmp (nat_lit 141)) (.const (.int .i64 (.ofNat (nat_lit 1)))))⟩,
  ⟨(some (nat_lit 143)), (some ((nat_lit 140), true)), .simple (.load (some (nat_lit 2)) (.tmp (nat_lit 142)))⟩,
  ⟨(some (nat_lit 144)), (some ((nat_lit 140), true)), .callx (.func (nat_lit 55)) [(.const (.int .i64 (.ofNat (nat_lit 0)))), (.const (.int .i64 (.ofNat (nat_lit 21600))))]⟩,
  ⟨(some (nat_lit 145)), (some ((nat_lit 140), true)), .simple (.eqA false [(.int .i64), (.int .i64)] (.tmp (nat_lit 143)) (.tmp (nat_lit 144)))⟩,
  ⟨(some (nat_lit 146)), none, .simple (.pick (.tmp (nat_lit 140)) (.tmp (nat_lit 145)) (.const (.bool false)))⟩,
  ⟨(some (nat_lit 147)), none, .simple (.move (.tmp (nat_lit 146)))⟩,
  ⟨(some (nat_lit 148)), (some ((nat_lit 147), true)), .simple (.move (.tmp (nat_lit 17)))⟩,
  ⟨(some (nat_lit 149)), (some ((nat_lit 147), true)), .simple (.bin .eql (.tmp (nat_lit 148)) (.const (.int .i64 (.ofNat (nat_lit 0)))))⟩,
  ⟨(some (nat_lit 150)), none, .simple (.pick (.tmp (nat_lit 147)) (.tmp (nat_lit 149)) (.const (.bool false)))⟩,
  ⟨(some (nat_lit 151)), none, .simple (.move (.tmp (nat_lit 150)))⟩,
  ⟨(some (nat_lit 152)), (some ((nat_lit 151), true)), .simple (.move (.tmp (nat_lit 16)))⟩,
  ⟨(some (nat_lit 153)), (some ((nat_lit 151), true)), .simple (.bslice false (nat_lit 3) (nat_lit 1) (nat_lit 1) [(.int .i64 (.ofNat (nat_lit 0)))] [((nat_lit 0), (.const (.int .i64 (.ofNat (nat_lit 0)))))])⟩,
  ⟨(some (nat_lit 154)), (some ((nat_lit 151), true)), .call (.func (nat_lit 28)) [(.tmp (nat_lit 152)), (.tmp (nat_lit 153))]⟩,
  ⟨(some (nat_lit 155)), none, .simple (.pick (.tmp (nat_lit 151)) (.tmp (nat_lit 154)) (.const (.bool false)))⟩,
  ⟨(some (nat_lit 0)), none, .simple (.move (.tmp (nat_lit 155)))⟩] (some [(nat_lit 0)]))
.ret)))))))))
theorem k18 : Try.f18.body.bind (compC Try.prog G18) = some c18 := by kernel_rfl
theorem e18 : compRes Try.prog Try.f18.results.toList = some r18 := by kernel_rfl
def F18 : FunX := ⟨false, G18, c18, r18⟩
theorem o18 : FunOk Try.prog 18 F18 := ⟨Try.f18, by kernel_rfl, k18, e18, by kernel_rfl, by kernel_rfl⟩

/-! 19: contango/coupon.Whole; parameters 3, captured 0 -/
def G19 : Cfg := ⟨[(nat_lit 46), (nat_lit 41), (nat_lit 10)], [((nat_lit 0), [(nat_lit 2), (nat_lit 3), (nat_lit 4), (nat_lit 6), (nat_lit 7)]), ((nat_lit 1), [(nat_lit 2), (nat_lit 3), (nat_lit 4), (nat_lit 6), (nat_lit 7), (nat_lit 8), (nat_lit 9)]), ((nat_lit 2), [(nat_lit 2), (nat_lit 3), (nat_lit 4), (nat_lit 6), (nat_lit 7), (nat_lit 8), (nat_lit 9), (nat_lit 20)]), ((nat_lit 3), [(nat_lit 6), (nat_lit 7), (nat_lit 8)]), ((nat_lit 4), [(nat_lit 2), (nat_lit 3), (nat_lit 4), (nat_lit 6), (nat_lit 7), (nat_lit 9), (nat_lit 24)]), ((nat_lit 5), [(nat_lit 6), (nat_lit 7), (nat_lit 8)]), ((nat_lit 6), [(nat_lit 3), (nat_lit 6), (nat_lit 7), (nat_lit 10)]), ((nat_lit 7), [(nat_lit 6), (nat_lit 7), (nat_lit 31), (nat_lit 32), (nat_lit 33)]), ((nat_lit 8), [(nat_lit 6), (nat_lit 7), (nat_lit 31), (nat_lit 32), (nat_lit 33), (nat_lit 34)]), ((nat_lit 9), [(nat_lit 6), (nat_lit 7), (nat_lit 12), (nat_lit 31), (nat_lit 32), (nat_lit 33)]), ((nat_lit 10), [(nat_lit 6), (nat_lit 7), (nat_lit 31), (nat_lit 32), (nat_lit 33)]), ((nat_lit 11), [(nat_lit 6), (nat_lit 7), (nat_lit 31), (nat_lit 32), (nat_lit 33)]), ((nat_lit 12), [(nat_lit 6), (nat_lit 7), (nat_lit 8)])], (nat_lit 50), [((nat_lit 7), [((nat_lit 10), none)])]⟩
def r19 : List CRes := [.tmp (nat_lit 6), .tmp (nat_lit 7), .tmp (nat_lit 8)]
def c19 : CCode :=
(.seq (.region [
  ⟨(some (nat_lit 3)), none, .simple (.box false (.tmp (nat_lit 0)))⟩,
  ⟨(some (nat_lit 4)), none, .simple (.box false (.tmp (nat_lit 1)))⟩,
  ⟨(some (nat_lit 6)), none, .simple (.move (.const (.slice none (nat_lit 0) (nat_lit 0))))⟩,
  ⟨(some (nat_lit 7)), none, .simple (.move (.const (.slice none (nat_lit 0) (nat_lit 0))))⟩,
  ⟨(some (nat_lit 8)), none, .simple (.move (.const (.int .i64 (.ofNat (nat_lit 0)))))⟩] (some [(nat_lit 2), (nat_lit 3), (nat_lit 4), (nat_lit 6), (nat_lit 7)]))
(.seq (.region [
  ⟨(some (nat_lit 14)), none, .simple (.load (some (nat_lit 6)) (.tmp (nat_lit 3)))⟩,
  ⟨(some (nat_lit 15)), none, .simple (.load (some (nat_lit 2)) (.tmp (nat_lit 4)))⟩,
  ⟨(some (nat_lit 16)), none, .call (.func (nat_lit 58)) [(.tmp (nat_lit 14)), (.tmp (nat_lit 15))]⟩,
  ⟨(some (nat_lit 13)), none, .simple (.move (.tmp (nat_lit 16)))⟩,
  ⟨(some (nat_lit 17)), none, .simple (.extract (.tmp (nat_lit 13)) (nat_lit 0))⟩,
  ⟨(some (nat_lit 18)), none, .simple (.extract (.tmp (nat_lit 13)) (nat_lit 1))⟩,
  ⟨(some (nat_lit 9)), none, .simple (.move (.tmp (nat_lit 17)))⟩,
  ⟨(some (nat_lit 8)), none, .simple (.move (.tmp (nat_lit 18)))⟩] (some [(nat_lit 2), (nat_lit 3), (nat_lit 4), (nat_lit 6), (nat_lit 7), (nat_lit 8), (nat_lit 9)]))
(.seq (.seq (.region [
  ⟨(some (nat_lit 19)), none, .simple (.move (.tmp (nat_lit 8)))⟩,
  ⟨(some (nat_lit 20)), none, .simple (.bin .neq (.tmp (nat_lit 19)) (.const (.int .i64 (.ofNat (nat_lit 0)))))⟩] (some [(nat_lit 2), (nat_lit 3), (nat_lit 4), (nat_lit 6), (nat_lit 7), (nat_lit 8), (nat_lit 9), (nat_lit 20)]))
(.cond (.tmp (nat_lit 20))
 (.seq (.region [
   ⟨(some (nat_lit 21)), none, .simple (.move (.tmp (nat_lit 8)))⟩,
   ⟨(some (nat_lit 6)), none, .simple (.move (.const (.slice none (nat_lit 0) (nat_lit 0))))⟩,
   ⟨(some (nat_lit 7)), none, .simple (.move (.const (.slice none (nat_lit 0) (nat_lit 0))))⟩,
   ⟨(some (nat_lit 8)), none, .simple (.move (.tmp (nat_lit 21)))⟩] (some [(nat_lit 6), (nat_lit 7), (nat_lit 8)]))
 .ret)
 .skip))
(.seq (.seq (.region [
  ⟨(some (nat_lit 22)), none, .simple (.move (.tmp (nat_lit 2)))⟩,
  ⟨(some (nat_lit 23)), none, .call (.func (nat_lit 59)) [(.tmp (nat_lit 22))]⟩,
  ⟨(some (nat_lit 24)), none, .simple (.un .not (.tmp (nat_lit 23)))⟩] (some [(nat_lit 2), (nat_lit 3), (nat_lit 4), (nat_lit 6), (nat_lit 7), (nat_lit 9), (nat_lit 24)]))
(.cond (.tmp (nat_lit 24))
 (.seq (.region [
   ⟨(some (nat_lit 6)), none, .simple (.move (.const (.slice none (nat_lit 0) (nat_lit 0))))⟩,
   ⟨(some (nat_lit 7)), none, .simple (.move (.const (.slice none (nat_lit 0) (nat_lit 0))))⟩,
   ⟨(some (nat_lit 8)), none, .simple (.move (.const (.int .i64 (.ofNat (nat_lit 2)))))⟩] (some [(nat_lit 6), (nat_lit 7), (nat_lit 8)]))
 .ret)
 .skip))
(.seq (.region [
  ⟨(some (nat_lit 25)), none, .simple (.move (.tmp (nat_lit 9)))⟩,
  ⟨(some (nat_lit 26)), none, .simple (.load (some (nat_lit 2)) (.tmp (nat_lit 4)))⟩,
  ⟨(some (nat_lit 27)), none, .simple (.move (.tmp (nat_lit 2)))⟩,
  ⟨(some (nat_lit 28)), none, .call (.func (nat_lit 60)) [(.tmp (nat_lit 25)), (.tmp (nat_lit 26)), (.tmp (nat_lit 27))]⟩,
  ⟨(some (nat_lit 10)), none, .simple (.alloc [(.d (.int .i64 (.ofNat (nat_lit 0)))), (.d (.int .i64 (.ofNat (nat_lit 0)))), (.d (.int .i64 (.ofNat (nat_lit 0)))), (.d (.int .i64 (.ofNat (nat_lit 0))))])⟩,
  ⟨none, none, .simple (.store (nat_lit 4) (.tmp (nat_lit 10)) (.tmp (nat_lit 28)))⟩] (some [(nat_lit 3), (nat_lit 6), (nat_lit 7), (nat_lit 10)]))
(.seq (.seq (.seq (.frz ((nat_lit 10), none))
(.region [
  ⟨(some (nat_lit 29)), none, .simple (.fieldAddr (nat_lit 0) (.tmp (nat_lit 3)))⟩,
  ⟨(some (nat_lit 30)), none, .simple (.load none (.tmp (nat_lit 29)))⟩,
  ⟨(some (nat_lit 31)), none, .simple (.sliceA (nat_lit 4) (nat_lit 1) (.tmp (nat_lit 10)) none (some (.tmp (nat_lit 30))))⟩,
  ⟨(some (nat_lit 32)), none, .simple (.len (.tmp (nat_lit 31)))⟩,
  ⟨(some (nat_lit 33)), none, .simple (.move (.const (.int .i64 (.ofNat (nat_lit 0)))))⟩] (some [(nat_lit 6), (nat_lit 7), (nat_lit 31), (nat_lit 32), (nat_lit 33)])))
(.block (nat_lit 0) (.loop (.seq (.region [
    ⟨(some (nat_lit 34)), none, .simple (.bin .lss (.tmp (nat_lit 33)) (.tmp (nat_lit 32)))⟩] (some [(nat_lit 6), (nat_lit 7), (nat_lit 31), (nat_lit 32), (nat_lit 33), (nat_lit 34)]))
  (.seq (.cond (.tmp (nat_lit 34))
   .skip
   (.exit (nat_lit 0)))
  (.seq (.block (nat_lit 1) (.seq (.region [
     ⟨(some (nat_lit 35)), none, .simple (.indexS (nat_lit 1) (.tmp (nat_lit 31)) (.tmp (nat_lit 33)))⟩,
     ⟨(some (nat_lit 36)), none, .simple (.load none (.tmp (nat_lit 35)))⟩,
     ⟨(some (nat_lit 12)), none, .simple (.move (.tmp (nat_lit 36)))⟩] (some [(nat_lit 6), (nat_lit 7), (nat_lit 12), (nat_lit 31), (nat_lit 32), (nat_lit 33)]))
   (.region [
     ⟨(some (nat_lit 37)), none, .simple (.move (.tmp (nat_lit 6)))⟩,
     ⟨(some (nat_lit 38)), none, .simple (.move (.tmp (nat_lit 12)))⟩,
     ⟨(some (nat_lit 39)), none, .simple (.bin .quo (.tmp (nat_lit 38)) (.const (.int .i64 (.ofNat (nat_lit 720)))))⟩,
     ⟨(some (nat_lit 40)), none, .simple (.bslice false (nat_lit 3) (nat_lit 1) (nat_lit 1) [(.int .i64 (.ofNat (nat_lit 0)))] [((nat_lit 0), (.tmp (nat_lit 39)))])⟩,
     ⟨(some (nat_lit 41)), none, .app (nat_lit 3) (nat_lit 1) (nat_lit 8) (.tmp (nat_lit 37)) (.tmp (nat_lit 40))⟩,
     ⟨(some (nat_lit 42)), none, .simple (.move (.tmp (nat_lit 7)))⟩,
     ⟨(some (nat_lit 43)), none, .simple (.move (.tmp (nat_lit 12)))⟩,
     ⟨(some (nat_lit 44)), none, .simple (.bin .rem (.tmp (nat_lit 43)) (.const (.int .i64 (.ofNat (nat_lit 720)))))⟩,
     ⟨(some (nat_lit 45)), none, .simple (.bslice false (nat_lit 3) (nat_lit 1) (nat_lit 1) [(.int .i64 (.ofNat (nat_lit 0)))] [((nat_lit 0), (.tmp (nat_lit 44)))])⟩,
     ⟨(some (nat_lit 46)), none, .app (nat_lit 3) (nat_lit 1) (nat_lit 8) (.tmp (nat_lit 42)) (.tmp (nat_lit 45))⟩,
     ⟨(some (nat_lit 6)), none, .simple (.move (.tmp (nat_lit 41)))⟩,
     ⟨(some (nat_lit 7)), none, .simple (.move (.tmp (nat_lit 46)))⟩] (some [(nat_lit 6), (nat_lit 7), (nat_lit 31), (nat_lit 32), (nat_lit 33)]))))
  (.region [
    ⟨(some (nat_lit 47)), none, .simple (.bin .add (.tmp (nat_lit 33)) (.const (.int .i64 (.ofNat (nat_lit 1)))))⟩,
    ⟨(some (nat_lit 33)), none, .simple (.move (.tmp (nat_lit 47)))⟩] (some [(nat_lit 6), (nat_lit 7), (nat_lit 31), (nat_lit 32), (nat_lit 33)]))))))))
(.seq (.region [
  ⟨(some (nat_lit 48)), none, .simple (.move (.tmp (nat_lit 6)))⟩,
  ⟨(some (nat_lit 49)), none, .simple (.move (.tmp (nat_lit 7)))⟩,
  ⟨(some (nat_lit 6)), none, .simple (.move (.tmp (nat_lit 48)))⟩,
  ⟨(some (nat_lit 7)), none, .simple (.move (.tmp (nat_lit 49)))⟩,
  ⟨(some (nat_lit 8)), none, .simple (.move (.const (.int .i64 (.ofNat (nat_lit 0)))))⟩] (some [(nat_lit 6), (nat_lit 7), (nat_lit 8)]))
.ret)))))))
theorem k19 : Try.f19.body.bind (compC Try.prog G19) = some c19 := by kernel_rfl
theorem e19 : compRes Try.prog Try.f19.results.toList = some r19 := by kernel_rfl
def F19 : FunX := ⟨false, G19, c19, r19⟩
theorem o19 : FunOk Try.prog 19 F19 := ⟨Try.f19, by kernel_rfl, k19, e19, by kernel_rfl, by kernel_rfl⟩

/-! 25: contango/coupon.Paid; parameters 3, captured 0 -/
def G25 : Cfg := ⟨[], [((nat_lit 0), [(nat_lit 2), (nat_lit 3), (nat_lit 4)]), ((nat_lit 1), [(nat_lit 6), (nat_lit 7)])], (nat_lit 15), []⟩
def r25 : List CRes := [.tmp (nat_lit 6), .tmp (nat_lit 7)]
def c25 : CCode :=
(.seq (.region [
  ⟨(some (nat_lit 3)), none, .simple (.box false (.tmp (nat_lit 0)))⟩,
  ⟨(some (nat_lit 4)), none, .simple (.box false (.tmp (nat_lit 1)))⟩,
  ⟨(some (nat_lit 6)), none, .simple (.move (.const (.slice none (nat_lit 0) (nat_lit 0))))⟩,
  ⟨(some (nat_lit 7)), none, .simple (.move (.const (.int .i64 (.ofNat (nat_lit 0)))))⟩] (some [(nat_lit 2), (nat_lit 3), (nat_lit 4)]))
(.seq (.region [
  ⟨(some (nat_lit 8)), none, .simple (.build [(.d .nilf)] [((nat_lit 0), (nat_lit 1), (.func (nat_lit 64)))])⟩,
  ⟨(some (nat_lit 9)), none, .simple (.load (some (nat_lit 6)) (.tmp (nat_lit 3)))⟩,
  ⟨(some (nat_lit 10)), none, .simple (.load (some (nat_lit 2)) (.tmp (nat_lit 4)))⟩,
  ⟨(some (nat_lit 11)), none, .simple (.move (.tmp (nat_lit 2)))⟩,
  ⟨(some (nat_lit 12)), none, .call (.func (nat_lit 65)) [(.tmp (nat_lit 8)), (.tmp (nat_lit 9)), (.tmp (nat_lit 10)), (.tmp (nat_lit 11))]⟩,
  ⟨(some (nat_lit 13)), none, .simple (.extract (.tmp (nat_lit 12)) (nat_lit 0))⟩,
  ⟨(some (nat_lit 14)), none, .simple (.extract (.tmp (nat_lit 12)) (nat_lit 1))⟩,
  ⟨(some (nat_lit 6)), none, .simple (.move (.tmp (nat_lit 13)))⟩,
  ⟨(some (nat_lit 7)), none, .simple (.move (.tmp (nat_lit 14)))⟩] (some [(nat_lit 6), (nat_lit 7)]))
.ret))
theorem k25 : Try.f25.body.bind (compC Try.prog G25) = some c25 := by kernel_rfl
theorem e25 : compRes Try.prog Try.f25.results.toList = some r25 := by kernel_rfl
def F25 : FunX := ⟨false, G25, c25, r25⟩
theorem o25 : FunOk Try.prog 25 F25 := ⟨Try.f25, by kernel_rfl, k25, e25, by kernel_rfl, by kernel_rfl⟩

/-! 26: contango/coupon.Claims; parameters 3, captured 0 -/
def G26 : Cfg := ⟨[], [((nat_lit 0), [(nat_lit 2), (nat_lit 3), (nat_lit 4)]), ((nat_lit 1), [(nat_lit 6), (nat_lit 7)])], (nat_lit 15), []⟩
def r26 : List CRes := [.tmp (nat_lit 6), .tmp (nat_lit 7)]
def c26 : CCode :=
(.seq (.region [
  ⟨(some (nat_lit 3)), none, .simple (.box false (.tmp (nat_lit 0)))⟩,
  ⟨(some (nat_lit 4)), none, .simple (.box false (.tmp (nat_lit 1)))⟩,
  ⟨(some (nat_lit 6)), none, .simple (.move (.const (.slice none (nat_lit 0) (nat_lit 0))))⟩,
  ⟨(some (nat_lit 7)), none, .simple (.move (.const (.int .i64 (.ofNat (nat_lit 0)))))⟩] (some [(nat_lit 2), (nat_lit 3), (nat_lit 4)]))
(.seq (.region [
  ⟨(some (nat_lit 8)), none, .simple (.build [(.d .nilf)] [((nat_lit 0), (nat_lit 1), (.func (nat_lit 66)))])⟩,
  ⟨(some (nat_lit 9)), none, .simple (.load (some (nat_lit 6)) (.tmp (nat_lit 3)))⟩,
  ⟨(some (nat_lit 10)), none, .simple (.load (some (nat_lit 2)) (.tmp (nat_lit 4)))⟩,
  ⟨(some (nat_lit 11)), none, .simple (.move (.tmp (nat_lit 2)))⟩,
  ⟨(some (nat_lit 12)), none, .call (.func (nat_lit 65)) [(.tmp (nat_lit 8)), (.tmp (nat_lit 9)), (.tmp (nat_lit 10)), (.tmp (nat_lit 11))]⟩,
  ⟨(some (nat_lit 13)), none, .simple (.extract (.tmp (nat_lit 12)) (nat_lit 0))⟩,
  ⟨(some (nat_lit 14)), none, .simple (.extract (.tmp (nat_lit 12)) (nat_lit 1))⟩,
  ⟨(some (nat_lit 6)), none, .simple (.move (.tmp (nat_lit 13)))⟩,
  ⟨(some (nat_lit 7)), none, .simple (.move (.tmp (nat_lit 14)))⟩] (some [(nat_lit 6), (nat_lit 7)]))
.ret))
theorem k26 : Try.f26.body.bind (compC Try.prog G26) = some c26 := by kernel_rfl
theorem e26 : compRes Try.prog Try.f26.results.toList = some r26 := by kernel_rfl
def F26 : FunX := ⟨false, G26, c26, r26⟩
theorem o26 : FunOk Try.prog 26 F26 := ⟨Try.f26, by kernel_rfl, k26, e26, by kernel_rfl, by kernel_rfl⟩

end Go.Proofs.Ytdnefcjbcieecaa
