import Derived.Test.YtdnefcjbcieecaaCode0
import Derived.Test.YtdnefcjbcieecaaCode1
import Derived.Test.YtdnefcjbcieecaaCode2
import Derived.Test.YtdnefcjbcieecaaCode3
import Derived.Test.YtdnefcjbcieecaaCode4
import Derived.KernelRfl
namespace Go.Proofs.Ytdnefcjbcieecaa
open Go Go.Proofs

def lf (i : Nat) (F : FunX) : TabX := fun n => bif Nat.beq n i then some F else none
def nd (k : Nat) (a b : TabX) : TabX := fun n => bif Nat.ble n k then a n else b n
theorem lf_ok {P : Program} {i : Nat} {F : FunX} (h : FunOk P i F) : TabOk P (lf i F) := by
  intro f F' he
  unfold lf at he
  cases hb : Nat.beq f i with
  | true => rw [hb] at he; cases he; rw [Nat.eq_of_beq_eq_true hb]; exact h
  | false => rw [hb] at he; cases he
theorem nd_ok {P : Program} {k : Nat} {a b : TabX} (ha : TabOk P a) (hb : TabOk P b) : TabOk P (nd k a b) := by
  intro f F' he
  unfold nd at he
  cases hc : Nat.ble f k with
  | true => rw [hc] at he; exact ha f F' he
  | false => rw [hc] at he; exact hb f F' he
def tab : TabX := (nd 85 (nd 59 (nd 33 (nd 25 (nd 18 (nd 14 (lf 14 F14) (lf 18 F18)) (nd 19 (lf 19 F19) (lf 25 F25))) (nd 27 (nd 26 (lf 26 F26) (lf 27 F27)) (nd 28 (lf 28 F28) (lf 33 F33)))) (nd 52 (nd 50 (nd 38 (lf 38 F38) (lf 50 F50)) (nd 51 (lf 51 F51) (lf 52 F52))) (nd 54 (nd 53 (lf 53 F53) (lf 54 F54)) (nd 55 (lf 55 F55) (nd 58 (lf 58 F58) (lf 59 F59)))))) (nd 72 (nd 66 (nd 64 (nd 60 (lf 60 F60) (lf 64 F64)) (nd 65 (lf 65 F65) (lf 66 F66))) (nd 68 (nd 67 (lf 67 F67) (lf 68 F68)) (nd 71 (lf 71 F71) (lf 72 F72)))) (nd 77 (nd 75 (nd 73 (lf 73 F73) (lf 75 F75)) (nd 76 (lf 76 F76) (lf 77 F77))) (nd 82 (nd 78 (lf 78 F78) (lf 82 F82)) (nd 83 (lf 83 F83) (nd 84 (lf 84 F84) (lf 85 F85))))))) (nd 102 (nd 93 (nd 89 (nd 87 (nd 86 (lf 86 F86) (lf 87 F87)) (nd 88 (lf 88 F88) (lf 89 F89))) (nd 91 (nd 90 (lf 90 F90) (lf 91 F91)) (nd 92 (lf 92 F92) (lf 93 F93)))) (nd 97 (nd 95 (nd 94 (lf 94 F94) (lf 95 F95)) (nd 96 (lf 96 F96) (lf 97 F97))) (nd 99 (nd 98 (lf 98 F98) (lf 99 F99)) (nd 100 (lf 100 F100) (nd 101 (lf 101 F101) (lf 102 F102)))))) (nd 111 (nd 106 (nd 104 (nd 103 (lf 103 F103) (lf 104 F104)) (nd 105 (lf 105 F105) (lf 106 F106))) (nd 108 (nd 107 (lf 107 F107) (lf 108 F108)) (nd 109 (lf 109 F109) (nd 110 (lf 110 F110) (lf 111 F111))))) (nd 115 (nd 113 (nd 112 (lf 112 F112) (lf 113 F113)) (nd 114 (lf 114 F114) (lf 115 F115))) (nd 117 (nd 116 (lf 116 F116) (lf 117 F117)) (nd 118 (lf 118 F118) (nd 119 (lf 119 F119) (lf 120 F120))))))))
theorem tab_ok : TabOk Try.prog tab := (nd_ok (nd_ok (nd_ok (nd_ok (nd_ok (nd_ok (lf_ok o14) (lf_ok o18)) (nd_ok (lf_ok o19) (lf_ok o25))) (nd_ok (nd_ok (lf_ok o26) (lf_ok o27)) (nd_ok (lf_ok o28) (lf_ok o33)))) (nd_ok (nd_ok (nd_ok (lf_ok o38) (lf_ok o50)) (nd_ok (lf_ok o51) (lf_ok o52))) (nd_ok (nd_ok (lf_ok o53) (lf_ok o54)) (nd_ok (lf_ok o55) (nd_ok (lf_ok o58) (lf_ok o59)))))) (nd_ok (nd_ok (nd_ok (nd_ok (lf_ok o60) (lf_ok o64)) (nd_ok (lf_ok o65) (lf_ok o66))) (nd_ok (nd_ok (lf_ok o67) (lf_ok o68)) (nd_ok (lf_ok o71) (lf_ok o72)))) (nd_ok (nd_ok (nd_ok (lf_ok o73) (lf_ok o75)) (nd_ok (lf_ok o76) (lf_ok o77))) (nd_ok (nd_ok (lf_ok o78) (lf_ok o82)) (nd_ok (lf_ok o83) (nd_ok (lf_ok o84) (lf_ok o85))))))) (nd_ok (nd_ok (nd_ok (nd_ok (nd_ok (lf_ok o86) (lf_ok o87)) (nd_ok (lf_ok o88) (lf_ok o89))) (nd_ok (nd_ok (lf_ok o90) (lf_ok o91)) (nd_ok (lf_ok o92) (lf_ok o93)))) (nd_ok (nd_ok (nd_ok (lf_ok o94) (lf_ok o95)) (nd_ok (lf_ok o96) (lf_ok o97))) (nd_ok (nd_ok (lf_ok o98) (lf_ok o99)) (nd_ok (lf_ok o100) (nd_ok (lf_ok o101) (lf_ok o102)))))) (nd_ok (nd_ok (nd_ok (nd_ok (lf_ok o103) (lf_ok o104)) (nd_ok (lf_ok o105) (lf_ok o106))) (nd_ok (nd_ok (lf_ok o107) (lf_ok o108)) (nd_ok (lf_ok o109) (nd_ok (lf_ok o110) (lf_ok o111))))) (nd_ok (nd_ok (nd_ok (lf_ok o112) (lf_ok o113)) (nd_ok (lf_ok o114) (lf_ok o115))) (nd_ok (nd_ok (lf_ok o116) (lf_ok o117)) (nd_ok (lf_ok o118) (nd_ok (lf_ok o119) (lf_ok o120))))))))
end Go.Proofs.Ytdnefcjbcieecaa
