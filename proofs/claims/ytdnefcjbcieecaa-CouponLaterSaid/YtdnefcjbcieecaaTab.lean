import Derived.Test.YtdnefcjbcieecaaCode0
import Derived.Test.YtdnefcjbcieecaaCode1
import Derived.Test.YtdnefcjbcieecaaCode2
import Derived.Test.YtdnefcjbcieecaaCode3
import Derived.Test.YtdnefcjbcieecaaCode4
import Derived.KernelRfl
namespace Go.Proofs.Ytdnefcjbcieecaa
open Go Go.Proofs

def lf (i : Nat) (F : FunX) : TabX := fun n => bif Nat.beq n i then some F else none
def nd (k : Nat) (a b : TabX) : TabX := fun n => bif Nat.ble n k then a n else b n
theorem lf_ok {P : Program} {i : Nat} {F : FunX} (h : FunOk P i F) : TabOk P (lf i F) := by
  intro f F' he
  unfold lf at he
  cases hb : Nat.beq f i with
  | true => rw [hb] at he; cases he; rw [Nat.eq_of_beq_eq_true hb]; exact h
  | false => rw [hb] at he; cases he
theorem nd_ok {P : Program} {k : Nat} {a b : TabX} (ha : TabOk P a) (hb : TabOk P b) : TabOk P (nd k a b) := by
  intro f F' he
  unfold nd at he
  cases hc : Nat.ble f k with
  | true => rw [hc] at he; exact ha f F' he
  | false => rw [hc] at he; exact hb f F' he
def tab : TabX := (nd 86 (nd 60 (nd 38 (nd 26 (nd 19 (nd 18 (lf 18 F18) (lf 19 F19)) (nd 25 (lf 25 F25) (lf 26 F26))) (nd 28 (nd 27 (lf 27 F27) (lf 28 F28)) (nd 33 (lf 33 F33) (lf 38 F38)))) (nd 54 (nd 52 (nd 50 (lf 50 F50) (lf 52 F52)) (nd 53 (lf 53 F53) (lf 54 F54))) (nd 58 (nd 55 (lf 55 F55) (lf 58 F58)) (nd 59 (lf 59 F59) (lf 60 F60))))) (nd 73 (nd 67 (nd 65 (nd 64 (lf 64 F64) (lf 65 F65)) (nd 66 (lf 66 F66) (lf 67 F67))) (nd 71 (nd 68 (lf 68 F68) (lf 71 F71)) (nd 72 (lf 72 F72) (lf 73 F73)))) (nd 78 (nd 76 (nd 75 (lf 75 F75) (lf 76 F76)) (nd 77 (lf 77 F77) (lf 78 F78))) (nd 83 (nd 82 (lf 82 F82) (lf 83 F83)) (nd 84 (lf 84 F84) (nd 85 (lf 85 F85) (lf 86 F86))))))) (nd 103 (nd 94 (nd 90 (nd 88 (nd 87 (lf 87 F87) (lf 88 F88)) (nd 89 (lf 89 F89) (lf 90 F90))) (nd 92 (nd 91 (lf 91 F91) (lf 92 F92)) (nd 93 (lf 93 F93) (lf 94 F94)))) (nd 98 (nd 96 (nd 95 (lf 95 F95) (lf 96 F96)) (nd 97 (lf 97 F97) (lf 98 F98))) (nd 100 (nd 99 (lf 99 F99) (lf 100 F100)) (nd 101 (lf 101 F101) (nd 102 (lf 102 F102) (lf 103 F103)))))) (nd 111 (nd 107 (nd 105 (nd 104 (lf 104 F104) (lf 105 F105)) (nd 106 (lf 106 F106) (lf 107 F107))) (nd 109 (nd 108 (lf 108 F108) (lf 109 F109)) (nd 110 (lf 110 F110) (lf 111 F111)))) (nd 115 (nd 113 (nd 112 (lf 112 F112) (lf 113 F113)) (nd 114 (lf 114 F114) (lf 115 F115))) (nd 117 (nd 116 (lf 116 F116) (lf 117 F117)) (nd 118 (lf 118 F118) (nd 119 (lf 119 F119) (lf 120 F120))))))))
theorem tab_ok : TabOk Try.prog tab := (nd_ok (nd_ok (nd_ok (nd_ok (nd_ok (nd_ok (lf_ok o18) (lf_ok o19)) (nd_ok (lf_ok o25) (lf_ok o26))) (nd_ok (nd_ok (lf_ok o27) (lf_ok o28)) (nd_ok (lf_ok o33) (lf_ok o38)))) (nd_ok (nd_ok (nd_ok (lf_ok o50) (lf_ok o52)) (nd_ok (lf_ok o53) (lf_ok o54))) (nd_ok (nd_ok (lf_ok o55) (lf_ok o58)) (nd_ok (lf_ok o59) (lf_ok o60))))) (nd_ok (nd_ok (nd_ok (nd_ok (lf_ok o64) (lf_ok o65)) (nd_ok (lf_ok o66) (lf_ok o67))) (nd_ok (nd_ok (lf_ok o68) (lf_ok o71)) (nd_ok (lf_ok o72) (lf_ok o73)))) (nd_ok (nd_ok (nd_ok (lf_ok o75) (lf_ok o76)) (nd_ok (lf_ok o77) (lf_ok o78))) (nd_ok (nd_ok (lf_ok o82) (lf_ok o83)) (nd_ok (lf_ok o84) (nd_ok (lf_ok o85) (lf_ok o86))))))) (nd_ok (nd_ok (nd_ok (nd_ok (nd_ok (lf_ok o87) (lf_ok o88)) (nd_ok (lf_ok o89) (lf_ok o90))) (nd_ok (nd_ok (lf_ok o91) (lf_ok o92)) (nd_ok (lf_ok o93) (lf_ok o94)))) (nd_ok (nd_ok (nd_ok (lf_ok o95) (lf_ok o96)) (nd_ok (lf_ok o97) (lf_ok o98))) (nd_ok (nd_ok (lf_ok o99) (lf_ok o100)) (nd_ok (lf_ok o101) (nd_ok (lf_ok o102) (lf_ok o103)))))) (nd_ok (nd_ok (nd_ok (nd_ok (lf_ok o104) (lf_ok o105)) (nd_ok (lf_ok o106) (lf_ok o107))) (nd_ok (nd_ok (lf_ok o108) (lf_ok o109)) (nd_ok (lf_ok o110) (lf_ok o111)))) (nd_ok (nd_ok (nd_ok (lf_ok o112) (lf_ok o113)) (nd_ok (lf_ok o114) (lf_ok o115))) (nd_ok (nd_ok (lf_ok o116) (lf_ok o117)) (nd_ok (lf_ok o118) (nd_ok (lf_ok o119) (lf_ok o120))))))))
end Go.Proofs.Ytdnefcjbcieecaa
