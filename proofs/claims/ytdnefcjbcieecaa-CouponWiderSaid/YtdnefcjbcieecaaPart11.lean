/- A part of the proof. -/
import Derived.Test.YtdnefcjbcieecaaPart10
import Derived.Test.YtdnefcjbcieecaaProg
import Derived.KernelRfl
import Derived.ProofKit
import Derived.OpenShut
import Derived.ReadAgain
import Derived.ChangeBook
import Derived.ChangeOld
import Derived.ChangeArms
import Derived.Deep.Slices
set_option linter.unusedVariables false
set_option linter.unusedSimpArgs false
namespace Go.Proofs.Ytdnefcjbcieecaa
open Go Go.Proofs
def G16:Cfg := ⟨[84,81,17,18,19,20],[(0,[0,1,2,3,4,5,6,7]),(1,[0,1,2,3,4,5,6,7,36]),(2,[16]),(3,[0,3,4,5,6,7,17,18]),(4,[0,3,4,5,6,7,17,18,19,20]),(5,[0,3,4,5,6,7,17,18,19,20]),(6,[3,4,5,7,17,18,19,20,21]),(7,[3,4,5,17,18,19,20]),(8,[3,4,5,17,19,75]),(9,[16]),(10,[3,4,5,17,19,79]),(11,[16]),(12,[3,4,5,17,19]),(13,[3,4,5,17,19,22]),(14,[3,4,5,17,19,22,98]),(15,[3,5,17,19,22]),(16,[3,17,19]),(17,[3,17,19,137]),(18,[16]),(19,[17,19,23]),(20,[19,23,24,25,26,27]),(21,[19,24,25,26,27,28,29,30,31]),(22,[24,25,26,27,28,29,30,31,32,33]),(23,[16])],202,[(8,[(20,(some 1))]),(17,[(19,(some 2))])]⟩
def r16:List CRes := [.tmp 16]
def c16:CCode :=
(.seq (.region [
 mB 16 false] (some [0,1,2,3,4,5,6,7]))
(.seq (.seq (.region [
 mV 34 0,
 kL1 35 40 34,
 rs 36 (.un .not (.tmp 35))] (some [0,1,2,3,4,5,6,7,36]))
(.cond (.tmp 36) (.seq (.region [
 ⟨(some 37),none,.call (.func 18) []⟩,
 mV 16 37] (some [16]))
 .ret)
 .skip))
(.seq (.region [
 mV 39 0,
 mV 40 1,
 mV 41 2,
 kL3 42 41 39 40 41,
 mV 38 42,
 rs 43 (.extract (.tmp 38) 0),
 rs 44 (.extract (.tmp 38) 1),
 rs 17 (.alloc [(.d (.int .i64 0)),(.d .nils),(.d .nils),(.d .nils),(.d .nils),(.d .nils)]),
 rs 18 (.alloc [(.d .nils),(.d .nils)]),
 rn (.store 6 (.tmp 17) (.tmp 43)),
 rn (.store 2 (.tmp 18) (.tmp 44))] (some [0,3,4,5,6,7,17,18]))
(.seq (.seq (.region [
 lS 45 6 17] none)
(.both (.seq (.region [
 lS 46 6 17] none) (.both (.region [
 rs 19 (.alloc [(.d (.int .i64 0)),(.d .nils),(.d .nils),(.d .nils),(.d .nils),(.d .nils)]),
 rs 20 (.alloc [(.d (.int .i64 0)),(.d .nils),(.d .nils),(.d .nils),(.d .nils),(.d .nils)]),
 rn (.store 6 (.tmp 19) (.tmp 45)),
 rn (.store 6 (.tmp 20) (.tmp 46))] (some [0,3,4,5,6,7,17,18,19,20])) (.region [
 rs 20 (.alloc [(.d (.int .i64 0)),(.d .nils),(.d .nils),(.d .nils),(.d .nils),(.d .nils)]),
 rs 19 (.alloc [(.d (.int .i64 0)),(.d .nils),(.d .nils),(.d .nils),(.d .nils),(.d .nils)]),
 rn (.store 6 (.tmp 19) (.tmp 45)),
 rn (.store 6 (.tmp 20) (.tmp 46))] (some [0,3,4,5,6,7,17,18,19,20])))) (.seq (.region [
 ] none) (.both (.seq (.region [
 rs 19 (.alloc [(.d (.int .i64 0)),(.d .nils),(.d .nils),(.d .nils),(.d .nils),(.d .nils)])] none) (.both (.region [
 lS 46 6 17,
 rs 20 (.alloc [(.d (.int .i64 0)),(.d .nils),(.d .nils),(.d .nils),(.d .nils),(.d .nils)]),
 rn (.store 6 (.tmp 19) (.tmp 45)),
 rn (.store 6 (.tmp 20) (.tmp 46))] (some [0,3,4,5,6,7,17,18,19,20])) (.seq (.region [
 rs 20 (.alloc [(.d (.int .i64 0)),(.d .nils),(.d .nils),(.d .nils),(.d .nils),(.d .nils)])] none) (.both (.region [
 lS 46 6 17,
 rn (.store 6 (.tmp 19) (.tmp 45)),
 rn (.store 6 (.tmp 20) (.tmp 46))] (some [0,3,4,5,6,7,17,18,19,20])) (.region [
 rn (.store 6 (.tmp 19) (.tmp 45)),
 lS 46 6 17,
 rn (.store 6 (.tmp 20) (.tmp 46))] (some [0,3,4,5,6,7,17,18,19,20])))))) (.seq (.region [
 rs 20 (.alloc [(.d (.int .i64 0)),(.d .nils),(.d .nils),(.d .nils),(.d .nils),(.d .nils)])] none) (.both (.region [
 lS 46 6 17,
 rs 19 (.alloc [(.d (.int .i64 0)),(.d .nils),(.d .nils),(.d .nils),(.d .nils),(.d .nils)]),
 rn (.store 6 (.tmp 19) (.tmp 45)),
 rn (.store 6 (.tmp 20) (.tmp 46))] (some [0,3,4,5,6,7,17,18,19,20])) (.seq (.region [
 rs 19 (.alloc [(.d (.int .i64 0)),(.d .nils),(.d .nils),(.d .nils),(.d .nils),(.d .nils)])] none) (.both (.region [
 lS 46 6 17,
 rn (.store 6 (.tmp 19) (.tmp 45)),
 rn (.store 6 (.tmp 20) (.tmp 46))] (some [0,3,4,5,6,7,17,18,19,20])) (.region [
 rn (.store 6 (.tmp 19) (.tmp 45)),
 lS 46 6 17,
 rn (.store 6 (.tmp 20) (.tmp 46))] (some [0,3,4,5,6,7,17,18,19,20]))))))))))
(.seq (.region [
 fA 47 1 17,
 lD 48 47,
 kL1 49 56 48,
 fA 50 1 20,
 rn (.store 1 (.tmp 50) (.tmp 49))] (some [0,3,4,5,6,7,17,18,19,20]))
(.seq (.region [
 mV 51 6,
 rs 52 (.conv .i64 (.tmp 51)),
 mV 53 0,
 rs 54 (.len (.tmp 53)),
 rs 55 (.bin .rem (.tmp 52) (.tmp 54)),
 mV 21 55] (some [3,4,5,7,17,18,19,20,21]))
(.seq (.region [
 fA 56 1 20,
 lD 57 56,
 mV 58 21,
 fA 59 1 20,
 lD 60 59,
 mV 61 21,
 iX 62 1 60 61,
 lD 63 62,
 mV 64 7,
 rs 65 (.conv .i64 (.tmp 64)),
 rs 66 (.bin .rem (.tmp 65) (ci 30)),
 rs 67 (.bin .add (.tmp 63) (.tmp 66)),
 rs 68 (.min [(ci 100),(.tmp 67)]),
 iX 69 1 57 58,
 rn (.store 1 (.tmp 69) (.tmp 68))] (some [3,4,5,17,18,19,20]))
(.seq (.seq (.seq (.frz (20,(some 1)))
(.region [
 lS 70 6 20,
 lS 72 2 18,
 ⟨(some 71),none,.callx (.func 20) [(.tmp 70)]⟩,
 kL1 73 21 72,
 kL2 74 51 71 73,
 rs 75 (.un .not (.tmp 74))] (some [3,4,5,17,19,75])))
(.cond (.tmp 75) (.seq (.region [
 mB 16 false] (some [16]))
 .ret)
 .skip))
(.seq (.seq (.region [
 fA 76 2 17,
 lD 77 76,
 rs 78 (.len (.tmp 77)),
 rs 79 (.bin .eql (.tmp 78) (ci 0))] (some [3,4,5,17,19,79]))
(.cond (.tmp 79) (.seq (.region [
 ⟨(some 80),none,.call (.func 18) []⟩,
 mV 16 80] (some [16]))
 .ret)
 .skip))
(.seq (.region [
 rs 81 (.bslice true 99 7 0 [] []),
 fA 82 2 17,
 lD 83 82,
 ⟨(some 84),none,.app 99 7 56 (.tmp 81) (.tmp 83)⟩,
 fA 85 2 19,
 rn (.store 1 (.tmp 85) (.tmp 84))] (some [3,4,5,17,19]))
(.seq (.region [
 fA 86 2 19,
 lD 87 86,
 mV 88 4,
 rs 89 (.conv .i64 (.tmp 88)),
 fA 90 2 17,
 lD 91 90,
 rs 92 (.len (.tmp 91)),
 rs 93 (.bin .rem (.tmp 89) (.tmp 92)),
 iX 94 7 87 93,
 fA 95 3 94,
 mV 22 95] (some [3,4,5,17,19,22]))
(.seq (.seq (.region [
 mV 96 5,
 rs 97 (.bin .rem (.tmp 96) (.const (.int .u8 2))),
 rs 98 (.bin .eql (.tmp 97) (.const (.int .u8 1)))] (some [3,4,5,17,19,22,98]))
(.cond (.tmp 98) (.region [
 fA 99 2 19,
 lD 100 99,
 mV 101 4,
 rs 102 (.conv .i64 (.tmp 101)),
 fA 103 2 17,
 lD 104 103,
 rs 105 (.len (.tmp 104)),
 rs 106 (.bin .rem (.tmp 102) (.tmp 105)),
 iX 107 7 100 106,
 fA 108 5 107,
 mV 22 108] (some [3,5,17,19,22]))
 .skip))
(.seq (.region [
 mV 109 22,
 mV 110 22,
 mV 111 22,
 rs 112 (.nilCheck (.tmp 111)),
 fA 113 0 112,
 lD 114 113,
 mV 115 5,
 rs 116 (.conv .i64 (.tmp 115)),
 rs 117 (.bin .quo (.tmp 116) (ci 2)),
 rs 118 (.bin .rem (.tmp 117) (ci 2)),
 rs 119 (.bin .sub (.tmp 114) (.tmp 118)),
 rs 120 (.max [(ci 0),(.tmp 119)]),
 mV 121 22,
 rs 122 (.nilCheck (.tmp 121)),
 fA 123 1 122,
 lD 124 123,
 mV 125 5,
 rs 126 (.conv .i64 (.tmp 125)),
 rs 127 (.bin .quo (.tmp 126) (ci 4)),
 rs 128 (.bin .rem (.tmp 127) (ci 2)),
 rs 129 (.bin .add (.tmp 124) (.tmp 128)),
 rs 130 (.min [(ci 11),(.tmp 129)]),
 rs 131 (.nilCheck (.tmp 109)),
 fA 132 0 131,
 rn (.store 1 (.tmp 132) (.tmp 120)),
 rs 133 (.nilCheck (.tmp 110)),
 fA 134 1 133,
 rn (.store 1 (.tmp 134) (.tmp 130))] (some [3,17,19]))
(.seq (.seq (.seq (.frz (19,(some 2)))
(.region [
 lS 135 6 19,
 kL1 136 34 135,
 rs 137 (.bin .neq (.tmp 136) (ci 0))] (some [3,17,19,137])))
(.cond (.tmp 137) (.seq (.region [
 ⟨(some 138),none,.call (.func 18) []⟩,
 mV 16 138] (some [16]))
 .ret)
 .skip))
(.seq (.region [
 mV 139 3,
 rs 140 (.conv .i64 (.tmp 139)),
 fA 141 3 17,
 lD 142 141,
 rs 143 (.len (.tmp 142)),
 rs 144 (.bin .rem (.tmp 140) (.tmp 143)),
 mV 23 144] (some [17,19,23]))
(.seq (.region [
 lS 146 6 17,
 kL1 147 20 146,
 mV 148 23,
 kL2 149 33 147 148,
 mV 145 149,
 rs 150 (.extract (.tmp 145) 0),
 rs 151 (.extract (.tmp 145) 1),
 rs 152 (.extract (.tmp 145) 2),
 rs 153 (.extract (.tmp 145) 3),
 mV 24 150,
 mV 25 151,
 mV 26 152,
 mV 27 153] (some [19,23,24,25,26,27]))
(.seq (.region [
 lS 155 6 19,
 kL1 156 20 155,
 mV 157 23,
 kL2 158 33 156 157,
 mV 154 158,
 rs 159 (.extract (.tmp 154) 0),
 rs 160 (.extract (.tmp 154) 1),
 rs 161 (.extract (.tmp 154) 2),
 rs 162 (.extract (.tmp 154) 3),
 mV 28 159,
 mV 29 160,
 mV 30 161,
 mV 31 162] (some [19,24,25,26,27,28,29,30,31]))
(.seq (.region [
 lS 164 6 19,
 kL1 165 20 164,
 kL1 166 38 165,
 mV 163 166,
 rs 167 (.extract (.tmp 163) 0),
 rs 168 (.extract (.tmp 163) 1),
 mV 32 167,
 mV 33 168] (some [24,25,26,27,28,29,30,31,32,33]))
(.seq (.region [
 mV 169 27,
 rs 170 (.bin .eql (.tmp 169) (ci 0)),
 mV 171 170,
 qV 172 171 true 31,
 rg 173 171 true (.bin .eql (.tmp 172) (ci 0)),
 pA 174 171 173,
 mV 175 174,
 qV 176 175 true 24,
 qV 177 175 true 28,
 ⟨(some 178),(some (175,true)),.call (.func 57) [(.tmp 176),(.tmp 177)]⟩,
 pA 179 175 178,
 mV 180 179,
 qV 181 180 true 25,
 qV 182 180 true 29,
 ⟨(some 183),(some (180,true)),.call (.func 57) [(.tmp 181),(.tmp 182)]⟩,
 pA 184 180 183,
 mV 185 184,
 qV 186 185 true 26,
 qV 187 185 true 30,
 ⟨(some 188),(some (185,true)),.call (.func 57) [(.tmp 186),(.tmp 187)]⟩,
 pA 189 185 188,
 mV 190 189,
 qV 191 190 true 33,
 rg 192 190 true (.bin .eql (.tmp 191) (ci 0)),
 pA 193 190 192,
 mV 194 193,
 qV 195 194 true 32,
 rg 196 194 true (.len (.tmp 195)),
 rg 197 194 true (.bin .eql (.tmp 196) (ci 0)),
 pA 198 194 197,
 mV 199 198,
 ⟨(some 200),(some (199,true)),.call (.func 18) []⟩,
 pA 201 199 200,
 mV 16 201] (some [16]))
.ret)))))))))))))))))))
theorem k16:Try.f16.body.bind (compC Try.prog G16) = some c16 := by kernel_rfl
theorem e16:compRes Try.prog Try.f16.results.toList = some r16 := by kernel_rfl
def G57:Cfg := ⟨[],[(0,[0,1]),(1,[0,1,10]),(2,[4]),(3,[0,1,5]),(4,[0,1,5,14]),(6,[0,1,5,40]),(7,[4]),(5,[0,1,5]),(8,[4])],41,[]⟩
def r57:List CRes := [.tmp 4]
def c57:CCode :=
(.seq (.region [
 mB 4 false] (some [0,1]))
(.seq (.seq (.region [
 mV 6 0,
 rs 7 (.len (.tmp 6)),
 mV 8 1,
 rs 9 (.len (.tmp 8)),
 rs 10 (.bin .neq (.tmp 7) (.tmp 9))] (some [0,1,10]))
(.cond (.tmp 10) (.seq (.region [
 mB 4 false] (some [4]))
 .ret)
 .skip))
(.seq (.seq (.region [
 mI 5 0] (some [0,1,5]))
(.block 0 (.loop (.seq (.seq (.region [
 mV 11 5,
 mV 12 0,
 rs 13 (.len (.tmp 12)),
 rs 14 (.bin .lss (.tmp 11) (.tmp 13))] (some [0,1,5,14])) (.cond (.tmp 14) .skip (.exit 0))) (.seq (.block 1 (.seq (.region [
 mV 17 0,
 mV 18 5,
 iX 19 2 17 18,
 fA 20 0 19,
 lD 21 20,
 mV 22 1,
 mV 23 5,
 iX 24 2 22 23,
 fA 25 0 24,
 lD 26 25,
 rs 27 (.bin .lss (.tmp 21) (.tmp 26)),
 mV 28 27,
 qV 29 28 false 0,
 qV 30 28 false 5,
 rg 31 28 false (.indexS 2 (.tmp 29) (.tmp 30)),
 qA 32 28 false 1 31,
 qL 33 28 false 32,
 qV 34 28 false 1,
 qV 35 28 false 5,
 rg 36 28 false (.indexS 2 (.tmp 34) (.tmp 35)),
 qA 37 28 false 1 36,
 qL 38 28 false 37,
 rg 39 28 false (.bin .gtr (.tmp 33) (.tmp 38)),
 pO 40 28 39] (some [0,1,5,40])) (.cond (.tmp 40) (.seq (.region [
 mB 4 false] (some [4]))
 .ret)
 .skip))) (.region [
 mV 15 5,
 rs 16 (.bin .add (.tmp 15) (ci 1)),
 mV 5 16] (some [0,1,5])))))))
(.seq (.region [
 mB 4 true] (some [4]))
.ret))))
theorem k57:Try.f57.body.bind (compC Try.prog G57) = some c57 := by kernel_rfl
theorem e57:compRes Try.prog Try.f57.results.toList = some r57 := by kernel_rfl
end Go.Proofs.Ytdnefcjbcieecaa
namespace Go.Proofs.Ytdnefcjbcieecaa
open Go Go.Proofs
noncomputable section
theorem q16:FunIs Try.prog 16 G16 c16 r16 := ⟨Try.f16,Try.func16,k16,e16,by kernel_rfl,by kernel_rfl⟩
theorem q57:FunIs Try.prog 57 G57 c57 r57 := ⟨Try.f57,Try.func57,k57,e57,by kernel_rfl,by kernel_rfl⟩
theorem w57 (a b:List Rng):sx (mkX spNil) c57 [] (doneK r57) (envOf [vsl eR a,vsl eR b]) [] [] =
  Tr.br (Int.ofNat (List.length a) != Int.ofNat (List.length b)) (Tr.done (V.d (D.bool false)) []) (Tr.lp (CCode.at c57 [1,1,0,1,0,0]) [Fr.blk 0,Fr.seq (CCode.at c57 [1,1,1])] [(0,V.d (D.sl false (List.length a) (enc eR a))),(1,V.d (D.sl false (List.length b) (enc eR b))),(5,V.d (D.int .i64 0))] []) := by kernel_rfl
def E57 (a b:List Rng) (k:Nat):Env := [(0,.d (.sl false a.length (enc eR a))),(1,.d (.sl false b.length (enc eR b))),(5,vi k)]
theorem b57 (a b:List Rng) (k:Nat):sx (mkX spNil) (CCode.at c57 [1,1,0,1,0,0]) [] (bodyK r57) (E57 a b k) [] [] =
  let y0_ := ((0:Int) ≤ Int.ofNat k ∧ Int.ofNat k < Int.ofNat (List.length a) ∧ okEl [0,0] (enc eR a) 2 (Int.ofNat k))
  let y1_ := ((0:Int) ≤ Int.ofNat k ∧ Int.ofNat k < Int.ofNat (List.length b) ∧ okEl [0,0] (enc eR b) 2 (Int.ofNat k))
  let y2_ := (decide (Int.ofNat k < Int.ofNat (List.length a)))
  let y3_ := (0,V.d (D.sl false (List.length a) (enc eR a)))
  let y4_ := (1,V.d (D.sl false (List.length b) (enc eR b)))
  Tr.br y2_ (Tr.need y0_ (Tr.need y1_ (Tr.br (decide (cI (enc eR a) 2 (Int.ofNat k) 0 < cI (enc eR b) 2 (Int.ofNat k) 0)) (Tr.done (V.d (D.bool false)) []) (Tr.need y0_ (Tr.need y1_ (Tr.br (decide (cI (enc eR b) 2 (Int.ofNat k) 1 < cI (enc eR a) 2 (Int.ofNat k) 1)) (Tr.done (V.d (D.bool false)) []) (Tr.need (-9223372036854775808 ≤ Int.ofNat k + (1:Int) ∧ Int.ofNat k + (1:Int) ≤ 9223372036854775807) (Tr.leaf CExit.normal [y3_,y4_,(5,V.d (D.int .i64 (Int.ofNat k + (1:Int))))] [])))))))) (Tr.leaf (CExit.exit 0) [y3_,y4_,(5,V.d (D.int .i64 (Int.ofNat k))),(14,V.d (D.bool y2_))] []) := by kernel_rfl
theorem x57 (u0 u1 u2:V) (b:Bool):sS (mkX spNil) (doneK r57) [Fr.blk 0,Fr.seq (CCode.at c57 [1,1,1])] (.exit 0) [(0,u0),(1,u1),(5,u2),(14,vb b)] [] [] =
  Tr.done (V.d (D.bool true)) [] := by kernel_rfl
theorem w56q (a0 a1 a2 a3:Option Blk) (n:Nat) (cs:List D):sx (mkX spNil) c56 [] (doneK r56) (envOf [.d (.sl false n cs)]) [] [a0,a1,a2,a3] =
  Tr.need (0 = 0 ∧ 3 = 3 ∧ 1 = 1 ∧ 0 = 0 * 1 ∧ List.length cs = n * 1 ∧ 0 + n ≤ 140737488355328 ∧ (0 + n) * 8 ≤ 140737488355328) (Tr.done (V.own 4 1 (0 + n)) [a0,a1,a2,a3,some (Blk.row 3 1 1 ([] ++ cs))]) := by kernel_rfl
def ent56q:Ent := fun args h => match args,h with
 | [.d (.sl false n cs)],[a0,a1,a2,a3] => some (cs.length = n ∧ n ≤ 1000000,.own 4 1 n,some [a0,a1,a2,a3,some (.row 3 1 1 cs)])
 | _,_ => none
theorem ent56q_ok:EntOk Try.prog 56 ent56q := by
 intro args h p v h' he hp
 unfold ent56q at he
 split at he
 ·cases he
  refine q56.calls (X := mkX spNil) (spNil_ok _) rfl (w56q _ _ _ _ _ _) ?_
  simp only [holds,Nat.zero_add,List.nil_append,true_and]
  exact ⟨⟨by omega,by omega,by omega⟩,rfl⟩
 ·cases he
theorem y57 (a b:List Rng) (hl:a.length = b.length) (ha:a.length ≤ 1000000) (hw:∀ k:Nat,k < a.length → (lat b (k:Nat)).lo ≤ (lat a (k:Nat)).lo ∧ (lat a (k:Nat)).hi ≤ (lat b (k:Nat)).hi):Yields Try.prog 57 [vsl eR a,vsl eR b] (vb true) := by
 refine q57.yieldsK (X := mkX spNil) (spNil_ok _) rfl rfl rfl (w57 a b) ?_
 simp only [holds,Int.ofNat_eq_natCast,hl,bne_self_eq_false,Bool.false_eq_true,false_imp_iff,true_imp_iff,true_and]
 refine lp_countK (X := mkX spNil) (spNil_ok _) rfl a.length (fun _ => True) (fun k => E57 a b k) (fun _ => []) (by simp only [E57,hl]; rfl) rfl trivial (fun k _ => ⟨rfl,rfl,rfl⟩) ?_
 intro k hk _ Q' hn he
 rw [b57]
 simp only [holds,Int.ofNat_eq_natCast,cI_R0,cI_R1]
 refine ⟨fun e1 => ?_,fun e1 => ?_⟩
 ·have hlt:k < a.length := by have := of_decide_eq_true e1; omega
  have h := hw k hlt
  have z1:0 ≤ (k:Int) ∧ (k:Int) < a.length ∧ okEl [0,0] (enc eR a) 2 (k:Nat) := ⟨by omega,by omega,ok_R (by omega)⟩
  have z2:0 ≤ (k:Int) ∧ (k:Int) < b.length ∧ okEl [0,0] (enc eR b) 2 (k:Nat) := ⟨by omega,by omega,ok_R (by omega)⟩
  have z3:(-9223372036854775808:Int) ≤ (k:Int) + 1 ∧ (k:Int) + 1 ≤ 9223372036854775807 := by omega
  have g1:decide ((lat a (k:Nat)).lo < (lat b (k:Nat)).lo) = false := decide_eq_false (by omega)
  have g2:decide ((lat b (k:Nat)).hi < (lat a (k:Nat)).hi) = false := decide_eq_false (by omega)
  simp only [z1,z2,z3,g1,g2,Bool.false_eq_true,false_imp_iff,true_imp_iff,true_and,and_self]
  exact hn [] hlt trivial
 ·refine he _ _ _ (ret_tree (X := mkX spNil) (R := fun v1 _ => VLe v1 (vb true)) (spNil_ok _) (doneK_ok rfl) (x57 (.d (.sl false a.length (enc eR a))) (.d (.sl false b.length (enc eR b))) (vi k) (decide ((k:Int) < a.length))) ?_)
  exact .refl _
end
end Go.Proofs.Ytdnefcjbcieecaa
namespace Go.Proofs.Ytdnefcjbcieecaa
open Go Go.Proofs
noncomputable section
def H16 (c:Cmp) (t:Tru) (rest:Heap):Heap := [some (.box (Cb6 c (.d (.sl false c.trades.length (enc eT c.trades))))),some (.box [.d (.sl false t.sold.length (enc eI t.sold)),.d (.sl false t.deliv.length (enc eI t.deliv))])] ++ rest
def Cx (c:Cmp):Option Blk := some (.box (Cb6 c (.d (.sl false c.trades.length (enc eT c.trades)))))
def E16 (hl:List Int) (j o r u v:Int) (p:List (Nat × V)):Env := [(0,vsl eI hl),(3,.d (.int .u8 j)),(4,.d (.int .u8 o)),(5,.d (.int .u8 r)),(6,.d (.int .u8 u)),(7,.d (.int .u8 v)),(17,.ptr 0 0 0),(18,.ptr 1 0 0)] ++ p
def Cyb (c:Cmp) (v:V):Option Blk := some (.box [vi c.houses,v,.d (.sl false c.trades.length (enc eT c.trades)),.d (.sl false c.divs.length (enc eV c.divs)),.d (.sl false c.splits.length (enc eS c.splits)),.d (.sl false c.closed.length (enc eR c.closed))])
def Rw4 (l:List Int):Option Blk := some (.row 3 1 1 (enc eI l))
def F16 (j o r:Int) (p:List (Nat × V)):Env := [(3,.d (.int .u8 j)),(4,.d (.int .u8 o)),(5,.d (.int .u8 r))] ++ p
def tab16g:Spec := (spAdd 51 ent51 (spAdd 21 ent21 (spAdd 20 ent20 spNil)))
theorem tab16g_ok:SpOk Try.prog tab16g := (spAdd_ok ent51_ok (spAdd_ok ent21_ok (spAdd_ok ent20_ok (spNil_ok _))))
def X16g:Sx := { mkX tab16g with sfz := true }
end
end Go.Proofs.Ytdnefcjbcieecaa
namespace Go.Proofs.Ytdnefcjbcieecaa
open Go Go.Proofs
noncomputable section
def Cmp.hold (c:Cmp) (h:Nat) (n:Int):Cmp := { c with held := c.held.set h n }
theorem lat_set_le {l:List Int} {h:Nat} {n:Int} (hn:lat l (h:Nat) ≤ n) (k:Nat):lat l (k:Nat) ≤ lat (l.set h n) (k:Nat) := by
 simp only [lat,Int.toNat_natCast,List.getD_eq_getElem?_getD,List.getElem?_set] at hn ⊢
 split
 ·rename_i e
  subst e
  split
  ·simpa using hn
  ·rename_i hlt
   rw [List.getElem?_eq_none (by omega)]
   exact Int.le_refl _
 ·exact Int.le_refl _
theorem moveF_mono {f g:Nat → Int} (h:∀ i,f i ≤ g i) (a b:Nat) (u:Int) (i:Nat):moveF f a b u i ≤ moveF g a b u i := by
 have h1 := h i
 have h2 := h a
 have h3 := h b
 simp only [moveF,setF]
 split <;> split <;> omega
theorem heldA_mono {c:Cmp} (hf:faultM c = 0) {h:Nat} {n:Int} (hn:lat c.held (h:Nat) ≤ n) (j:Int):∀ k i,heldA c j k i ≤ heldA (c.hold h n) j k i
 | 0,_ => Int.le_refl _
 | k + 1,i => by
  have ih := heldA_mono hf hn j k i
  have h1 := lat_set_le hn k
  have h2 := fac_in hf (-1) j
  have e:fac (c.hold h n) (-1) j = fac c (-1) j := rfl
  have e2:(c.hold h n).held = c.held.set h n := rfl
  rw [heldA,heldA,e,e2]
  simp only [setF]
  split
  ·exact Int.mul_le_mul_of_nonneg_right h1 h2.1
  ·exact ih
theorem heldT_mono {c:Cmp} (hf:faultM c = 0) {h:Nat} {n:Int} (hn:lat c.held (h:Nat) ≤ n) (t:Tru) (j:Int):∀ k i,heldT c t j k i ≤ heldT (c.hold h n) t j k i
 | 0,i => by
  have := heldA_mono hf hn j c.held.length i
  have e:(c.hold h n).held.length = c.held.length := by simp [Cmp.hold]
  rw [heldT,heldT,e]
  exact this
 | k + 1,i => by
  have ih := heldT_mono hf hn t j k
  rw [heldT,heldT]
  by_cases hr:isReg c t j k
  ·rw [if_pos hr,if_pos (show isReg (c.hold h n) t j k from hr)]
   exact moveF_mono ih _ _ _ i
  ·rw [if_neg hr,if_neg (show ¬ isReg (c.hold h n) t j k from hr)]
   exact ih i
theorem truth_hold {c:Cmp} (hf:faultM c = 0) {h:Nat} {n:Int} (hn:lat c.held (h:Nat) ≤ n) {t:Tru} (ht:truthB c t = true):truthB (c.hold h n) t = true := by
 simp only [truthB,Bool.and_eq_true] at ht ⊢
 refine ⟨ht.1, ?_⟩
 have h2 := ht.2
 simp only [fitsB,decide_eq_true_eq] at h2 ⊢
 intro j hj i hi
 exact Int.le_trans (h2 j hj i hi) (heldT_mono hf hn t j _ i)
theorem fault_hold {c:Cmp} (hf:faultM c = 0) {h:Nat} {n:Int} (hn:0 ≤ n) (hn2:n ≤ 100):faultM (c.hold h n) = 0 := by
 have H := fault_ok hf
 refine fault_of (c := c.hold h n) ⟨H.1.1,H.1.2.1,(show ((c.held.set h n).length:Int) = c.houses by rw [List.length_set]; exact H.1.2.2.1),H.1.2.2.2⟩ ?_ H.2.2.1 H.2.2.2.1 H.2.2.2.2.1 H.2.2.2.2.2
 show (c.held.set h n).all (Rng.has ⟨0,100⟩) = true
 rw [List.all_eq_true]
 intro x hx
 rcases List.mem_or_eq_of_mem_set hx with hx | hx
 ·exact (List.all_eq_true.1 H.2.1) x hx
 ·rw [hx]; simp [Rng.has,inR]; omega
structure Wid (c:Cmp) (ts:List Trd):Prop where
 len:ts.length = c.trades.length
 same:∀ k,k < c.trades.length → (lat ts (k:Nat)).seller = (lat c.trades (k:Nat)).seller ∧ (lat ts (k:Nat)).buyer = (lat c.trades (k:Nat)).buyer ∧ (lat ts (k:Nat)).shares = (lat c.trades (k:Nat)).shares
 wide:∀ k,k < c.trades.length → (lat ts (k:Nat)).sold.lo ≤ (lat c.trades (k:Nat)).sold.lo ∧ (lat c.trades (k:Nat)).sold.hi ≤ (lat ts (k:Nat)).sold.hi ∧ (lat ts (k:Nat)).deliv.lo ≤ (lat c.trades (k:Nat)).deliv.lo ∧ (lat c.trades (k:Nat)).deliv.hi ≤ (lat ts (k:Nat)).deliv.hi
def Cmp.tr (c:Cmp) (ts:List Trd):Cmp := { c with trades := ts }
theorem heldA_tr (c:Cmp) (ts:List Trd) (j:Int):∀ k,heldA (c.tr ts) j k = heldA c j k
 | 0 => rfl
 | k + 1 => by rw [heldA,heldA,heldA_tr c ts j k]; rfl
section
variable {c:Cmp} {ts:List Trd} (W:Wid c ts)
include W
theorem units_wid (u:Tru) (j:Int) {k:Nat} (hk:k < c.trades.length):unitsT (c.tr ts) u j k = unitsT c u j k := by
 unfold unitsT
 have e:(c.tr ts).trades = ts := rfl
 rw [e,(W.same k hk).2.2]
 rfl
theorem heldT_wid (u:Tru) (j:Int):∀ k,k ≤ c.trades.length → heldT (c.tr ts) u j k = heldT c u j k
 | 0,_ => heldA_tr c ts j _
 | k + 1,hk => by
  have s := W.same k (by omega)
  have e:(c.tr ts).trades = ts := rfl
  rw [heldT,heldT,heldT_wid u j k (by omega),units_wid W u j (show k < c.trades.length by omega),e,s.1,s.2.1]
  rfl
theorem heldF_wid (u:Tru) (j:Int):heldF (c.tr ts) u j = heldF c u j := by
 unfold heldF
 have e:(c.tr ts).trades = ts := rfl
 rw [e,W.len]
 exact heldT_wid W u j _ (Nat.le_refl _)
theorem truth_wid {u:Tru} (hu:truthB c u = true):truthB (c.tr ts) u = true := by
 simp only [truthB,Bool.and_eq_true] at hu ⊢
 constructor
 ·have h := hu.1
  have e:(c.tr ts).trades = ts := rfl
  simp only [datedB,decide_eq_true_eq] at h ⊢
  rw [e,W.len]
  refine ⟨h.1,h.2.1,fun k hk => ?_⟩
  have h3 := h.2.2 k hk
  have w := W.wide k hk
  simp only [datK,Rng.has,inR,Bool.and_eq_true,decide_eq_true_eq] at h3 ⊢
  rw [e]
  omega
 ·have h := hu.2
  simp only [fitsB,decide_eq_true_eq] at h ⊢
  intro j hj i hi
  rw [congrFun (heldF_wid W u (j:Nat)) i]
  exact h j hj i hi
theorem paid_wid (u:Tru) (d:Dvd):paidM (c.tr ts) u d = paidM c u d := by
 have e:rightT (c.tr ts) u d 0 = rightT c u d 0 := by
  show (fun h => d.pence * heldF (c.tr ts) u d.record h) = fun h => d.pence * heldF c u d.record h
  rw [heldF_wid W]
 rw [paid_rl,paid_rl,e]
 rfl
theorem claimK_wid (u:Tru) (d:Dvd) {k:Nat} (hk:k < c.trades.length):claimK (c.tr ts) u d k = claimK c u d k := by
 unfold claimK
 rw [units_wid W u d.record hk]
 rfl
theorem claims_wid (u:Tru) (d:Dvd):claimsM (c.tr ts) u d = claimsM c u d := by
 unfold claimsM claimsK
 have e:(c.tr ts).trades = ts := rfl
 rw [e,W.len]
 refine List.map_congr_left fun k hk => claimK_wid W u d (by simpa using hk)
theorem rightT_wid (u:Tru) (d:Dvd):∀ k,k ≤ c.trades.length → rightT (c.tr ts) u d k = rightT c u d k
 | 0,_ => by
  show (fun h => d.pence * heldF (c.tr ts) u d.record h) = fun h => d.pence * heldF c u d.record h
  rw [heldF_wid W]
 | k + 1,hk => by
  have s := W.same k (by omega)
  have e:(c.tr ts).trades = ts := rfl
  rw [rightT,rightT,rightT_wid u d k (by omega),claimK_wid W u d (by omega),e,s.1,s.2.1]
theorem rights_wid (u:Tru) (d:Dvd):rightsM (c.tr ts) u d = rightsM c u d := by
 unfold rightsM
 have e:(c.tr ts).trades = ts := rfl
 rw [e,W.len,rightT_wid W u d _ (Nat.le_refl _)]
 rfl
theorem wider_law {M:Cmp → Tru → Dvd → List Int} {d:Dvd} {N:Nat} (h1:∀ t,(M c t d).length = N) (hw:∀ t,M (c.tr ts) t d = M c t d) (hne:(truthsP c).isEmpty = false) :
  (bndM M c d).length = N ∧ (bndM M (c.tr ts) d).length = N ∧ ∀ k:Nat,k < N → (lat (bndM M (c.tr ts) d) (k:Nat)).lo ≤ (lat (bndM M c d) (k:Nat)).lo ∧ (lat (bndM M c d) (k:Nat)).hi ≤ (lat (bndM M (c.tr ts) d) (k:Nat)).hi := by
 have hin:∀ u,u ∈ truthsP c → u ∈ truthsP (c.tr ts) := fun u hu => truthsP_mem.2 (truth_wid W (truthsP_mem.1 hu))
 have hne2:(truthsP (c.tr ts)).isEmpty = false := by
  cases hp:truthsP c with
  | nil => rw [hp] at hne; simp at hne
  | cons t l =>
   have := hin t (by rw [hp]; simp)
   cases hq:truthsP (c.tr ts) with
   | nil => rw [hq] at this; simp at this
   | cons => rfl
 have s1 := bndM_span (M := M) (c := c) (d := d) (N := N) (fun t _ => h1 t) hne
 have s2 := bndM_span (M := M) (c := c.tr ts) (d := d) (N := N) (fun t _ => by rw [hw]; exact h1 t) hne2
 refine ⟨s1.1,s2.1,fun k hk => ?_⟩
 obtain ⟨⟨t1,m1,e1⟩,⟨t2,m2,e2⟩,_⟩ := s1.2 k hk
 have a1 := (s2.2 k hk).2.2 t1 (hin _ m1)
 have a2 := (s2.2 k hk).2.2 t2 (hin _ m2)
 simp only [hw] at a1 a2
 simp only at e1 e2
 omega
end
end
end Go.Proofs.Ytdnefcjbcieecaa
namespace Go.Proofs.Ytdnefcjbcieecaa
open Go Go.Proofs
noncomputable section
def tab16h:Spec := spAdd 18 ent18 spNil
def tab16s:Spec := spAdd 34 ent34 (spAdd 18 ent18 spNil)
def widerR (a b:List Rng):Prop := a.length = b.length ∧ a.length ≤ 1000000 ∧ ∀ k:Nat,k < a.length → (lat b (k:Nat)).lo ≤ (lat a (k:Nat)).lo ∧ (lat a (k:Nat)).hi ≤ (lat b (k:Nat)).hi
def ent57w:Ent := fun args _ => match args with
 | [.d (.sl false n cs),.d (.sl false m ds)] => some (enc eR (dec 2 gR n cs) = cs ∧ enc eR (dec 2 gR m ds) = ds ∧ widerR (dec 2 gR n cs) (dec 2 gR m ds),vb true,none)
 | _ => none
theorem ent57w_ok:EntOk Try.prog 57 ent57w := by
 intro args h p v h' he hp
 unfold ent57w at he
 split at he
 ·cases he
  obtain ⟨h1,h2,h3⟩ := hp
  rw [vslR h1,vslR h2]
  exact y57 _ _ h3.1 h3.2.1 h3.2.2 h
 ·cases he
def tab16t:Spec := spAdd 57 ent57w (spAdd 38 ent38t (spAdd 33 ent33 (spAdd 20 ent20 (spAdd 18 ent18 spNil))))
theorem w16ha (c:Cmp) (t:Tru) (j o r:Int) (n1:Nat) (d1:List D) (z:Bool):sx (mkX tab16h) (CCode.at c16 [1,1,1,1,1,1,1,1,0]) [] leafK (F16 j o r [(17,.ptr 0 0 0),(19,.ptr 2 0 0),(75,vb z)]) [] (H16 c t [some (.box (Cb6 c (.d (.sl false c.trades.length (enc eT c.trades))))),Cyb c (.d (.sl false n1 d1)),none]) =
  let x1_ := (List.length (Cmp.trades c))
  let x2_ := (Int.ofNat x1_ == (0:Int))
  let x3_ := (D.int .i64 (Cmp.houses c))
  let x4_ := (D.sl false x1_ (enc eT (Cmp.trades c)))
  let x5_ := (D.sl false (List.length (Cmp.divs c)) (enc eV (Cmp.divs c)))
  let x6_ := (D.sl false (List.length (Cmp.splits c)) (enc eS (Cmp.splits c)))
  let x7_ := (D.sl false (List.length (Cmp.closed c)) (enc eR (Cmp.closed c)))
  let x8_ := (Blk.box [V.d x3_,V.d (D.sl false (List.length (Cmp.held c)) (enc eI (Cmp.held c))),V.d x4_,V.d x5_,V.d x6_,V.d x7_])
  let x9_ := [some x8_,some (Blk.box [V.d (D.sl false (List.length (Tru.sold t)) (enc eI (Tru.sold t))),V.d (D.sl false (List.length (Tru.deliv t)) (enc eI (Tru.deliv t)))]),some x8_,some (Blk.box [V.d x3_,V.d (D.sl false n1 d1),V.d x4_,V.d x5_,V.d x6_,V.d x7_]),none]
  Tr.br x2_ (Tr.need True (Tr.leaf CExit.ret [(16,V.d (D.bool true))] x9_)) (Tr.leaf CExit.normal [(3,V.d (D.int IntKind.u8 j)),(4,V.d (D.int IntKind.u8 o)),(5,V.d (D.int IntKind.u8 r)),(17,V.ptr 0 0 0),(19,V.ptr 2 0 0),(79,V.d (D.bool x2_))] x9_) := by kernel_rfl
theorem w16ia (c:Cmp) (t:Tru) (j o r:Int) (n1:Nat) (d1:List D) (z:V):sx (mkX spNil) (CCode.at c16 [1,1,1,1,1,1,1,1,1,0]) [] leafK (F16 j o r [(17,.ptr 0 0 0),(19,.ptr 2 0 0),(79,z)]) [] (H16 c t [some (.box (Cb6 c (.d (.sl false c.trades.length (enc eT c.trades))))),Cyb c (.d (.sl false n1 d1)),none]) =
  let y0_ := (Cmp.trades c)
  let x1_ := (0 + List.length y0_)
  let x2_ := (D.int .i64 (Cmp.houses c))
  let x3_ := (D.sl false (List.length (Cmp.held c)) (enc eI (Cmp.held c)))
  let x4_ := (D.sl false (List.length y0_) (enc eT y0_))
  let x5_ := (D.sl false (List.length (Cmp.divs c)) (enc eV (Cmp.divs c)))
  let x6_ := (D.sl false (List.length (Cmp.splits c)) (enc eS (Cmp.splits c)))
  let x7_ := (D.sl false (List.length (Cmp.closed c)) (enc eR (Cmp.closed c)))
  Tr.need (0 = 0 ∧ 99 = 99 ∧ 7 = 7 ∧ 0 = 0 * 7 ∧ List.length (enc eT y0_) = List.length y0_ * 7 ∧ 0 + List.length y0_ ≤ 140737488355328 ∧ x1_ * 56 ≤ 140737488355328) (Tr.leaf CExit.normal [(3,V.d (D.int IntKind.u8 j)),(4,V.d (D.int IntKind.u8 o)),(5,V.d (D.int IntKind.u8 r)),(17,V.ptr 0 0 0),(19,V.ptr 2 0 0)] [some (Blk.box [V.d x2_,V.d x3_,V.d x4_,V.d x5_,V.d x6_,V.d x7_]),some (Blk.box [V.d (D.sl false (List.length (Tru.sold t)) (enc eI (Tru.sold t))),V.d (D.sl false (List.length (Tru.deliv t)) (enc eI (Tru.deliv t)))]),some (Blk.box [V.d x2_,V.d x3_,V.own 5 1 x1_,V.d x5_,V.d x6_,V.d x7_]),some (Blk.box [V.d x2_,V.d (D.sl false n1 d1),V.d x4_,V.d x5_,V.d x6_,V.d x7_]),none,some (Blk.row 99 7 1 ([] ++ enc eT y0_))]) := by kernel_rfl
theorem w16ja (c:Cmp) (t:Tru) (j o r:Int) (n1:Nat) (d1:List D) (ts:List Trd):sx (mkX spNil) (CCode.at c16 [1,1,1,1,1,1,1,1,1,1,0]) [] leafK (F16 j o r [(17,.ptr 0 0 0),(19,.ptr 2 0 0)]) [] (H16 c t [some (.box (Cb6 c (.own 5 1 ts.length))),Cyb c (.d (.sl false n1 d1)),none,some (.row 99 7 1 (enc eT ts))]) =
  let x1_ := (List.length (Cmp.trades c))
  let x2_ := (IntKind.wrap IntKind.i64 o)
  let x3_ := (Int.tmod x2_ (Int.ofNat x1_))
  let x4_ := (D.int .i64 (Cmp.houses c))
  let x5_ := (D.sl false (List.length (Cmp.held c)) (enc eI (Cmp.held c)))
  let x6_ := (D.sl false x1_ (enc eT (Cmp.trades c)))
  let x7_ := (D.sl false (List.length (Cmp.divs c)) (enc eV (Cmp.divs c)))
  let x8_ := (D.sl false (List.length (Cmp.splits c)) (enc eS (Cmp.splits c)))
  let x9_ := (D.sl false (List.length (Cmp.closed c)) (enc eR (Cmp.closed c)))
  Tr.need (Int.ofNat x1_ ≠ (0:Int)) (Tr.need (((0:Int) ≤ Int.tmod x2_ (Int.ofNat x1_) ∧ Int.tmod x2_ (Int.ofNat x1_) < Int.ofNat (List.length ts)) ∧ 1 = 1 ∧ Int.toNat x3_ * 7 + 7 ≤ List.length (enc eT ts)) (Tr.leaf CExit.normal [(3,V.d (D.int IntKind.u8 j)),(4,V.d (D.int IntKind.u8 o)),(5,V.d (D.int IntKind.u8 r)),(17,V.ptr 0 0 0),(19,V.ptr 2 0 0),(22,V.ptr 5 1 (Nat.add (Int.toNat x3_ * 7) 3))] [some (Blk.box [V.d x4_,V.d x5_,V.d x6_,V.d x7_,V.d x8_,V.d x9_]),some (Blk.box [V.d (D.sl false (List.length (Tru.sold t)) (enc eI (Tru.sold t))),V.d (D.sl false (List.length (Tru.deliv t)) (enc eI (Tru.deliv t)))]),some (Blk.box [V.d x4_,V.d x5_,V.own 5 1 (List.length ts),V.d x7_,V.d x8_,V.d x9_]),some (Blk.box [V.d x4_,V.d (D.sl false n1 d1),V.d x6_,V.d x7_,V.d x8_,V.d x9_]),none,some (Blk.row 99 7 1 (enc eT ts))])) := by kernel_rfl
theorem w16ka (c:Cmp) (t:Tru) (j o r:Int) (n1:Nat) (d1:List D) (ts:List Trd) (q:Nat):sx (mkX spNil) (CCode.at c16 [1,1,1,1,1,1,1,1,1,1,1,0]) [] leafK (F16 j o r [(17,.ptr 0 0 0),(19,.ptr 2 0 0),(22,.ptr 5 1 q)]) [] (H16 c t [some (.box (Cb6 c (.own 5 1 ts.length))),Cyb c (.d (.sl false n1 d1)),none,some (.row 99 7 1 (enc eT ts))]) =
  let x1_ := (Int.tmod r (2:Int) == (1:Int))
  let x2_ := (List.length (Cmp.trades c))
  let x3_ := (IntKind.wrap IntKind.i64 o)
  let x4_ := (Int.tmod x3_ (Int.ofNat x2_))
  let x5_ := (D.int .i64 (Cmp.houses c))
  let x6_ := (D.sl false (List.length (Cmp.held c)) (enc eI (Cmp.held c)))
  let x7_ := (D.sl false x2_ (enc eT (Cmp.trades c)))
  let x8_ := (D.sl false (List.length (Cmp.divs c)) (enc eV (Cmp.divs c)))
  let x9_ := (D.sl false (List.length (Cmp.splits c)) (enc eS (Cmp.splits c)))
  let x10_ := (D.sl false (List.length (Cmp.closed c)) (enc eR (Cmp.closed c)))
  let x11_ := [some (Blk.box [V.d x5_,V.d x6_,V.d x7_,V.d x8_,V.d x9_,V.d x10_]),some (Blk.box [V.d (D.sl false (List.length (Tru.sold t)) (enc eI (Tru.sold t))),V.d (D.sl false (List.length (Tru.deliv t)) (enc eI (Tru.deliv t)))]),some (Blk.box [V.d x5_,V.d x6_,V.own 5 1 (List.length ts),V.d x8_,V.d x9_,V.d x10_]),some (Blk.box [V.d x5_,V.d (D.sl false n1 d1),V.d x7_,V.d x8_,V.d x9_,V.d x10_]),none,some (Blk.row 99 7 1 (enc eT ts))]
  Tr.need ((2:Int) ≠ (0:Int)) (Tr.br x1_ (Tr.need (Int.ofNat x2_ ≠ (0:Int)) (Tr.need (((0:Int) ≤ Int.tmod x3_ (Int.ofNat x2_) ∧ Int.tmod x3_ (Int.ofNat x2_) < Int.ofNat (List.length ts)) ∧ 1 = 1 ∧ Int.toNat x4_ * 7 + 7 ≤ List.length (enc eT ts)) (Tr.leaf CExit.normal [(3,V.d (D.int IntKind.u8 j)),(5,V.d (D.int IntKind.u8 r)),(17,V.ptr 0 0 0),(19,V.ptr 2 0 0),(22,V.ptr 5 1 (Nat.add (Int.toNat x4_ * 7) 5))] x11_))) (Tr.leaf CExit.normal [(3,V.d (D.int IntKind.u8 j)),(4,V.d (D.int IntKind.u8 o)),(5,V.d (D.int IntKind.u8 r)),(17,V.ptr 0 0 0),(19,V.ptr 2 0 0),(22,V.ptr 5 1 q),(98,V.d (D.bool x1_))] x11_)) := by kernel_rfl
theorem w16la (c:Cmp) (t:Tru) (j o r:Int) (n1:Nat) (d1:List D) (ts:List Trd) (q:Nat):sx (mkX spNil) (CCode.at c16 [1,1,1,1,1,1,1,1,1,1,1,1,0]) [] leafK [(3,.d (.int .u8 j)),(5,.d (.int .u8 r)),(17,.ptr 0 0 0),(19,.ptr 2 0 0),(22,.ptr 5 1 q)] [] (H16 c t [some (.box (Cb6 c (.own 5 1 ts.length))),Cyb c (.d (.sl false n1 d1)),none,some (.row 99 7 1 (enc eT ts))]) =
  let x1_ := (IntKind.wrap IntKind.i64 r)
  let x2_ := (Int.tdiv x1_ (2:Int))
  let x3_ := (Int.tdiv x1_ (4:Int))
  let x4_ := (max2 (0:Int) (dI (enc eT ts) (Nat.add q 0) - Int.tmod x2_ (2:Int)))
  let x5_ := [V.d (D.int .i64 x4_)]
  let x6_ := (min2 (11:Int) (dI (enc eT ts) (Nat.add q 1) + Int.tmod x3_ (2:Int)))
  let x7_ := [V.d (D.int .i64 x6_)]
  let x8_ := (putAt (enc eT ts) (Nat.add q 0) [D.int .i64 x4_])
  let x9_ := (D.int .i64 (Cmp.houses c))
  let x10_ := (D.sl false (List.length (Cmp.held c)) (enc eI (Cmp.held c)))
  let x11_ := (D.sl false (List.length (Cmp.trades c)) (enc eT (Cmp.trades c)))
  let x12_ := (D.sl false (List.length (Cmp.divs c)) (enc eV (Cmp.divs c)))
  let x13_ := (D.sl false (List.length (Cmp.splits c)) (enc eS (Cmp.splits c)))
  let x14_ := (D.sl false (List.length (Cmp.closed c)) (enc eR (Cmp.closed c)))
  let y0_ := ((2:Int) ≠ (0:Int))
  Tr.need (1 = 1 ∧ (enc eT ts)[Nat.add q 0]? = some (D.int .i64 (dI (enc eT ts) (Nat.add q 0)))) (Tr.need y0_ (Tr.need (-9223372036854775808 ≤ Int.tdiv x1_ (2:Int) ∧ Int.tdiv x1_ (2:Int) ≤ 9223372036854775807) (Tr.need y0_ (Tr.need (-9223372036854775808 ≤ dI (enc eT ts) (Nat.add q 0) - Int.tmod x2_ (2:Int) ∧ dI (enc eT ts) (Nat.add q 0) - Int.tmod x2_ (2:Int) ≤ 9223372036854775807) (Tr.need (1 = 1 ∧ (enc eT ts)[Nat.add q 1]? = some (D.int .i64 (dI (enc eT ts) (Nat.add q 1)))) (Tr.need ((4:Int) ≠ (0:Int)) (Tr.need (-9223372036854775808 ≤ Int.tdiv x1_ (4:Int) ∧ Int.tdiv x1_ (4:Int) ≤ 9223372036854775807) (Tr.need y0_ (Tr.need (-9223372036854775808 ≤ dI (enc eT ts) (Nat.add q 1) + Int.tmod x3_ (2:Int) ∧ dI (enc eT ts) (Nat.add q 1) + Int.tmod x3_ (2:Int) ≤ 9223372036854775807) (Tr.need (1 = 1 ∧ Nat.add q 0 + List.length x5_ ≤ List.length (enc eT ts) ∧ List.length x5_ = 1) (Tr.need (1 = 1 ∧ Nat.add q 1 + List.length x7_ ≤ List.length x8_ ∧ List.length x7_ = 1) (Tr.leaf CExit.normal [(3,V.d (D.int IntKind.u8 j)),(17,V.ptr 0 0 0),(19,V.ptr 2 0 0)] [some (Blk.box [V.d x9_,V.d x10_,V.d x11_,V.d x12_,V.d x13_,V.d x14_]),some (Blk.box [V.d (D.sl false (List.length (Tru.sold t)) (enc eI (Tru.sold t))),V.d (D.sl false (List.length (Tru.deliv t)) (enc eI (Tru.deliv t)))]),some (Blk.box [V.d x9_,V.d x10_,V.own 5 1 (List.length ts),V.d x12_,V.d x13_,V.d x14_]),some (Blk.box [V.d x9_,V.d (D.sl false n1 d1),V.d x11_,V.d x12_,V.d x13_,V.d x14_]),none,some (Blk.row 99 7 1 (putAt x8_ (Nat.add q 1) [D.int .i64 x6_]))])))))))))))) := by kernel_rfl
theorem w16La (c:Cmp) (t:Tru) (j o r:Int) (n1:Nat) (d1:List D) (ts:List Trd) (q:Nat) (z:Bool):sx (mkX spNil) (CCode.at c16 [1,1,1,1,1,1,1,1,1,1,1,1,0]) [] leafK (F16 j o r [(17,.ptr 0 0 0),(19,.ptr 2 0 0),(22,.ptr 5 1 q),(98,vb z)]) [] (H16 c t [some (.box (Cb6 c (.own 5 1 ts.length))),Cyb c (.d (.sl false n1 d1)),none,some (.row 99 7 1 (enc eT ts))]) =
  let x1_ := (IntKind.wrap IntKind.i64 r)
  let x2_ := (Int.tdiv x1_ (2:Int))
  let x3_ := (Int.tdiv x1_ (4:Int))
  let x4_ := (max2 (0:Int) (dI (enc eT ts) (Nat.add q 0) - Int.tmod x2_ (2:Int)))
  let x5_ := [V.d (D.int .i64 x4_)]
  let x6_ := (min2 (11:Int) (dI (enc eT ts) (Nat.add q 1) + Int.tmod x3_ (2:Int)))
  let x7_ := [V.d (D.int .i64 x6_)]
  let x8_ := (putAt (enc eT ts) (Nat.add q 0) [D.int .i64 x4_])
  let x9_ := (D.int .i64 (Cmp.houses c))
  let x10_ := (D.sl false (List.length (Cmp.held c)) (enc eI (Cmp.held c)))
  let x11_ := (D.sl false (List.length (Cmp.trades c)) (enc eT (Cmp.trades c)))
  let x12_ := (D.sl false (List.length (Cmp.divs c)) (enc eV (Cmp.divs c)))
  let x13_ := (D.sl false (List.length (Cmp.splits c)) (enc eS (Cmp.splits c)))
  let x14_ := (D.sl false (List.length (Cmp.closed c)) (enc eR (Cmp.closed c)))
  let y0_ := ((2:Int) ≠ (0:Int))
  Tr.need (1 = 1 ∧ (enc eT ts)[Nat.add q 0]? = some (D.int .i64 (dI (enc eT ts) (Nat.add q 0)))) (Tr.need y0_ (Tr.need (-9223372036854775808 ≤ Int.tdiv x1_ (2:Int) ∧ Int.tdiv x1_ (2:Int) ≤ 9223372036854775807) (Tr.need y0_ (Tr.need (-9223372036854775808 ≤ dI (enc eT ts) (Nat.add q 0) - Int.tmod x2_ (2:Int) ∧ dI (enc eT ts) (Nat.add q 0) - Int.tmod x2_ (2:Int) ≤ 9223372036854775807) (Tr.need (1 = 1 ∧ (enc eT ts)[Nat.add q 1]? = some (D.int .i64 (dI (enc eT ts) (Nat.add q 1)))) (Tr.need ((4:Int) ≠ (0:Int)) (Tr.need (-9223372036854775808 ≤ Int.tdiv x1_ (4:Int) ∧ Int.tdiv x1_ (4:Int) ≤ 9223372036854775807) (Tr.need y0_ (Tr.need (-9223372036854775808 ≤ dI (enc eT ts) (Nat.add q 1) + Int.tmod x3_ (2:Int) ∧ dI (enc eT ts) (Nat.add q 1) + Int.tmod x3_ (2:Int) ≤ 9223372036854775807) (Tr.need (1 = 1 ∧ Nat.add q 0 + List.length x5_ ≤ List.length (enc eT ts) ∧ List.length x5_ = 1) (Tr.need (1 = 1 ∧ Nat.add q 1 + List.length x7_ ≤ List.length x8_ ∧ List.length x7_ = 1) (Tr.leaf CExit.normal [(3,V.d (D.int IntKind.u8 j)),(17,V.ptr 0 0 0),(19,V.ptr 2 0 0)] [some (Blk.box [V.d x9_,V.d x10_,V.d x11_,V.d x12_,V.d x13_,V.d x14_]),some (Blk.box [V.d (D.sl false (List.length (Tru.sold t)) (enc eI (Tru.sold t))),V.d (D.sl false (List.length (Tru.deliv t)) (enc eI (Tru.deliv t)))]),some (Blk.box [V.d x9_,V.d x10_,V.own 5 1 (List.length ts),V.d x12_,V.d x13_,V.d x14_]),some (Blk.box [V.d x9_,V.d (D.sl false n1 d1),V.d x11_,V.d x12_,V.d x13_,V.d x14_]),none,some (Blk.row 99 7 1 (putAt x8_ (Nat.add q 1) [D.int .i64 x6_]))])))))))))))) := by kernel_rfl
theorem w16ma (c:Cmp) (t:Tru) (j o r:Int) (n1:Nat) (d1:List D) (ts:List Trd):sx { mkX tab16s with sfz := true } (CCode.at c16 [1,1,1,1,1,1,1,1,1,1,1,1,1,0]) [] leafK [(3,.d (.int .u8 j)),(17,.ptr 0 0 0),(19,.ptr 2 0 0)] [] (H16 c t [some (.box (Cb6 c (.own 5 1 ts.length))),Cyb c (.d (.sl false n1 d1)),none,some (.row 99 7 1 (enc eT ts))]) =
  let x1_ := (List.length (Cmp.held c))
  let x2_ := (List.length (Cmp.divs c))
  let x3_ := (List.length (Cmp.splits c))
  let x4_ := (List.length (Cmp.closed c))
  let x5_ := (dC (Cmp.houses c) x1_ (enc eI (Cmp.held c)) (List.length ts) (enc eT ts) x2_ (enc eV (Cmp.divs c)) x3_ (enc eS (Cmp.splits c)) x4_ (enc eR (Cmp.closed c)))
  let x6_ := (D.int .i64 (Cmp.houses c))
  let x7_ := (D.sl false x1_ (enc eI (Cmp.held c)))
  let x8_ := (D.sl false x2_ (enc eV (Cmp.divs c)))
  let x9_ := (D.sl false x3_ (enc eS (Cmp.splits c)))
  let x10_ := (D.sl false x4_ (enc eR (Cmp.closed c)))
  let x11_ := [V.d x6_,V.d x7_,V.d (D.sl false (List.length ts) (enc eT ts)),V.d x8_,V.d x9_,V.d x10_]
  let x12_ := (faultM x5_ != (0:Int))
  let x13_ := (D.sl false (List.length (Cmp.trades c)) (enc eT (Cmp.trades c)))
  let x14_ := [some (Blk.box [V.d x6_,V.d x7_,V.d x13_,V.d x8_,V.d x9_,V.d x10_]),some (Blk.box [V.d (D.sl false (List.length (Tru.sold t)) (enc eI (Tru.sold t))),V.d (D.sl false (List.length (Tru.deliv t)) (enc eI (Tru.deliv t)))]),some (Blk.box x11_),some (Blk.box [V.d x6_,V.d (D.sl false n1 d1),V.d x13_,V.d x8_,V.d x9_,V.d x10_]),none,none]
  Tr.need (1 = 1) (Tr.need (1 = 1) (Tr.need (Cv x5_ = V.agg x11_ ∧ True) (Tr.br x12_ (Tr.need True (Tr.leaf CExit.ret [(16,V.d (D.bool true))] x14_)) (Tr.leaf CExit.normal [(3,V.d (D.int IntKind.u8 j)),(17,V.ptr 0 0 0),(19,V.ptr 2 0 0),(137,V.d (D.bool x12_))] x14_)))) := by kernel_rfl
theorem w16na (c:Cmp) (t:Tru) (j o r:Int) (n1:Nat) (d1:List D) (ts:List Trd) (z:Bool):sx (mkX tab16t) (CCode.at c16 [1,1,1,1,1,1,1,1,1,1,1,1,1,1]) [] (doneP r16) [(3,.d (.int .u8 j)),(17,.ptr 0 0 0),(19,.ptr 2 0 0),(137,vb z)] [] (H16 c t [some (.box (Cb6 c (.d (.sl false ts.length (enc eT ts))))),Cyb c (.d (.sl false n1 d1)),none,none]) =
  let x1_ := (List.length (Cmp.divs c))
  let x2_ := (List.length (Cmp.held c))
  let x3_ := (List.length (Cmp.splits c))
  let x4_ := (List.length (Cmp.closed c))
  let x5_ := (dC (Cmp.houses c) x2_ (enc eI (Cmp.held c)) (List.length ts) (enc eT ts) x1_ (enc eV (Cmp.divs c)) x3_ (enc eS (Cmp.splits c)) x4_ (enc eR (Cmp.closed c)))
  let x6_ := (Cv x5_ = V.agg [V.d (D.int .i64 (Cmp.houses c)),V.d (D.sl false x2_ (enc eI (Cmp.held c))),V.d (D.sl false (List.length ts) (enc eT ts)),V.d (D.sl false x1_ (enc eV (Cmp.divs c))),V.d (D.sl false x3_ (enc eS (Cmp.splits c))),V.d (D.sl false x4_ (enc eR (Cmp.closed c)))] ∧ small x5_)
  let x7_ := (Int.tmod (IntKind.wrap IntKind.i64 j) (Int.ofNat x1_))
  let x8_ := (bdL paidM (dCe (dCe c)) x7_)
  let x9_ := (dec 2 gR (List.length x8_) (enc eR x8_))
  let x10_ := (bdL paidM (dCe x5_) x7_)
  let x11_ := (dec 2 gR (List.length x10_) (enc eR x10_))
  let x12_ := (bdL claimsM (dCe (dCe c)) x7_)
  let x13_ := (dec 2 gR (List.length x12_) (enc eR x12_))
  let x14_ := (bdL claimsM (dCe x5_) x7_)
  let x15_ := (dec 2 gR (List.length x14_) (enc eR x14_))
  let x16_ := (bdL rightsM (dCe (dCe c)) x7_)
  let x17_ := (dec 2 gR (List.length x16_) (enc eR x16_))
  let x18_ := (bdL rightsM (dCe x5_) x7_)
  let x19_ := (dec 2 gR (List.length x18_) (enc eR x18_))
  let y0_ := (Tr.done (V.d (D.bool false)) [])
  Tr.need (Int.ofNat x1_ ≠ (0:Int)) (Tr.need (Cv (dCe c) = Cv c ∧ small (dCe c)) (Tr.need (Cv (dCe (dCe c)) = Cv (dCe c) ∧ True) (Tr.need x6_ (Tr.need (Cv (dCe x5_) = Cv x5_ ∧ True) (Tr.need x6_ (Tr.need (Cv (dCe x5_) = Cv x5_ ∧ faultM (dCe x5_) = (0:Int) ∧ List.isEmpty (truthsP (dCe x5_)) = false) (Tr.br (bdE (dCe (dCe c)) x7_ == (0:Int)) (Tr.br (bdE (dCe x5_) x7_ == (0:Int)) (Tr.need (enc eR x9_ = enc eR x8_ ∧ enc eR x11_ = enc eR x10_ ∧ widerR x9_ x11_) (Tr.br true (Tr.need (enc eR x13_ = enc eR x12_ ∧ enc eR x15_ = enc eR x14_ ∧ widerR x13_ x15_) (Tr.br true (Tr.need (enc eR x17_ = enc eR x16_ ∧ enc eR x19_ = enc eR x18_ ∧ widerR x17_ x19_) (Tr.br true (Tr.br ((0:Int) == (0:Int)) (Tr.br (Int.ofNat 0 == (0:Int)) (Tr.need True (Tr.done (V.d (D.bool true)) [])) y0_) y0_) y0_)) y0_)) y0_)) y0_) y0_))))))) := by kernel_rfl
theorem w16hb (c:Cmp) (t:Tru) (j o r:Int) (n1:Nat) (d1:List D) (z:Bool):sx (mkX tab16h) (CCode.at c16 [1,1,1,1,1,1,1,1,0]) [] leafK (F16 j o r [(17,.ptr 0 0 0),(19,.ptr 3 0 0),(75,vb z)]) [] (H16 c t [Cyb c (.d (.sl false n1 d1)),some (.box (Cb6 c (.d (.sl false c.trades.length (enc eT c.trades))))),none]) =
  let x1_ := (List.length (Cmp.trades c))
  let x2_ := (Int.ofNat x1_ == (0:Int))
  let x3_ := (D.int .i64 (Cmp.houses c))
  let x4_ := (D.sl false x1_ (enc eT (Cmp.trades c)))
  let x5_ := (D.sl false (List.length (Cmp.divs c)) (enc eV (Cmp.divs c)))
  let x6_ := (D.sl false (List.length (Cmp.splits c)) (enc eS (Cmp.splits c)))
  let x7_ := (D.sl false (List.length (Cmp.closed c)) (enc eR (Cmp.closed c)))
  let x8_ := (Blk.box [V.d x3_,V.d (D.sl false (List.length (Cmp.held c)) (enc eI (Cmp.held c))),V.d x4_,V.d x5_,V.d x6_,V.d x7_])
  let x9_ := [some x8_,some (Blk.box [V.d (D.sl false (List.length (Tru.sold t)) (enc eI (Tru.sold t))),V.d (D.sl false (List.length (Tru.deliv t)) (enc eI (Tru.deliv t)))]),some (Blk.box [V.d x3_,V.d (D.sl false n1 d1),V.d x4_,V.d x5_,V.d x6_,V.d x7_]),some x8_,none]
  Tr.br x2_ (Tr.need True (Tr.leaf CExit.ret [(16,V.d (D.bool true))] x9_)) (Tr.leaf CExit.normal [(3,V.d (D.int IntKind.u8 j)),(4,V.d (D.int IntKind.u8 o)),(5,V.d (D.int IntKind.u8 r)),(17,V.ptr 0 0 0),(19,V.ptr 3 0 0),(79,V.d (D.bool x2_))] x9_) := by kernel_rfl
theorem w16ib (c:Cmp) (t:Tru) (j o r:Int) (n1:Nat) (d1:List D) (z:V):sx (mkX spNil) (CCode.at c16 [1,1,1,1,1,1,1,1,1,0]) [] leafK (F16 j o r [(17,.ptr 0 0 0),(19,.ptr 3 0 0),(79,z)]) [] (H16 c t [Cyb c (.d (.sl false n1 d1)),some (.box (Cb6 c (.d (.sl false c.trades.length (enc eT c.trades))))),none]) =
  let y0_ := (Cmp.trades c)
  let x1_ := (0 + List.length y0_)
  let x2_ := (D.int .i64 (Cmp.houses c))
  let x3_ := (D.sl false (List.length (Cmp.held c)) (enc eI (Cmp.held c)))
  let x4_ := (D.sl false (List.length y0_) (enc eT y0_))
  let x5_ := (D.sl false (List.length (Cmp.divs c)) (enc eV (Cmp.divs c)))
  let x6_ := (D.sl false (List.length (Cmp.splits c)) (enc eS (Cmp.splits c)))
  let x7_ := (D.sl false (List.length (Cmp.closed c)) (enc eR (Cmp.closed c)))
  Tr.need (0 = 0 ∧ 99 = 99 ∧ 7 = 7 ∧ 0 = 0 * 7 ∧ List.length (enc eT y0_) = List.length y0_ * 7 ∧ 0 + List.length y0_ ≤ 140737488355328 ∧ x1_ * 56 ≤ 140737488355328) (Tr.leaf CExit.normal [(3,V.d (D.int IntKind.u8 j)),(4,V.d (D.int IntKind.u8 o)),(5,V.d (D.int IntKind.u8 r)),(17,V.ptr 0 0 0),(19,V.ptr 3 0 0)] [some (Blk.box [V.d x2_,V.d x3_,V.d x4_,V.d x5_,V.d x6_,V.d x7_]),some (Blk.box [V.d (D.sl false (List.length (Tru.sold t)) (enc eI (Tru.sold t))),V.d (D.sl false (List.length (Tru.deliv t)) (enc eI (Tru.deliv t)))]),some (Blk.box [V.d x2_,V.d (D.sl false n1 d1),V.d x4_,V.d x5_,V.d x6_,V.d x7_]),some (Blk.box [V.d x2_,V.d x3_,V.own 5 1 x1_,V.d x5_,V.d x6_,V.d x7_]),none,some (Blk.row 99 7 1 ([] ++ enc eT y0_))]) := by kernel_rfl
theorem w16jb (c:Cmp) (t:Tru) (j o r:Int) (n1:Nat) (d1:List D) (ts:List Trd):sx (mkX spNil) (CCode.at c16 [1,1,1,1,1,1,1,1,1,1,0]) [] leafK (F16 j o r [(17,.ptr 0 0 0),(19,.ptr 3 0 0)]) [] (H16 c t [Cyb c (.d (.sl false n1 d1)),some (.box (Cb6 c (.own 5 1 ts.length))),none,some (.row 99 7 1 (enc eT ts))]) =
  let x1_ := (List.length (Cmp.trades c))
  let x2_ := (IntKind.wrap IntKind.i64 o)
  let x3_ := (Int.tmod x2_ (Int.ofNat x1_))
  let x4_ := (D.int .i64 (Cmp.houses c))
  let x5_ := (D.sl false (List.length (Cmp.held c)) (enc eI (Cmp.held c)))
  let x6_ := (D.sl false x1_ (enc eT (Cmp.trades c)))
  let x7_ := (D.sl false (List.length (Cmp.divs c)) (enc eV (Cmp.divs c)))
  let x8_ := (D.sl false (List.length (Cmp.splits c)) (enc eS (Cmp.splits c)))
  let x9_ := (D.sl false (List.length (Cmp.closed c)) (enc eR (Cmp.closed c)))
  Tr.need (Int.ofNat x1_ ≠ (0:Int)) (Tr.need (((0:Int) ≤ Int.tmod x2_ (Int.ofNat x1_) ∧ Int.tmod x2_ (Int.ofNat x1_) < Int.ofNat (List.length ts)) ∧ 1 = 1 ∧ Int.toNat x3_ * 7 + 7 ≤ List.length (enc eT ts)) (Tr.leaf CExit.normal [(3,V.d (D.int IntKind.u8 j)),(4,V.d (D.int IntKind.u8 o)),(5,V.d (D.int IntKind.u8 r)),(17,V.ptr 0 0 0),(19,V.ptr 3 0 0),(22,V.ptr 5 1 (Nat.add (Int.toNat x3_ * 7) 3))] [some (Blk.box [V.d x4_,V.d x5_,V.d x6_,V.d x7_,V.d x8_,V.d x9_]),some (Blk.box [V.d (D.sl false (List.length (Tru.sold t)) (enc eI (Tru.sold t))),V.d (D.sl false (List.length (Tru.deliv t)) (enc eI (Tru.deliv t)))]),some (Blk.box [V.d x4_,V.d (D.sl false n1 d1),V.d x6_,V.d x7_,V.d x8_,V.d x9_]),some (Blk.box [V.d x4_,V.d x5_,V.own 5 1 (List.length ts),V.d x7_,V.d x8_,V.d x9_]),none,some (Blk.row 99 7 1 (enc eT ts))])) := by kernel_rfl
theorem w16kb (c:Cmp) (t:Tru) (j o r:Int) (n1:Nat) (d1:List D) (ts:List Trd) (q:Nat):sx (mkX spNil) (CCode.at c16 [1,1,1,1,1,1,1,1,1,1,1,0]) [] leafK (F16 j o r [(17,.ptr 0 0 0),(19,.ptr 3 0 0),(22,.ptr 5 1 q)]) [] (H16 c t [Cyb c (.d (.sl false n1 d1)),some (.box (Cb6 c (.own 5 1 ts.length))),none,some (.row 99 7 1 (enc eT ts))]) =
  let x1_ := (Int.tmod r (2:Int) == (1:Int))
  let x2_ := (List.length (Cmp.trades c))
  let x3_ := (IntKind.wrap IntKind.i64 o)
  let x4_ := (Int.tmod x3_ (Int.ofNat x2_))
  let x5_ := (D.int .i64 (Cmp.houses c))
  let x6_ := (D.sl false (List.length (Cmp.held c)) (enc eI (Cmp.held c)))
  let x7_ := (D.sl false x2_ (enc eT (Cmp.trades c)))
  let x8_ := (D.sl false (List.length (Cmp.divs c)) (enc eV (Cmp.divs c)))
  let x9_ := (D.sl false (List.length (Cmp.splits c)) (enc eS (Cmp.splits c)))
  let x10_ := (D.sl false (List.length (Cmp.closed c)) (enc eR (Cmp.closed c)))
  let x11_ := [some (Blk.box [V.d x5_,V.d x6_,V.d x7_,V.d x8_,V.d x9_,V.d x10_]),some (Blk.box [V.d (D.sl false (List.length (Tru.sold t)) (enc eI (Tru.sold t))),V.d (D.sl false (List.length (Tru.deliv t)) (enc eI (Tru.deliv t)))]),some (Blk.box [V.d x5_,V.d (D.sl false n1 d1),V.d x7_,V.d x8_,V.d x9_,V.d x10_]),some (Blk.box [V.d x5_,V.d x6_,V.own 5 1 (List.length ts),V.d x8_,V.d x9_,V.d x10_]),none,some (Blk.row 99 7 1 (enc eT ts))]
  Tr.need ((2:Int) ≠ (0:Int)) (Tr.br x1_ (Tr.need (Int.ofNat x2_ ≠ (0:Int)) (Tr.need (((0:Int) ≤ Int.tmod x3_ (Int.ofNat x2_) ∧ Int.tmod x3_ (Int.ofNat x2_) < Int.ofNat (List.length ts)) ∧ 1 = 1 ∧ Int.toNat x4_ * 7 + 7 ≤ List.length (enc eT ts)) (Tr.leaf CExit.normal [(3,V.d (D.int IntKind.u8 j)),(5,V.d (D.int IntKind.u8 r)),(17,V.ptr 0 0 0),(19,V.ptr 3 0 0),(22,V.ptr 5 1 (Nat.add (Int.toNat x4_ * 7) 5))] x11_))) (Tr.leaf CExit.normal [(3,V.d (D.int IntKind.u8 j)),(4,V.d (D.int IntKind.u8 o)),(5,V.d (D.int IntKind.u8 r)),(17,V.ptr 0 0 0),(19,V.ptr 3 0 0),(22,V.ptr 5 1 q),(98,V.d (D.bool x1_))] x11_)) := by kernel_rfl
theorem w16lb (c:Cmp) (t:Tru) (j o r:Int) (n1:Nat) (d1:List D) (ts:List Trd) (q:Nat):sx (mkX spNil) (CCode.at c16 [1,1,1,1,1,1,1,1,1,1,1,1,0]) [] leafK [(3,.d (.int .u8 j)),(5,.d (.int .u8 r)),(17,.ptr 0 0 0),(19,.ptr 3 0 0),(22,.ptr 5 1 q)] [] (H16 c t [Cyb c (.d (.sl false n1 d1)),some (.box (Cb6 c (.own 5 1 ts.length))),none,some (.row 99 7 1 (enc eT ts))]) =
  let x1_ := (IntKind.wrap IntKind.i64 r)
  let x2_ := (Int.tdiv x1_ (2:Int))
  let x3_ := (Int.tdiv x1_ (4:Int))
  let x4_ := (max2 (0:Int) (dI (enc eT ts) (Nat.add q 0) - Int.tmod x2_ (2:Int)))
  let x5_ := [V.d (D.int .i64 x4_)]
  let x6_ := (min2 (11:Int) (dI (enc eT ts) (Nat.add q 1) + Int.tmod x3_ (2:Int)))
  let x7_ := [V.d (D.int .i64 x6_)]
  let x8_ := (putAt (enc eT ts) (Nat.add q 0) [D.int .i64 x4_])
  let x9_ := (D.int .i64 (Cmp.houses c))
  let x10_ := (D.sl false (List.length (Cmp.held c)) (enc eI (Cmp.held c)))
  let x11_ := (D.sl false (List.length (Cmp.trades c)) (enc eT (Cmp.trades c)))
  let x12_ := (D.sl false (List.length (Cmp.divs c)) (enc eV (Cmp.divs c)))
  let x13_ := (D.sl false (List.length (Cmp.splits c)) (enc eS (Cmp.splits c)))
  let x14_ := (D.sl false (List.length (Cmp.closed c)) (enc eR (Cmp.closed c)))
  let y0_ := ((2:Int) ≠ (0:Int))
  Tr.need (1 = 1 ∧ (enc eT ts)[Nat.add q 0]? = some (D.int .i64 (dI (enc eT ts) (Nat.add q 0)))) (Tr.need y0_ (Tr.need (-9223372036854775808 ≤ Int.tdiv x1_ (2:Int) ∧ Int.tdiv x1_ (2:Int) ≤ 9223372036854775807) (Tr.need y0_ (Tr.need (-9223372036854775808 ≤ dI (enc eT ts) (Nat.add q 0) - Int.tmod x2_ (2:Int) ∧ dI (enc eT ts) (Nat.add q 0) - Int.tmod x2_ (2:Int) ≤ 9223372036854775807) (Tr.need (1 = 1 ∧ (enc eT ts)[Nat.add q 1]? = some (D.int .i64 (dI (enc eT ts) (Nat.add q 1)))) (Tr.need ((4:Int) ≠ (0:Int)) (Tr.need (-9223372036854775808 ≤ Int.tdiv x1_ (4:Int) ∧ Int.tdiv x1_ (4:Int) ≤ 9223372036854775807) (Tr.need y0_ (Tr.need (-9223372036854775808 ≤ dI (enc eT ts) (Nat.add q 1) + Int.tmod x3_ (2:Int) ∧ dI (enc eT ts) (Nat.add q 1) + Int.tmod x3_ (2:Int) ≤ 9223372036854775807) (Tr.need (1 = 1 ∧ Nat.add q 0 + List.length x5_ ≤ List.length (enc eT ts) ∧ List.length x5_ = 1) (Tr.need (1 = 1 ∧ Nat.add q 1 + List.length x7_ ≤ List.length x8_ ∧ List.length x7_ = 1) (Tr.leaf CExit.normal [(3,V.d (D.int IntKind.u8 j)),(17,V.ptr 0 0 0),(19,V.ptr 3 0 0)] [some (Blk.box [V.d x9_,V.d x10_,V.d x11_,V.d x12_,V.d x13_,V.d x14_]),some (Blk.box [V.d (D.sl false (List.length (Tru.sold t)) (enc eI (Tru.sold t))),V.d (D.sl false (List.length (Tru.deliv t)) (enc eI (Tru.deliv t)))]),some (Blk.box [V.d x9_,V.d (D.sl false n1 d1),V.d x11_,V.d x12_,V.d x13_,V.d x14_]),some (Blk.box [V.d x9_,V.d x10_,V.own 5 1 (List.length ts),V.d x12_,V.d x13_,V.d x14_]),none,some (Blk.row 99 7 1 (putAt x8_ (Nat.add q 1) [D.int .i64 x6_]))])))))))))))) := by kernel_rfl
theorem w16Lb (c:Cmp) (t:Tru) (j o r:Int) (n1:Nat) (d1:List D) (ts:List Trd) (q:Nat) (z:Bool):sx (mkX spNil) (CCode.at c16 [1,1,1,1,1,1,1,1,1,1,1,1,0]) [] leafK (F16 j o r [(17,.ptr 0 0 0),(19,.ptr 3 0 0),(22,.ptr 5 1 q),(98,vb z)]) [] (H16 c t [Cyb c (.d (.sl false n1 d1)),some (.box (Cb6 c (.own 5 1 ts.length))),none,some (.row 99 7 1 (enc eT ts))]) =
  let x1_ := (IntKind.wrap IntKind.i64 r)
  let x2_ := (Int.tdiv x1_ (2:Int))
  let x3_ := (Int.tdiv x1_ (4:Int))
  let x4_ := (max2 (0:Int) (dI (enc eT ts) (Nat.add q 0) - Int.tmod x2_ (2:Int)))
  let x5_ := [V.d (D.int .i64 x4_)]
  let x6_ := (min2 (11:Int) (dI (enc eT ts) (Nat.add q 1) + Int.tmod x3_ (2:Int)))
  let x7_ := [V.d (D.int .i64 x6_)]
  let x8_ := (putAt (enc eT ts) (Nat.add q 0) [D.int .i64 x4_])
  let x9_ := (D.int .i64 (Cmp.houses c))
  let x10_ := (D.sl false (List.length (Cmp.held c)) (enc eI (Cmp.held c)))
  let x11_ := (D.sl false (List.length (Cmp.trades c)) (enc eT (Cmp.trades c)))
  let x12_ := (D.sl false (List.length (Cmp.divs c)) (enc eV (Cmp.divs c)))
  let x13_ := (D.sl false (List.length (Cmp.splits c)) (enc eS (Cmp.splits c)))
  let x14_ := (D.sl false (List.length (Cmp.closed c)) (enc eR (Cmp.closed c)))
  let y0_ := ((2:Int) ≠ (0:Int))
  Tr.need (1 = 1 ∧ (enc eT ts)[Nat.add q 0]? = some (D.int .i64 (dI (enc eT ts) (Nat.add q 0)))) (Tr.need y0_ (Tr.need (-9223372036854775808 ≤ Int.tdiv x1_ (2:Int) ∧ Int.tdiv x1_ (2:Int) ≤ 9223372036854775807) (Tr.need y0_ (Tr.need (-9223372036854775808 ≤ dI (enc eT ts) (Nat.add q 0) - Int.tmod x2_ (2:Int) ∧ dI (enc eT ts) (Nat.add q 0) - Int.tmod x2_ (2:Int) ≤ 9223372036854775807) (Tr.need (1 = 1 ∧ (enc eT ts)[Nat.add q 1]? = some (D.int .i64 (dI (enc eT ts) (Nat.add q 1)))) (Tr.need ((4:Int) ≠ (0:Int)) (Tr.need (-9223372036854775808 ≤ Int.tdiv x1_ (4:Int) ∧ Int.tdiv x1_ (4:Int) ≤ 9223372036854775807) (Tr.need y0_ (Tr.need (-9223372036854775808 ≤ dI (enc eT ts) (Nat.add q 1) + Int.tmod x3_ (2:Int) ∧ dI (enc eT ts) (Nat.add q 1) + Int.tmod x3_ (2:Int) ≤ 9223372036854775807) (Tr.need (1 = 1 ∧ Nat.add q 0 + List.length x5_ ≤ List.length (enc eT ts) ∧ List.length x5_ = 1) (Tr.need (1 = 1 ∧ Nat.add q 1 + List.length x7_ ≤ List.length x8_ ∧ List.length x7_ = 1) (Tr.leaf CExit.normal [(3,V.d (D.int IntKind.u8 j)),(17,V.ptr 0 0 0),(19,V.ptr 3 0 0)] [some (Blk.box [V.d x9_,V.d x10_,V.d x11_,V.d x12_,V.d x13_,V.d x14_]),some (Blk.box [V.d (D.sl false (List.length (Tru.sold t)) (enc eI (Tru.sold t))),V.d (D.sl false (List.length (Tru.deliv t)) (enc eI (Tru.deliv t)))]),some (Blk.box [V.d x9_,V.d (D.sl false n1 d1),V.d x11_,V.d x12_,V.d x13_,V.d x14_]),some (Blk.box [V.d x9_,V.d x10_,V.own 5 1 (List.length ts),V.d x12_,V.d x13_,V.d x14_]),none,some (Blk.row 99 7 1 (putAt x8_ (Nat.add q 1) [D.int .i64 x6_]))])))))))))))) := by kernel_rfl
theorem w16mb (c:Cmp) (t:Tru) (j o r:Int) (n1:Nat) (d1:List D) (ts:List Trd):sx { mkX tab16s with sfz := true } (CCode.at c16 [1,1,1,1,1,1,1,1,1,1,1,1,1,0]) [] leafK [(3,.d (.int .u8 j)),(17,.ptr 0 0 0),(19,.ptr 3 0 0)] [] (H16 c t [Cyb c (.d (.sl false n1 d1)),some (.box (Cb6 c (.own 5 1 ts.length))),none,some (.row 99 7 1 (enc eT ts))]) =
  let x1_ := (List.length (Cmp.held c))
  let x2_ := (List.length (Cmp.divs c))
  let x3_ := (List.length (Cmp.splits c))
  let x4_ := (List.length (Cmp.closed c))
  let x5_ := (dC (Cmp.houses c) x1_ (enc eI (Cmp.held c)) (List.length ts) (enc eT ts) x2_ (enc eV (Cmp.divs c)) x3_ (enc eS (Cmp.splits c)) x4_ (enc eR (Cmp.closed c)))
  let x6_ := (D.int .i64 (Cmp.houses c))
  let x7_ := (D.sl false x1_ (enc eI (Cmp.held c)))
  let x8_ := (D.sl false x2_ (enc eV (Cmp.divs c)))
  let x9_ := (D.sl false x3_ (enc eS (Cmp.splits c)))
  let x10_ := (D.sl false x4_ (enc eR (Cmp.closed c)))
  let x11_ := [V.d x6_,V.d x7_,V.d (D.sl false (List.length ts) (enc eT ts)),V.d x8_,V.d x9_,V.d x10_]
  let x12_ := (faultM x5_ != (0:Int))
  let x13_ := (D.sl false (List.length (Cmp.trades c)) (enc eT (Cmp.trades c)))
  let x14_ := [some (Blk.box [V.d x6_,V.d x7_,V.d x13_,V.d x8_,V.d x9_,V.d x10_]),some (Blk.box [V.d (D.sl false (List.length (Tru.sold t)) (enc eI (Tru.sold t))),V.d (D.sl false (List.length (Tru.deliv t)) (enc eI (Tru.deliv t)))]),some (Blk.box [V.d x6_,V.d (D.sl false n1 d1),V.d x13_,V.d x8_,V.d x9_,V.d x10_]),some (Blk.box x11_),none,none]
  Tr.need (1 = 1) (Tr.need (1 = 1) (Tr.need (Cv x5_ = V.agg x11_ ∧ True) (Tr.br x12_ (Tr.need True (Tr.leaf CExit.ret [(16,V.d (D.bool true))] x14_)) (Tr.leaf CExit.normal [(3,V.d (D.int IntKind.u8 j)),(17,V.ptr 0 0 0),(19,V.ptr 3 0 0),(137,V.d (D.bool x12_))] x14_)))) := by kernel_rfl
theorem w16nb (c:Cmp) (t:Tru) (j o r:Int) (n1:Nat) (d1:List D) (ts:List Trd) (z:Bool):sx (mkX tab16t) (CCode.at c16 [1,1,1,1,1,1,1,1,1,1,1,1,1,1]) [] (doneP r16) [(3,.d (.int .u8 j)),(17,.ptr 0 0 0),(19,.ptr 3 0 0),(137,vb z)] [] (H16 c t [Cyb c (.d (.sl false n1 d1)),some (.box (Cb6 c (.d (.sl false ts.length (enc eT ts))))),none,none]) =
  let x1_ := (List.length (Cmp.divs c))
  let x2_ := (List.length (Cmp.held c))
  let x3_ := (List.length (Cmp.splits c))
  let x4_ := (List.length (Cmp.closed c))
  let x5_ := (dC (Cmp.houses c) x2_ (enc eI (Cmp.held c)) (List.length ts) (enc eT ts) x1_ (enc eV (Cmp.divs c)) x3_ (enc eS (Cmp.splits c)) x4_ (enc eR (Cmp.closed c)))
  let x6_ := (Cv x5_ = V.agg [V.d (D.int .i64 (Cmp.houses c)),V.d (D.sl false x2_ (enc eI (Cmp.held c))),V.d (D.sl false (List.length ts) (enc eT ts)),V.d (D.sl false x1_ (enc eV (Cmp.divs c))),V.d (D.sl false x3_ (enc eS (Cmp.splits c))),V.d (D.sl false x4_ (enc eR (Cmp.closed c)))] ∧ small x5_)
  let x7_ := (Int.tmod (IntKind.wrap IntKind.i64 j) (Int.ofNat x1_))
  let x8_ := (bdL paidM (dCe (dCe c)) x7_)
  let x9_ := (dec 2 gR (List.length x8_) (enc eR x8_))
  let x10_ := (bdL paidM (dCe x5_) x7_)
  let x11_ := (dec 2 gR (List.length x10_) (enc eR x10_))
  let x12_ := (bdL claimsM (dCe (dCe c)) x7_)
  let x13_ := (dec 2 gR (List.length x12_) (enc eR x12_))
  let x14_ := (bdL claimsM (dCe x5_) x7_)
  let x15_ := (dec 2 gR (List.length x14_) (enc eR x14_))
  let x16_ := (bdL rightsM (dCe (dCe c)) x7_)
  let x17_ := (dec 2 gR (List.length x16_) (enc eR x16_))
  let x18_ := (bdL rightsM (dCe x5_) x7_)
  let x19_ := (dec 2 gR (List.length x18_) (enc eR x18_))
  let y0_ := (Tr.done (V.d (D.bool false)) [])
  Tr.need (Int.ofNat x1_ ≠ (0:Int)) (Tr.need (Cv (dCe c) = Cv c ∧ small (dCe c)) (Tr.need (Cv (dCe (dCe c)) = Cv (dCe c) ∧ True) (Tr.need x6_ (Tr.need (Cv (dCe x5_) = Cv x5_ ∧ True) (Tr.need x6_ (Tr.need (Cv (dCe x5_) = Cv x5_ ∧ faultM (dCe x5_) = (0:Int) ∧ List.isEmpty (truthsP (dCe x5_)) = false) (Tr.br (bdE (dCe (dCe c)) x7_ == (0:Int)) (Tr.br (bdE (dCe x5_) x7_ == (0:Int)) (Tr.need (enc eR x9_ = enc eR x8_ ∧ enc eR x11_ = enc eR x10_ ∧ widerR x9_ x11_) (Tr.br true (Tr.need (enc eR x13_ = enc eR x12_ ∧ enc eR x15_ = enc eR x14_ ∧ widerR x13_ x15_) (Tr.br true (Tr.need (enc eR x17_ = enc eR x16_ ∧ enc eR x19_ = enc eR x18_ ∧ widerR x17_ x19_) (Tr.br true (Tr.br ((0:Int) == (0:Int)) (Tr.br (Int.ofNat 0 == (0:Int)) (Tr.need True (Tr.done (V.d (D.bool true)) [])) y0_) y0_) y0_)) y0_)) y0_)) y0_) y0_))))))) := by kernel_rfl
end
end Go.Proofs.Ytdnefcjbcieecaa
namespace Go.Proofs.Ytdnefcjbcieecaa
open Go Go.Proofs
noncomputable section
def Trd.at (x:Trd) (s:Bool) (r:Rng):Trd := bif s then { x with sold := r } else { x with deliv := r }
def offT (s:Bool):Nat := bif s then 3 else 5
theorem set_T (s:Bool) (a b:Int):∀ (l:List Trd) (i:Nat),i < l.length → ((enc eT l).set (i * 7 + offT s) (.int .i64 a)).set (i * 7 + offT s + 1) (.int .i64 b) = enc eT (l.set i ((lat l (i:Nat)).at s ⟨a,b⟩))
 | [],i,h => by simp at h
 | x :: l,0,_ => by cases s <;> rfl
 | x :: l,i + 1,h => by
  have ih := set_T s a b l i (by simpa using h)
  have e1:(i + 1) * 7 + offT s = (i * 7 + offT s) + 7 := by omega
  have e2:i * 7 + offT s + 7 + 1 = (i * 7 + offT s + 1) + 7 := by omega
  have e3:lat (x :: l) ((i + 1:Nat):Int) = lat l (i:Nat) := by simp [lat]
  have e4:∀ (y:List Trd),enc eT (x :: y) = .int .i64 x.seller :: .int .i64 x.buyer :: .int .i64 x.shares :: .int .i64 x.sold.lo :: .int .i64 x.sold.hi :: .int .i64 x.deliv.lo :: .int .i64 x.deliv.hi :: enc eT y := fun _ => rfl
  rw [e1,e2,e3,List.set_cons_succ,e4,e4, ← ih]
  simp only [List.set_cons_succ]
def rngT (x:Trd) (s:Bool):Rng := bif s then x.sold else x.deliv
theorem get_T (s:Bool) {l:List Trd} {i:Nat} (h:i < l.length):(enc eT l)[i * 7 + offT s]? = some (.int .i64 (rngT (lat l (i:Nat)) s).lo) ∧ (enc eT l)[i * 7 + offT s + 1]? = some (.int .i64 (rngT (lat l (i:Nat)) s).hi) := by
 have e:l[i]? = some (lat l (i:Nat)) := by simp [lat,h]
 have g := fun j hj => enc_get (sz := 7) (f := eT) (fun _ => rfl) l i j hj
 cases s
 ·have a := g 5 (by decide)
  have b := g 6 (by decide)
  rw [e] at a b
  exact ⟨a,b⟩
 ·have a := g 3 (by decide)
  have b := g 4 (by decide)
  rw [e] at a b
  exact ⟨a,b⟩
theorem wid_at (c:Cmp) (s:Bool) {i:Nat} (hi:i < c.trades.length) {a b:Int} (ha:a ≤ (rngT (lat c.trades (i:Nat)) s).lo) (hb:(rngT (lat c.trades (i:Nat)) s).hi ≤ b):Wid c (c.trades.set i ((lat c.trades (i:Nat)).at s ⟨a,b⟩)) := by
 have hl:∀ k:Nat,k < c.trades.length → lat (c.trades.set i ((lat c.trades (i:Nat)).at s ⟨a,b⟩)) (k:Nat) = if k = i then (lat c.trades (i:Nat)).at s ⟨a,b⟩ else lat c.trades (k:Nat) := by
  intro k hk
  simp only [lat,Int.toNat_natCast,List.getD_eq_getElem?_getD,List.getElem?_set]
  by_cases e:i = k
  ·subst e; simp [hi]
  ·rw [if_neg e,if_neg (Ne.symm e)]
 refine ⟨by simp,fun k hk => ?_,fun k hk => ?_⟩
 ·rw [hl k hk]
  split
  ·rename_i e; subst e; cases s <;> exact ⟨rfl,rfl,rfl⟩
  ·exact ⟨rfl,rfl,rfl⟩
 ·rw [hl k hk]
  split
  ·rename_i e
   subst e
   cases s
   ·exact ⟨Int.le_refl _,Int.le_refl _,ha,hb⟩
   ·exact ⟨ha,hb,Int.le_refl _,Int.le_refl _⟩
  ·exact ⟨Int.le_refl _,Int.le_refl _,Int.le_refl _,Int.le_refl _⟩
end
end Go.Proofs.Ytdnefcjbcieecaa
namespace Go.Proofs.Ytdnefcjbcieecaa
open Go Go.Proofs
noncomputable section
abbrev Q16:CExit → Env → Heap → Prop := retQ r16 fun v _ => VLe v (vb true)
theorem tab16t_ok:SpOk Try.prog tab16t := spAdd_ok ent57w_ok (spAdd_ok ent38t_ok (spAdd_ok ent33_ok (spAdd_ok ent20_ok (spAdd_ok ent18_ok (spNil_ok _)))))
theorem tab16s_ok:SpOk Try.prog tab16s := spAdd_ok ent34_ok (spAdd_ok ent18_ok (spNil_ok _))
theorem dC_tr (c:Cmp) (ts:List Trd):dC c.houses c.held.length (enc eI c.held) ts.length (enc eT ts) c.divs.length (enc eV c.divs) c.splits.length (enc eS c.splits) c.closed.length (enc eR c.closed) = c.tr ts := by
 simp only [dC,dec_I,dec_T,dec_V,dec_S,dec_R]; rfl
theorem tr_self (c:Cmp):c.tr c.trades = c := rfl
theorem ne_wid {c:Cmp} {ts:List Trd} (W:Wid c ts) (hne:(truthsP c).isEmpty = false):(truthsP (c.tr ts)).isEmpty = false := by
 cases hp:truthsP c with
 | nil => rw [hp] at hne; simp at hne
 | cons t l =>
  have := truthsP_mem.2 (truth_wid W (truthsP_mem.1 (show t ∈ truthsP c by rw [hp]; simp)))
  cases hq:truthsP (c.tr ts) with
  | nil => rw [hq] at this; simp at this
  | cons => rfl
theorem tl16a {c:Cmp} {t:Tru} {ts:List Trd} {j:Int} {n1:Nat} {d1:List D} (hf:faultM c = 0) (W:Wid c ts) (hne:(truthsP c).isEmpty = false) (hd:0 < c.divs.length) (h0:0 ≤ j) (h1:j ≤ 255) (hx:faultM (c.tr ts) = 0) (z:Bool):wpc Try.prog G16 0 (CCode.at c16 [1,1,1,1,1,1,1,1,1,1,1,1,1,1]) Q16 [(3,.d (.int .u8 j)),(17,.ptr 0 0 0),(19,.ptr 2 0 0),(137,vb z)] (H16 c t [some (.box (Cb6 c (.d (.sl false ts.length (enc eT ts))))),Cyb c (.d (.sl false n1 d1)),none,none]) := by
 have hb := (fault_ok hf).1
 have hb2 := (fault_ok hx).1
 have hwr:IntKind.wrap .i64 j = j := wrap_i64 (by omega) (by omega)
 have hq := wd h0 (show j ≤ 65535 by omega) (n := c.divs.length) (by omega)
 refine sx_sound (X := mkX tab16t) (R := fun v _ => VLe v (vb true)) tab16t_ok _ [] (doneP r16) _ [] _ (doneP_ok rfl) (.nil _) ?_
 rw [w16na c t j 0 0 n1 d1 ts z]
 simp only [holds,Int.ofNat_eq_natCast,dCe,dC_enc,dC_tr,tr_self,hwr,dec_R,true_and,and_true]
 generalize hkk:j.tmod c.divs.length = kk at *
 have hn:inR kk 0 (c.divs.length - 1) = true := by simp only [inR,decide_eq_true_eq]; omega
 have hne2 := ne_wid W hne
 have hn2:inR kk 0 ((c.tr ts).divs.length - 1) = true := hn
 have e:bdE c kk = 0 := by simp [bdE,hf,hn,hne]
 have e' : bdE (c.tr ts) kk = 0 := by simp [bdE,hx,hn2,hne2]
 have e2:∀ M,bdL M c kk = bndM M c (lat c.divs kk) := fun M => by simp [bdL,e]
 have e2' : ∀ M,bdL M (c.tr ts) kk = bndM M (c.tr ts) (lat c.divs kk) := fun M => by
  show (if bdE (c.tr ts) kk = 0 then bndM M (c.tr ts) (lat c.divs kk) else []) = _
  rw [if_pos e']
 have w1 := wider_law W (M := paidM) (d := lat c.divs kk) (N := c.held.length) (fun t => paidM_len _ _ _) (fun t => paid_wid W t _) hne
 have w2 := wider_law W (M := claimsM) (d := lat c.divs kk) (N := c.trades.length) (fun t => claimsM_len _ _ _) (fun t => claims_wid W t _) hne
 have w3 := wider_law W (M := rightsM) (d := lat c.divs kk) (N := c.held.length) (fun t => rightsM_len _ _ _) (fun t => rights_wid W t _) hne
 have r1:widerR (bndM paidM c (lat c.divs kk)) (bndM paidM (c.tr ts) (lat c.divs kk)) := ⟨by rw [w1.1,w1.2.1],by omega,fun k hk => w1.2.2 k (by omega)⟩
 have r2:widerR (bndM claimsM c (lat c.divs kk)) (bndM claimsM (c.tr ts) (lat c.divs kk)) := ⟨by rw [w2.1,w2.2.1],by omega,fun k hk => w2.2.2 k (by omega)⟩
 have r3:widerR (bndM rightsM c (lat c.divs kk)) (bndM rightsM (c.tr ts) (lat c.divs kk)) := ⟨by rw [w3.1,w3.2.1],by omega,fun k hk => w3.2.2 k (by omega)⟩
 have sm1:small c := by unfold small; omega
 have sm2:small (c.tr ts) := by unfold small; omega
 have hcv:Cv (c.tr ts) = V.agg [V.d (D.int .i64 c.houses),V.d (D.sl false c.held.length (enc eI c.held)),V.d (D.sl false ts.length (enc eT ts)),V.d (D.sl false c.divs.length (enc eV c.divs)),V.d (D.sl false c.splits.length (enc eS c.splits)),V.d (D.sl false c.closed.length (enc eR c.closed))] := rfl
 simp only [holds,Int.ofNat_eq_natCast,dCe,dC_enc, ← hcv,dec_R,true_and,and_true,sm1,sm2,hx,hne2,e,e',e2,e2',r1,r2,r3,beq_self_eq_true,true_imp_iff,Bool.true_eq_false,false_imp_iff]
 exact ⟨by omega,fun _ => .refl _,fun h => by simp at h⟩
theorem ft16a {c:Cmp} {t:Tru} {ts:List Trd} {j:Int} {n1:Nat} {d1:List D} (hf:faultM c = 0) (W:Wid c ts) (hne:(truthsP c).isEmpty = false) (hd:0 < c.divs.length) (h0:0 ≤ j) (h1:j ≤ 255):wpc Try.prog G16 0 (.seq (CCode.at c16 [1,1,1,1,1,1,1,1,1,1,1,1,1,0]) (CCode.at c16 [1,1,1,1,1,1,1,1,1,1,1,1,1,1])) Q16 [(3,.d (.int .u8 j)),(17,.ptr 0 0 0),(19,.ptr 2 0 0)] (H16 c t [some (.box (Cb6 c (.own 5 1 ts.length))),Cyb c (.d (.sl false n1 d1)),none,some (.row 99 7 1 (enc eT ts))]) := by
 refine wpc_seq' (wpc_tree (X := { mkX tab16s with sfz := true }) tab16s_ok (w16ma c t j 0 0 n1 d1 ts) ?_)
 have hcv:Cv (c.tr ts) = V.agg [V.d (D.int .i64 c.houses),V.d (D.sl false c.held.length (enc eI c.held)),V.d (D.sl false ts.length (enc eT ts)),V.d (D.sl false c.divs.length (enc eV c.divs)),V.d (D.sl false c.splits.length (enc eS c.splits)),V.d (D.sl false c.closed.length (enc eR c.closed))] := rfl
 simp only [holds,dC_tr,true_and,and_true]
 refine ⟨hcv,fun _ => .refl _,fun h => ?_⟩
 have hx:faultM (c.tr ts) = 0 := by simpa using h
 exact tl16a hf W hne hd h0 h1 hx _
theorem tl16b {c:Cmp} {t:Tru} {ts:List Trd} {j:Int} {n1:Nat} {d1:List D} (hf:faultM c = 0) (W:Wid c ts) (hne:(truthsP c).isEmpty = false) (hd:0 < c.divs.length) (h0:0 ≤ j) (h1:j ≤ 255) (hx:faultM (c.tr ts) = 0) (z:Bool):wpc Try.prog G16 0 (CCode.at c16 [1,1,1,1,1,1,1,1,1,1,1,1,1,1]) Q16 [(3,.d (.int .u8 j)),(17,.ptr 0 0 0),(19,.ptr 3 0 0),(137,vb z)] (H16 c t [Cyb c (.d (.sl false n1 d1)),some (.box (Cb6 c (.d (.sl false ts.length (enc eT ts))))),none,none]) := by
 have hb := (fault_ok hf).1
 have hb2 := (fault_ok hx).1
 have hwr:IntKind.wrap .i64 j = j := wrap_i64 (by omega) (by omega)
 have hq := wd h0 (show j ≤ 65535 by omega) (n := c.divs.length) (by omega)
 refine sx_sound (X := mkX tab16t) (R := fun v _ => VLe v (vb true)) tab16t_ok _ [] (doneP r16) _ [] _ (doneP_ok rfl) (.nil _) ?_
 rw [w16nb c t j 0 0 n1 d1 ts z]
 simp only [holds,Int.ofNat_eq_natCast,dCe,dC_enc,dC_tr,tr_self,hwr,dec_R,true_and,and_true]
 generalize hkk:j.tmod c.divs.length = kk at *
 have hn:inR kk 0 (c.divs.length - 1) = true := by simp only [inR,decide_eq_true_eq]; omega
 have hne2 := ne_wid W hne
 have hn2:inR kk 0 ((c.tr ts).divs.length - 1) = true := hn
 have e:bdE c kk = 0 := by simp [bdE,hf,hn,hne]
 have e' : bdE (c.tr ts) kk = 0 := by simp [bdE,hx,hn2,hne2]
 have e2:∀ M,bdL M c kk = bndM M c (lat c.divs kk) := fun M => by simp [bdL,e]
 have e2' : ∀ M,bdL M (c.tr ts) kk = bndM M (c.tr ts) (lat c.divs kk) := fun M => by
  show (if bdE (c.tr ts) kk = 0 then bndM M (c.tr ts) (lat c.divs kk) else []) = _
  rw [if_pos e']
 have w1 := wider_law W (M := paidM) (d := lat c.divs kk) (N := c.held.length) (fun t => paidM_len _ _ _) (fun t => paid_wid W t _) hne
 have w2 := wider_law W (M := claimsM) (d := lat c.divs kk) (N := c.trades.length) (fun t => claimsM_len _ _ _) (fun t => claims_wid W t _) hne
 have w3 := wider_law W (M := rightsM) (d := lat c.divs kk) (N := c.held.length) (fun t => rightsM_len _ _ _) (fun t => rights_wid W t _) hne
 have r1:widerR (bndM paidM c (lat c.divs kk)) (bndM paidM (c.tr ts) (lat c.divs kk)) := ⟨by rw [w1.1,w1.2.1],by omega,fun k hk => w1.2.2 k (by omega)⟩
 have r2:widerR (bndM claimsM c (lat c.divs kk)) (bndM claimsM (c.tr ts) (lat c.divs kk)) := ⟨by rw [w2.1,w2.2.1],by omega,fun k hk => w2.2.2 k (by omega)⟩
 have r3:widerR (bndM rightsM c (lat c.divs kk)) (bndM rightsM (c.tr ts) (lat c.divs kk)) := ⟨by rw [w3.1,w3.2.1],by omega,fun k hk => w3.2.2 k (by omega)⟩
 have sm1:small c := by unfold small; omega
 have sm2:small (c.tr ts) := by unfold small; omega
 have hcv:Cv (c.tr ts) = V.agg [V.d (D.int .i64 c.houses),V.d (D.sl false c.held.length (enc eI c.held)),V.d (D.sl false ts.length (enc eT ts)),V.d (D.sl false c.divs.length (enc eV c.divs)),V.d (D.sl false c.splits.length (enc eS c.splits)),V.d (D.sl false c.closed.length (enc eR c.closed))] := rfl
 simp only [holds,Int.ofNat_eq_natCast,dCe,dC_enc, ← hcv,dec_R,true_and,and_true,sm1,sm2,hx,hne2,e,e',e2,e2',r1,r2,r3,beq_self_eq_true,true_imp_iff,Bool.true_eq_false,false_imp_iff]
 exact ⟨by omega,fun _ => .refl _,fun h => by simp at h⟩
theorem ft16b {c:Cmp} {t:Tru} {ts:List Trd} {j:Int} {n1:Nat} {d1:List D} (hf:faultM c = 0) (W:Wid c ts) (hne:(truthsP c).isEmpty = false) (hd:0 < c.divs.length) (h0:0 ≤ j) (h1:j ≤ 255):wpc Try.prog G16 0 (.seq (CCode.at c16 [1,1,1,1,1,1,1,1,1,1,1,1,1,0]) (CCode.at c16 [1,1,1,1,1,1,1,1,1,1,1,1,1,1])) Q16 [(3,.d (.int .u8 j)),(17,.ptr 0 0 0),(19,.ptr 3 0 0)] (H16 c t [Cyb c (.d (.sl false n1 d1)),some (.box (Cb6 c (.own 5 1 ts.length))),none,some (.row 99 7 1 (enc eT ts))]) := by
 refine wpc_seq' (wpc_tree (X := { mkX tab16s with sfz := true }) tab16s_ok (w16mb c t j 0 0 n1 d1 ts) ?_)
 have hcv:Cv (c.tr ts) = V.agg [V.d (D.int .i64 c.houses),V.d (D.sl false c.held.length (enc eI c.held)),V.d (D.sl false ts.length (enc eT ts)),V.d (D.sl false c.divs.length (enc eV c.divs)),V.d (D.sl false c.splits.length (enc eS c.splits)),V.d (D.sl false c.closed.length (enc eR c.closed))] := rfl
 simp only [holds,dC_tr,true_and,and_true]
 refine ⟨hcv,fun _ => .refl _,fun h => ?_⟩
 have hx:faultM (c.tr ts) = 0 := by simpa using h
 exact tl16b hf W hne hd h0 h1 hx _
theorem rt16a {c:Cmp} {t:Tru} {j o r:Int} {n1:Nat} {d1:List D} (hf:faultM c = 0) (hne:(truthsP c).isEmpty = false) (hd:0 < c.divs.length) (h0:0 ≤ j) (h1:j ≤ 255) (h2:0 ≤ o) (h3:o ≤ 255) (h4:0 ≤ r) (h5:r ≤ 255) (s:Bool) {i:Nat} (hi:i < c.trades.length):wpc Try.prog G16 0 (.seq (CCode.at c16 [1,1,1,1,1,1,1,1,1,1,1,1,0]) (.seq (CCode.at c16 [1,1,1,1,1,1,1,1,1,1,1,1,1,0]) (CCode.at c16 [1,1,1,1,1,1,1,1,1,1,1,1,1,1]))) Q16 [(3,.d (.int .u8 j)),(5,.d (.int .u8 r)),(17,.ptr 0 0 0),(19,.ptr 2 0 0),(22,.ptr 5 1 (i * 7 + offT s))] (H16 c t [some (.box (Cb6 c (.own 5 1 c.trades.length))),Cyb c (.d (.sl false n1 d1)),none,some (.row 99 7 1 (enc eT c.trades))]) := by
 have hwr:IntKind.wrap .i64 r = r := wrap_i64 (by omega) (by omega)
 have g := get_T s hi
 have tw := trade_wide hf hi
 have q1 := wd h4 (show r ≤ 65535 by omega) (n := 2) (by omega)
 have q2 := wd h4 (show r ≤ 65535 by omega) (n := 4) (by omega)
 have q3 := wd q1.2.2.2.1 q1.2.2.2.2 (n := 2) (by omega)
 have q4 := wd q2.2.2.2.1 q2.2.2.2.2 (n := 2) (by omega)
 have hr:0 ≤ (rngT (lat c.trades (i:Nat)) s).lo ∧ (rngT (lat c.trades (i:Nat)) s).hi ≤ 11 ∧ (rngT (lat c.trades (i:Nat)) s).lo ≤ (rngT (lat c.trades (i:Nat)) s).hi := by
  unfold wS wD at tw
  cases s <;> simp only [rngT,cond_true,cond_false] <;> omega
 have d1' : dI (enc eT c.trades) (i * 7 + offT s) = (rngT (lat c.trades (i:Nat)) s).lo := by unfold dI; rw [g.1]
 have d2' : dI (enc eT c.trades) (i * 7 + offT s + 1) = (rngT (lat c.trades (i:Nat)) s).hi := by unfold dI; rw [g.2]
 generalize hlo:(rngT (lat c.trades (i:Nat)) s).lo = lo at *
 generalize hhi:(rngT (lat c.trades (i:Nat)) s).hi = hh at *
 generalize hr1:(r.tdiv 2).tmod 2 = ra at *
 generalize hr2:(r.tdiv 4).tmod 2 = rb at *
 have hsz:i * 7 + offT s + 1 < c.trades.length * 7 := by
  have:offT s ≤ 5 := by cases s <;> decide
  omega
 have W:Wid c (c.trades.set i ((lat c.trades (i:Nat)).at s ⟨max2 0 (lo - ra),min2 11 (hh + rb)⟩)) := wid_at c s hi (by rw [hlo]; unfold max2; split <;> omega) (by rw [hhi]; unfold min2; split <;> omega)
 have F := ft16a (t := t) (n1 := n1) (d1 := d1) hf W hne hd h0 h1
 rw [← set_T s _ _ c.trades i hi] at F
 simp only [List.length_set] at F
 have p1:putAt (enc eT c.trades) (i * 7 + offT s) [D.int .i64 (max2 0 (lo - ra))] = (enc eT c.trades).set (i * 7 + offT s) (.int .i64 (max2 0 (lo - ra))) := putAt_set _ _ _ (by rw [len_T]; omega)
 have p2:putAt ((enc eT c.trades).set (i * 7 + offT s) (.int .i64 (max2 0 (lo - ra)))) (i * 7 + offT s + 1) [D.int .i64 (min2 11 (hh + rb))] = ((enc eT c.trades).set (i * 7 + offT s) (.int .i64 (max2 0 (lo - ra)))).set (i * 7 + offT s + 1) (.int .i64 (min2 11 (hh + rb))) := putAt_set _ _ _ (by rw [List.length_set,len_T]; omega)
 refine wpc_seq' (wpc_tree (X := mkX spNil) (spNil_ok _) (w16la c t j o r n1 d1 c.trades (i * 7 + offT s)) ?_)
 have z0:Nat.add (i * 7 + offT s) 0 = i * 7 + offT s := rfl
 have z1:Nat.add (i * 7 + offT s) 1 = i * 7 + offT s + 1 := rfl
 simp only [holds,z0,z1,hwr,d1',d2',hr1,hr2,g.1,g.2,p1,p2,List.length_set,len_T,List.length_cons,List.length_nil,true_and,and_true]
 exact ⟨by decide,⟨by omega,by omega⟩,by decide,⟨by omega,by omega⟩,by decide,⟨by omega,by omega⟩,by decide,⟨by omega,by omega⟩,by omega,by omega,F⟩
theorem rT16a {c:Cmp} {t:Tru} {j o r:Int} {n1:Nat} {d1:List D} (hf:faultM c = 0) (hne:(truthsP c).isEmpty = false) (hd:0 < c.divs.length) (h0:0 ≤ j) (h1:j ≤ 255) (h2:0 ≤ o) (h3:o ≤ 255) (h4:0 ≤ r) (h5:r ≤ 255) (z:Bool) (s:Bool) {i:Nat} (hi:i < c.trades.length):wpc Try.prog G16 0 (.seq (CCode.at c16 [1,1,1,1,1,1,1,1,1,1,1,1,0]) (.seq (CCode.at c16 [1,1,1,1,1,1,1,1,1,1,1,1,1,0]) (CCode.at c16 [1,1,1,1,1,1,1,1,1,1,1,1,1,1]))) Q16 (F16 j o r [(17,.ptr 0 0 0),(19,.ptr 2 0 0),(22,.ptr 5 1 (i * 7 + offT s)),(98,vb z)]) (H16 c t [some (.box (Cb6 c (.own 5 1 c.trades.length))),Cyb c (.d (.sl false n1 d1)),none,some (.row 99 7 1 (enc eT c.trades))]) := by
 have hwr:IntKind.wrap .i64 r = r := wrap_i64 (by omega) (by omega)
 have g := get_T s hi
 have tw := trade_wide hf hi
 have q1 := wd h4 (show r ≤ 65535 by omega) (n := 2) (by omega)
 have q2 := wd h4 (show r ≤ 65535 by omega) (n := 4) (by omega)
 have q3 := wd q1.2.2.2.1 q1.2.2.2.2 (n := 2) (by omega)
 have q4 := wd q2.2.2.2.1 q2.2.2.2.2 (n := 2) (by omega)
 have hr:0 ≤ (rngT (lat c.trades (i:Nat)) s).lo ∧ (rngT (lat c.trades (i:Nat)) s).hi ≤ 11 ∧ (rngT (lat c.trades (i:Nat)) s).lo ≤ (rngT (lat c.trades (i:Nat)) s).hi := by
  unfold wS wD at tw
  cases s <;> simp only [rngT,cond_true,cond_false] <;> omega
 have d1' : dI (enc eT c.trades) (i * 7 + offT s) = (rngT (lat c.trades (i:Nat)) s).lo := by unfold dI; rw [g.1]
 have d2' : dI (enc eT c.trades) (i * 7 + offT s + 1) = (rngT (lat c.trades (i:Nat)) s).hi := by unfold dI; rw [g.2]
 generalize hlo:(rngT (lat c.trades (i:Nat)) s).lo = lo at *
 generalize hhi:(rngT (lat c.trades (i:Nat)) s).hi = hh at *
 generalize hr1:(r.tdiv 2).tmod 2 = ra at *
 generalize hr2:(r.tdiv 4).tmod 2 = rb at *
 have hsz:i * 7 + offT s + 1 < c.trades.length * 7 := by
  have:offT s ≤ 5 := by cases s <;> decide
  omega
 have W:Wid c (c.trades.set i ((lat c.trades (i:Nat)).at s ⟨max2 0 (lo - ra),min2 11 (hh + rb)⟩)) := wid_at c s hi (by rw [hlo]; unfold max2; split <;> omega) (by rw [hhi]; unfold min2; split <;> omega)
 have F := ft16a (t := t) (n1 := n1) (d1 := d1) hf W hne hd h0 h1
 rw [← set_T s _ _ c.trades i hi] at F
 simp only [List.length_set] at F
 have p1:putAt (enc eT c.trades) (i * 7 + offT s) [D.int .i64 (max2 0 (lo - ra))] = (enc eT c.trades).set (i * 7 + offT s) (.int .i64 (max2 0 (lo - ra))) := putAt_set _ _ _ (by rw [len_T]; omega)
 have p2:putAt ((enc eT c.trades).set (i * 7 + offT s) (.int .i64 (max2 0 (lo - ra)))) (i * 7 + offT s + 1) [D.int .i64 (min2 11 (hh + rb))] = ((enc eT c.trades).set (i * 7 + offT s) (.int .i64 (max2 0 (lo - ra)))).set (i * 7 + offT s + 1) (.int .i64 (min2 11 (hh + rb))) := putAt_set _ _ _ (by rw [List.length_set,len_T]; omega)
 refine wpc_seq' (wpc_tree (X := mkX spNil) (spNil_ok _) (w16La c t j o r n1 d1 c.trades (i * 7 + offT s) z) ?_)
 have z0:Nat.add (i * 7 + offT s) 0 = i * 7 + offT s := rfl
 have z1:Nat.add (i * 7 + offT s) 1 = i * 7 + offT s + 1 := rfl
 simp only [holds,z0,z1,hwr,d1',d2',hr1,hr2,g.1,g.2,p1,p2,List.length_set,len_T,List.length_cons,List.length_nil,true_and,and_true]
 exact ⟨by decide,⟨by omega,by omega⟩,by decide,⟨by omega,by omega⟩,by decide,⟨by omega,by omega⟩,by decide,⟨by omega,by omega⟩,by omega,by omega,F⟩
theorem st16a {c:Cmp} {t:Tru} {j o r:Int} {n1:Nat} {d1:List D} (hf:faultM c = 0) (hne:(truthsP c).isEmpty = false) (hd:0 < c.divs.length) (h0:0 ≤ j) (h1:j ≤ 255) (h2:0 ≤ o) (h3:o ≤ 255) (h4:0 ≤ r) (h5:r ≤ 255) (ht:0 < c.trades.length):wpc Try.prog G16 0 (.seq (CCode.at c16 [1,1,1,1,1,1,1,1,1,1,1,0]) (.seq (CCode.at c16 [1,1,1,1,1,1,1,1,1,1,1,1,0]) (.seq (CCode.at c16 [1,1,1,1,1,1,1,1,1,1,1,1,1,0]) (CCode.at c16 [1,1,1,1,1,1,1,1,1,1,1,1,1,1])))) Q16 (F16 j o r [(17,.ptr 0 0 0),(19,.ptr 2 0 0),(22,.ptr 5 1 ((o.tmod c.trades.length).toNat * 7 + 3))]) (H16 c t [some (.box (Cb6 c (.own 5 1 c.trades.length))),Cyb c (.d (.sl false n1 d1)),none,some (.row 99 7 1 (enc eT c.trades))]) := by
 have hwo:IntKind.wrap .i64 o = o := wrap_i64 (by omega) (by omega)
 have hq := wd h2 (show o ≤ 65535 by omega) (n := c.trades.length) (by omega)
 refine wpc_seq' (wpc_tree (X := mkX spNil) (spNil_ok _) (w16ka c t j o r n1 d1 c.trades ((o.tmod c.trades.length).toNat * 7 + 3)) ?_)
 simp only [holds,Int.ofNat_eq_natCast,hwo,len_T,true_and,and_true]
 have hi:(o.tmod c.trades.length).toNat < c.trades.length := by omega
 exact ⟨by decide,fun _ => ⟨by omega,⟨⟨hq.1,hq.2.1⟩,by omega⟩,rt16a hf hne hd h0 h1 h2 h3 h4 h5 false hi⟩,fun _ => rT16a hf hne hd h0 h1 h2 h3 h4 h5 _ true hi⟩
theorem jt16a {c:Cmp} {t:Tru} {j o r:Int} {n1:Nat} {d1:List D} (hf:faultM c = 0) (hne:(truthsP c).isEmpty = false) (hd:0 < c.divs.length) (h0:0 ≤ j) (h1:j ≤ 255) (h2:0 ≤ o) (h3:o ≤ 255) (h4:0 ≤ r) (h5:r ≤ 255) (ht:0 < c.trades.length):wpc Try.prog G16 0 (.seq (CCode.at c16 [1,1,1,1,1,1,1,1,1,1,0]) (.seq (CCode.at c16 [1,1,1,1,1,1,1,1,1,1,1,0]) (.seq (CCode.at c16 [1,1,1,1,1,1,1,1,1,1,1,1,0]) (.seq (CCode.at c16 [1,1,1,1,1,1,1,1,1,1,1,1,1,0]) (CCode.at c16 [1,1,1,1,1,1,1,1,1,1,1,1,1,1]))))) Q16 (F16 j o r [(17,.ptr 0 0 0),(19,.ptr 2 0 0)]) (H16 c t [some (.box (Cb6 c (.own 5 1 c.trades.length))),Cyb c (.d (.sl false n1 d1)),none,some (.row 99 7 1 (enc eT c.trades))]) := by
 have hwo:IntKind.wrap .i64 o = o := wrap_i64 (by omega) (by omega)
 have hq := wd h2 (show o ≤ 65535 by omega) (n := c.trades.length) (by omega)
 refine wpc_seq' (wpc_tree (X := mkX spNil) (spNil_ok _) (w16ja c t j o r n1 d1 c.trades) ?_)
 simp only [holds,Int.ofNat_eq_natCast,hwo,len_T,true_and,and_true]
 exact ⟨by omega,⟨⟨hq.1,hq.2.1⟩,by omega⟩,st16a hf hne hd h0 h1 h2 h3 h4 h5 ht⟩
theorem it16a {c:Cmp} {t:Tru} {j o r:Int} {n1:Nat} {d1:List D} (hf:faultM c = 0) (hne:(truthsP c).isEmpty = false) (hd:0 < c.divs.length) (h0:0 ≤ j) (h1:j ≤ 255) (h2:0 ≤ o) (h3:o ≤ 255) (h4:0 ≤ r) (h5:r ≤ 255) (ht:0 < c.trades.length) (z:V):wpc Try.prog G16 0 (.seq (CCode.at c16 [1,1,1,1,1,1,1,1,1,0]) (.seq (CCode.at c16 [1,1,1,1,1,1,1,1,1,1,0]) (.seq (CCode.at c16 [1,1,1,1,1,1,1,1,1,1,1,0]) (.seq (CCode.at c16 [1,1,1,1,1,1,1,1,1,1,1,1,0]) (.seq (CCode.at c16 [1,1,1,1,1,1,1,1,1,1,1,1,1,0]) (CCode.at c16 [1,1,1,1,1,1,1,1,1,1,1,1,1,1])))))) Q16 (F16 j o r [(17,.ptr 0 0 0),(19,.ptr 2 0 0),(79,z)]) (H16 c t [some (.box (Cb6 c (.d (.sl false c.trades.length (enc eT c.trades))))),Cyb c (.d (.sl false n1 d1)),none]) := by
 have hb := (fault_ok hf).1
 refine wpc_seq' (wpc_tree (X := mkX spNil) (spNil_ok _) (w16ia c t j o r n1 d1 z) ?_)
 simp only [holds,Nat.zero_add,len_T,List.nil_append,true_and,and_true]
 exact ⟨by omega,jt16a hf hne hd h0 h1 h2 h3 h4 h5 ht⟩
theorem tab16h_oka:SpOk Try.prog tab16h := spAdd_ok ent18_ok (spNil_ok _)
theorem ht16a {c:Cmp} {t:Tru} {j o r:Int} {n1:Nat} {d1:List D} (hf:faultM c = 0) (hne:(truthsP c).isEmpty = false) (hd:0 < c.divs.length) (h0:0 ≤ j) (h1:j ≤ 255) (h2:0 ≤ o) (h3:o ≤ 255) (h4:0 ≤ r) (h5:r ≤ 255) (z:Bool):wpc Try.prog G16 0 (.seq (CCode.at c16 [1,1,1,1,1,1,1,1,0]) (.seq (CCode.at c16 [1,1,1,1,1,1,1,1,1,0]) (.seq (CCode.at c16 [1,1,1,1,1,1,1,1,1,1,0]) (.seq (CCode.at c16 [1,1,1,1,1,1,1,1,1,1,1,0]) (.seq (CCode.at c16 [1,1,1,1,1,1,1,1,1,1,1,1,0]) (.seq (CCode.at c16 [1,1,1,1,1,1,1,1,1,1,1,1,1,0]) (CCode.at c16 [1,1,1,1,1,1,1,1,1,1,1,1,1,1]))))))) Q16 (F16 j o r [(17,.ptr 0 0 0),(19,.ptr 2 0 0),(75,vb z)]) (H16 c t [some (.box (Cb6 c (.d (.sl false c.trades.length (enc eT c.trades))))),Cyb c (.d (.sl false n1 d1)),none]) := by
 refine wpc_seq' (wpc_tree (X := mkX tab16h) tab16h_oka (w16ha c t j o r n1 d1 z) ?_)
 simp only [holds,Int.ofNat_eq_natCast,true_and,and_true]
 refine ⟨fun _ => .refl _,fun h => ?_⟩
 have ht:0 < c.trades.length := by
  have:¬ ((c.trades.length:Int) = 0) := by simpa using h
  omega
 exact it16a hf hne hd h0 h1 h2 h3 h4 h5 ht _
theorem rt16b {c:Cmp} {t:Tru} {j o r:Int} {n1:Nat} {d1:List D} (hf:faultM c = 0) (hne:(truthsP c).isEmpty = false) (hd:0 < c.divs.length) (h0:0 ≤ j) (h1:j ≤ 255) (h2:0 ≤ o) (h3:o ≤ 255) (h4:0 ≤ r) (h5:r ≤ 255) (s:Bool) {i:Nat} (hi:i < c.trades.length):wpc Try.prog G16 0 (.seq (CCode.at c16 [1,1,1,1,1,1,1,1,1,1,1,1,0]) (.seq (CCode.at c16 [1,1,1,1,1,1,1,1,1,1,1,1,1,0]) (CCode.at c16 [1,1,1,1,1,1,1,1,1,1,1,1,1,1]))) Q16 [(3,.d (.int .u8 j)),(5,.d (.int .u8 r)),(17,.ptr 0 0 0),(19,.ptr 3 0 0),(22,.ptr 5 1 (i * 7 + offT s))] (H16 c t [Cyb c (.d (.sl false n1 d1)),some (.box (Cb6 c (.own 5 1 c.trades.length))),none,some (.row 99 7 1 (enc eT c.trades))]) := by
 have hwr:IntKind.wrap .i64 r = r := wrap_i64 (by omega) (by omega)
 have g := get_T s hi
 have tw := trade_wide hf hi
 have q1 := wd h4 (show r ≤ 65535 by omega) (n := 2) (by omega)
 have q2 := wd h4 (show r ≤ 65535 by omega) (n := 4) (by omega)
 have q3 := wd q1.2.2.2.1 q1.2.2.2.2 (n := 2) (by omega)
 have q4 := wd q2.2.2.2.1 q2.2.2.2.2 (n := 2) (by omega)
 have hr:0 ≤ (rngT (lat c.trades (i:Nat)) s).lo ∧ (rngT (lat c.trades (i:Nat)) s).hi ≤ 11 ∧ (rngT (lat c.trades (i:Nat)) s).lo ≤ (rngT (lat c.trades (i:Nat)) s).hi := by
  unfold wS wD at tw
  cases s <;> simp only [rngT,cond_true,cond_false] <;> omega
 have d1' : dI (enc eT c.trades) (i * 7 + offT s) = (rngT (lat c.trades (i:Nat)) s).lo := by unfold dI; rw [g.1]
 have d2' : dI (enc eT c.trades) (i * 7 + offT s + 1) = (rngT (lat c.trades (i:Nat)) s).hi := by unfold dI; rw [g.2]
 generalize hlo:(rngT (lat c.trades (i:Nat)) s).lo = lo at *
 generalize hhi:(rngT (lat c.trades (i:Nat)) s).hi = hh at *
 generalize hr1:(r.tdiv 2).tmod 2 = ra at *
 generalize hr2:(r.tdiv 4).tmod 2 = rb at *
 have hsz:i * 7 + offT s + 1 < c.trades.length * 7 := by
  have:offT s ≤ 5 := by cases s <;> decide
  omega
 have W:Wid c (c.trades.set i ((lat c.trades (i:Nat)).at s ⟨max2 0 (lo - ra),min2 11 (hh + rb)⟩)) := wid_at c s hi (by rw [hlo]; unfold max2; split <;> omega) (by rw [hhi]; unfold min2; split <;> omega)
 have F := ft16b (t := t) (n1 := n1) (d1 := d1) hf W hne hd h0 h1
 rw [← set_T s _ _ c.trades i hi] at F
 simp only [List.length_set] at F
 have p1:putAt (enc eT c.trades) (i * 7 + offT s) [D.int .i64 (max2 0 (lo - ra))] = (enc eT c.trades).set (i * 7 + offT s) (.int .i64 (max2 0 (lo - ra))) := putAt_set _ _ _ (by rw [len_T]; omega)
 have p2:putAt ((enc eT c.trades).set (i * 7 + offT s) (.int .i64 (max2 0 (lo - ra)))) (i * 7 + offT s + 1) [D.int .i64 (min2 11 (hh + rb))] = ((enc eT c.trades).set (i * 7 + offT s) (.int .i64 (max2 0 (lo - ra)))).set (i * 7 + offT s + 1) (.int .i64 (min2 11 (hh + rb))) := putAt_set _ _ _ (by rw [List.length_set,len_T]; omega)
 refine wpc_seq' (wpc_tree (X := mkX spNil) (spNil_ok _) (w16lb c t j o r n1 d1 c.trades (i * 7 + offT s)) ?_)
 have z0:Nat.add (i * 7 + offT s) 0 = i * 7 + offT s := rfl
 have z1:Nat.add (i * 7 + offT s) 1 = i * 7 + offT s + 1 := rfl
 simp only [holds,z0,z1,hwr,d1',d2',hr1,hr2,g.1,g.2,p1,p2,List.length_set,len_T,List.length_cons,List.length_nil,true_and,and_true]
 exact ⟨by decide,⟨by omega,by omega⟩,by decide,⟨by omega,by omega⟩,by decide,⟨by omega,by omega⟩,by decide,⟨by omega,by omega⟩,by omega,by omega,F⟩
theorem rT16b {c:Cmp} {t:Tru} {j o r:Int} {n1:Nat} {d1:List D} (hf:faultM c = 0) (hne:(truthsP c).isEmpty = false) (hd:0 < c.divs.length) (h0:0 ≤ j) (h1:j ≤ 255) (h2:0 ≤ o) (h3:o ≤ 255) (h4:0 ≤ r) (h5:r ≤ 255) (z:Bool) (s:Bool) {i:Nat} (hi:i < c.trades.length):wpc Try.prog G16 0 (.seq (CCode.at c16 [1,1,1,1,1,1,1,1,1,1,1,1,0]) (.seq (CCode.at c16 [1,1,1,1,1,1,1,1,1,1,1,1,1,0]) (CCode.at c16 [1,1,1,1,1,1,1,1,1,1,1,1,1,1]))) Q16 (F16 j o r [(17,.ptr 0 0 0),(19,.ptr 3 0 0),(22,.ptr 5 1 (i * 7 + offT s)),(98,vb z)]) (H16 c t [Cyb c (.d (.sl false n1 d1)),some (.box (Cb6 c (.own 5 1 c.trades.length))),none,some (.row 99 7 1 (enc eT c.trades))]) := by
 have hwr:IntKind.wrap .i64 r = r := wrap_i64 (by omega) (by omega)
 have g := get_T s hi
 have tw := trade_wide hf hi
 have q1 := wd h4 (show r ≤ 65535 by omega) (n := 2) (by omega)
 have q2 := wd h4 (show r ≤ 65535 by omega) (n := 4) (by omega)
 have q3 := wd q1.2.2.2.1 q1.2.2.2.2 (n := 2) (by omega)
 have q4 := wd q2.2.2.2.1 q2.2.2.2.2 (n := 2) (by omega)
 have hr:0 ≤ (rngT (lat c.trades (i:Nat)) s).lo ∧ (rngT (lat c.trades (i:Nat)) s).hi ≤ 11 ∧ (rngT (lat c.trades (i:Nat)) s).lo ≤ (rngT (lat c.trades (i:Nat)) s).hi := by
  unfold wS wD at tw
  cases s <;> simp only [rngT,cond_true,cond_false] <;> omega
 have d1' : dI (enc eT c.trades) (i * 7 + offT s) = (rngT (lat c.trades (i:Nat)) s).lo := by unfold dI; rw [g.1]
 have d2' : dI (enc eT c.trades) (i * 7 + offT s + 1) = (rngT (lat c.trades (i:Nat)) s).hi := by unfold dI; rw [g.2]
 generalize hlo:(rngT (lat c.trades (i:Nat)) s).lo = lo at *
 generalize hhi:(rngT (lat c.trades (i:Nat)) s).hi = hh at *
 generalize hr1:(r.tdiv 2).tmod 2 = ra at *
 generalize hr2:(r.tdiv 4).tmod 2 = rb at *
 have hsz:i * 7 + offT s + 1 < c.trades.length * 7 := by
  have:offT s ≤ 5 := by cases s <;> decide
  omega
 have W:Wid c (c.trades.set i ((lat c.trades (i:Nat)).at s ⟨max2 0 (lo - ra),min2 11 (hh + rb)⟩)) := wid_at c s hi (by rw [hlo]; unfold max2; split <;> omega) (by rw [hhi]; unfold min2; split <;> omega)
 have F := ft16b (t := t) (n1 := n1) (d1 := d1) hf W hne hd h0 h1
 rw [← set_T s _ _ c.trades i hi] at F
 simp only [List.length_set] at F
 have p1:putAt (enc eT c.trades) (i * 7 + offT s) [D.int .i64 (max2 0 (lo - ra))] = (enc eT c.trades).set (i * 7 + offT s) (.int .i64 (max2 0 (lo - ra))) := putAt_set _ _ _ (by rw [len_T]; omega)
 have p2:putAt ((enc eT c.trades).set (i * 7 + offT s) (.int .i64 (max2 0 (lo - ra)))) (i * 7 + offT s + 1) [D.int .i64 (min2 11 (hh + rb))] = ((enc eT c.trades).set (i * 7 + offT s) (.int .i64 (max2 0 (lo - ra)))).set (i * 7 + offT s + 1) (.int .i64 (min2 11 (hh + rb))) := putAt_set _ _ _ (by rw [List.length_set,len_T]; omega)
 refine wpc_seq' (wpc_tree (X := mkX spNil) (spNil_ok _) (w16Lb c t j o r n1 d1 c.trades (i * 7 + offT s) z) ?_)
 have z0:Nat.add (i * 7 + offT s) 0 = i * 7 + offT s := rfl
 have z1:Nat.add (i * 7 + offT s) 1 = i * 7 + offT s + 1 := rfl
 simp only [holds,z0,z1,hwr,d1',d2',hr1,hr2,g.1,g.2,p1,p2,List.length_set,len_T,List.length_cons,List.length_nil,true_and,and_true]
 exact ⟨by decide,⟨by omega,by omega⟩,by decide,⟨by omega,by omega⟩,by decide,⟨by omega,by omega⟩,by decide,⟨by omega,by omega⟩,by omega,by omega,F⟩
theorem st16b {c:Cmp} {t:Tru} {j o r:Int} {n1:Nat} {d1:List D} (hf:faultM c = 0) (hne:(truthsP c).isEmpty = false) (hd:0 < c.divs.length) (h0:0 ≤ j) (h1:j ≤ 255) (h2:0 ≤ o) (h3:o ≤ 255) (h4:0 ≤ r) (h5:r ≤ 255) (ht:0 < c.trades.length):wpc Try.prog G16 0 (.seq (CCode.at c16 [1,1,1,1,1,1,1,1,1,1,1,0]) (.seq (CCode.at c16 [1,1,1,1,1,1,1,1,1,1,1,1,0]) (.seq (CCode.at c16 [1,1,1,1,1,1,1,1,1,1,1,1,1,0]) (CCode.at c16 [1,1,1,1,1,1,1,1,1,1,1,1,1,1])))) Q16 (F16 j o r [(17,.ptr 0 0 0),(19,.ptr 3 0 0),(22,.ptr 5 1 ((o.tmod c.trades.length).toNat * 7 + 3))]) (H16 c t [Cyb c (.d (.sl false n1 d1)),some (.box (Cb6 c (.own 5 1 c.trades.length))),none,some (.row 99 7 1 (enc eT c.trades))]) := by
 have hwo:IntKind.wrap .i64 o = o := wrap_i64 (by omega) (by omega)
 have hq := wd h2 (show o ≤ 65535 by omega) (n := c.trades.length) (by omega)
 refine wpc_seq' (wpc_tree (X := mkX spNil) (spNil_ok _) (w16kb c t j o r n1 d1 c.trades ((o.tmod c.trades.length).toNat * 7 + 3)) ?_)
 simp only [holds,Int.ofNat_eq_natCast,hwo,len_T,true_and,and_true]
 have hi:(o.tmod c.trades.length).toNat < c.trades.length := by omega
 exact ⟨by decide,fun _ => ⟨by omega,⟨⟨hq.1,hq.2.1⟩,by omega⟩,rt16b hf hne hd h0 h1 h2 h3 h4 h5 false hi⟩,fun _ => rT16b hf hne hd h0 h1 h2 h3 h4 h5 _ true hi⟩
theorem jt16b {c:Cmp} {t:Tru} {j o r:Int} {n1:Nat} {d1:List D} (hf:faultM c = 0) (hne:(truthsP c).isEmpty = false) (hd:0 < c.divs.length) (h0:0 ≤ j) (h1:j ≤ 255) (h2:0 ≤ o) (h3:o ≤ 255) (h4:0 ≤ r) (h5:r ≤ 255) (ht:0 < c.trades.length):wpc Try.prog G16 0 (.seq (CCode.at c16 [1,1,1,1,1,1,1,1,1,1,0]) (.seq (CCode.at c16 [1,1,1,1,1,1,1,1,1,1,1,0]) (.seq (CCode.at c16 [1,1,1,1,1,1,1,1,1,1,1,1,0]) (.seq (CCode.at c16 [1,1,1,1,1,1,1,1,1,1,1,1,1,0]) (CCode.at c16 [1,1,1,1,1,1,1,1,1,1,1,1,1,1]))))) Q16 (F16 j o r [(17,.ptr 0 0 0),(19,.ptr 3 0 0)]) (H16 c t [Cyb c (.d (.sl false n1 d1)),some (.box (Cb6 c (.own 5 1 c.trades.length))),none,some (.row 99 7 1 (enc eT c.trades))]) := by
 have hwo:IntKind.wrap .i64 o = o := wrap_i64 (by omega) (by omega)
 have hq := wd h2 (show o ≤ 65535 by omega) (n := c.trades.length) (by omega)
 refine wpc_seq' (wpc_tree (X := mkX spNil) (spNil_ok _) (w16jb c t j o r n1 d1 c.trades) ?_)
 simp only [holds,Int.ofNat_eq_natCast,hwo,len_T,true_and,and_true]
 exact ⟨by omega,⟨⟨hq.1,hq.2.1⟩,by omega⟩,st16b hf hne hd h0 h1 h2 h3 h4 h5 ht⟩
theorem it16b {c:Cmp} {t:Tru} {j o r:Int} {n1:Nat} {d1:List D} (hf:faultM c = 0) (hne:(truthsP c).isEmpty = false) (hd:0 < c.divs.length) (h0:0 ≤ j) (h1:j ≤ 255) (h2:0 ≤ o) (h3:o ≤ 255) (h4:0 ≤ r) (h5:r ≤ 255) (ht:0 < c.trades.length) (z:V):wpc Try.prog G16 0 (.seq (CCode.at c16 [1,1,1,1,1,1,1,1,1,0]) (.seq (CCode.at c16 [1,1,1,1,1,1,1,1,1,1,0]) (.seq (CCode.at c16 [1,1,1,1,1,1,1,1,1,1,1,0]) (.seq (CCode.at c16 [1,1,1,1,1,1,1,1,1,1,1,1,0]) (.seq (CCode.at c16 [1,1,1,1,1,1,1,1,1,1,1,1,1,0]) (CCode.at c16 [1,1,1,1,1,1,1,1,1,1,1,1,1,1])))))) Q16 (F16 j o r [(17,.ptr 0 0 0),(19,.ptr 3 0 0),(79,z)]) (H16 c t [Cyb c (.d (.sl false n1 d1)),some (.box (Cb6 c (.d (.sl false c.trades.length (enc eT c.trades))))),none]) := by
 have hb := (fault_ok hf).1
 refine wpc_seq' (wpc_tree (X := mkX spNil) (spNil_ok _) (w16ib c t j o r n1 d1 z) ?_)
 simp only [holds,Nat.zero_add,len_T,List.nil_append,true_and,and_true]
 exact ⟨by omega,jt16b hf hne hd h0 h1 h2 h3 h4 h5 ht⟩
theorem tab16h_okb:SpOk Try.prog tab16h := spAdd_ok ent18_ok (spNil_ok _)
theorem ht16b {c:Cmp} {t:Tru} {j o r:Int} {n1:Nat} {d1:List D} (hf:faultM c = 0) (hne:(truthsP c).isEmpty = false) (hd:0 < c.divs.length) (h0:0 ≤ j) (h1:j ≤ 255) (h2:0 ≤ o) (h3:o ≤ 255) (h4:0 ≤ r) (h5:r ≤ 255) (z:Bool):wpc Try.prog G16 0 (.seq (CCode.at c16 [1,1,1,1,1,1,1,1,0]) (.seq (CCode.at c16 [1,1,1,1,1,1,1,1,1,0]) (.seq (CCode.at c16 [1,1,1,1,1,1,1,1,1,1,0]) (.seq (CCode.at c16 [1,1,1,1,1,1,1,1,1,1,1,0]) (.seq (CCode.at c16 [1,1,1,1,1,1,1,1,1,1,1,1,0]) (.seq (CCode.at c16 [1,1,1,1,1,1,1,1,1,1,1,1,1,0]) (CCode.at c16 [1,1,1,1,1,1,1,1,1,1,1,1,1,1]))))))) Q16 (F16 j o r [(17,.ptr 0 0 0),(19,.ptr 3 0 0),(75,vb z)]) (H16 c t [Cyb c (.d (.sl false n1 d1)),some (.box (Cb6 c (.d (.sl false c.trades.length (enc eT c.trades))))),none]) := by
 refine wpc_seq' (wpc_tree (X := mkX tab16h) tab16h_okb (w16hb c t j o r n1 d1 z) ?_)
 simp only [holds,Int.ofNat_eq_natCast,true_and,and_true]
 refine ⟨fun _ => .refl _,fun h => ?_⟩
 have ht:0 < c.trades.length := by
  have:¬ ((c.trades.length:Int) = 0) := by simpa using h
  omega
 exact it16b hf hne hd h0 h1 h2 h3 h4 h5 ht _
end
end Go.Proofs.Ytdnefcjbcieecaa
namespace Go.Proofs.Ytdnefcjbcieecaa
open Go Go.Proofs
noncomputable section
theorem set_I (l:List Int) (k:Nat) (n:Int):(enc eI l).set (k * 1) (.int .i64 n) = enc eI (l.set k n) := by
 rw [enc_map,enc_map,Nat.mul_one,List.map_set]
theorem get_I {l:List Int} {k:Nat} (hk:k < l.length):(enc eI l)[k * 1]? = some (.int .i64 (lat l (k:Nat))) := by
 rw [enc_map,Nat.mul_one]
 simp [lat,hk]
theorem dC_hold (c:Cmp) (h:Nat) (n:Int):dC c.houses (c.held.set h n).length (enc eI (c.held.set h n)) c.trades.length (enc eT c.trades) c.divs.length (enc eV c.divs) c.splits.length (enc eS c.splits) c.closed.length (enc eR c.closed) = c.hold h n := by
 simp only [dC,dec_I,dec_T,dec_V,dec_S,dec_R]; rfl
def Gp16 (hl ws:List Int) (m j o r u v:Int) (p:List (Nat × V)):Env := [(0,vsl eI hl),(1,vsl eW ws),(2,.d (.int .u8 m)),(3,.d (.int .u8 j)),(4,.d (.int .u8 o)),(5,.d (.int .u8 r)),(6,.d (.int .u8 u)),(7,.d (.int .u8 v))] ++ p
theorem v16z (hl ws:List Int) (m j o r u v:Int):sx (mkX spNil) (CCode.at c16 [0]) [] leafK (envOf [vsl eI hl,vsl eW ws,.d (.int .u8 m),.d (.int .u8 j),.d (.int .u8 o),.d (.int .u8 r),.d (.int .u8 u),.d (.int .u8 v)]) [] [] =
  Tr.leaf CExit.normal [(0,V.d (D.sl false (List.length hl) (enc eI hl))),(1,V.d (D.sl false (List.length ws) (enc eW ws))),(2,V.d (D.int IntKind.u8 m)),(3,V.d (D.int IntKind.u8 j)),(4,V.d (D.int IntKind.u8 o)),(5,V.d (D.int IntKind.u8 r)),(6,V.d (D.int IntKind.u8 u)),(7,V.d (D.int IntKind.u8 v))] [] := by kernel_rfl
def tab16q:Spec := (spAdd 41 ent41 (spAdd 40 ent40 (spAdd 18 ent18 spNil)))
theorem tab16q_ok:SpOk Try.prog tab16q := (spAdd_ok ent41_ok (spAdd_ok ent40_ok (spAdd_ok ent18_ok (spNil_ok _))))
theorem v16a (hl ws:List Int) (m j o r u v:Int):sx (mkX tab16q) (CCode.at c16 [1,0]) [] leafK (Gp16 hl ws m j o r u v []) [] [] =
  let y0_ := (dec 1 gI (List.length hl) (enc eI hl))
  Tr.need (enc eI y0_ = enc eI hl) (Tr.br (!begunB y0_) (Tr.need True (Tr.leaf CExit.ret [(16,V.d (D.bool true))] [])) (Tr.leaf CExit.normal [(0,V.d (D.sl false (List.length hl) (enc eI hl))),(1,V.d (D.sl false (List.length ws) (enc eW ws))),(2,V.d (D.int IntKind.u8 m)),(3,V.d (D.int IntKind.u8 j)),(4,V.d (D.int IntKind.u8 o)),(5,V.d (D.int IntKind.u8 r)),(6,V.d (D.int IntKind.u8 u)),(7,V.d (D.int IntKind.u8 v)),(36,V.d (D.bool !begunB y0_))] [])) := by kernel_rfl
theorem v16b (hl ws:List Int) (m j o r u v:Int) (z:Bool):sx (mkX tab16q) (CCode.at c16 [1,1,0]) [] leafK (Gp16 hl ws m j o r u v [(36,vb z)]) [] [] =
  let x1_ := (dec 1 gW (List.length ws) (enc eW ws))
  let x2_ := (dec 1 gI (List.length hl) (enc eI hl))
  let x3_ := (Prod.fst (dealt x2_ x1_ m))
  let x4_ := (Prod.snd (dealt x2_ x1_ m))
  Tr.need (okL eI 1 gI (List.length hl) (enc eI hl) ∧ enc eW x1_ = enc eW ws ∧ isWords x1_ ∧ begunB x2_ = true ∧ (0:Int) ≤ m ∧ m ≤ (255:Int)) (Tr.leaf CExit.normal [(0,V.d (D.sl false (List.length hl) (enc eI hl))),(3,V.d (D.int IntKind.u8 j)),(4,V.d (D.int IntKind.u8 o)),(5,V.d (D.int IntKind.u8 r)),(6,V.d (D.int IntKind.u8 u)),(7,V.d (D.int IntKind.u8 v)),(17,V.ptr 0 0 0),(18,V.ptr 1 0 0)] [some (Blk.box [V.d (D.int .i64 (Cmp.houses x3_)),V.d (D.sl false (List.length (Cmp.held x3_)) (enc eI (Cmp.held x3_))),V.d (D.sl false (List.length (Cmp.trades x3_)) (enc eT (Cmp.trades x3_))),V.d (D.sl false (List.length (Cmp.divs x3_)) (enc eV (Cmp.divs x3_))),V.d (D.sl false (List.length (Cmp.splits x3_)) (enc eS (Cmp.splits x3_))),V.d (D.sl false (List.length (Cmp.closed x3_)) (enc eR (Cmp.closed x3_)))]),some (Blk.box [V.d (D.sl false (List.length (Tru.sold x4_)) (enc eI (Tru.sold x4_))),V.d (D.sl false (List.length (Tru.deliv x4_)) (enc eI (Tru.deliv x4_)))])]) := by kernel_rfl
theorem v16da (hl:List Int) (c:Cmp) (t:Tru) (j o r u v:Int):sx (mkX (spAdd 56 ent56q spNil)) (CCode.at c16 [1,1,1,1,0]) [] leafK (E16 hl j o r u v [(19,.ptr 2 0 0),(20,.ptr 3 0 0)]) [] (H16 c t [Cx c,Cx c]) =
  let x1_ := (D.int .i64 (Cmp.houses c))
  let x2_ := (List.length (Cmp.held c))
  let x3_ := (D.sl false (List.length (Cmp.trades c)) (enc eT (Cmp.trades c)))
  let x4_ := (D.sl false (List.length (Cmp.divs c)) (enc eV (Cmp.divs c)))
  let x5_ := (D.sl false (List.length (Cmp.splits c)) (enc eS (Cmp.splits c)))
  let x6_ := (D.sl false (List.length (Cmp.closed c)) (enc eR (Cmp.closed c)))
  let y0_ := (enc eI (Cmp.held c))
  let x7_ := (Blk.box [V.d x1_,V.d (D.sl false x2_ y0_),V.d x3_,V.d x4_,V.d x5_,V.d x6_])
  Tr.need (List.length y0_ = List.length (Cmp.held c) ∧ List.length (Cmp.held c) ≤ 1000000) (Tr.leaf CExit.normal [(0,V.d (D.sl false (List.length hl) (enc eI hl))),(3,V.d (D.int IntKind.u8 j)),(4,V.d (D.int IntKind.u8 o)),(5,V.d (D.int IntKind.u8 r)),(6,V.d (D.int IntKind.u8 u)),(7,V.d (D.int IntKind.u8 v)),(17,V.ptr 0 0 0),(18,V.ptr 1 0 0),(19,V.ptr 2 0 0),(20,V.ptr 3 0 0)] [some x7_,some (Blk.box [V.d (D.sl false (List.length (Tru.sold t)) (enc eI (Tru.sold t))),V.d (D.sl false (List.length (Tru.deliv t)) (enc eI (Tru.deliv t)))]),some x7_,some (Blk.box [V.d x1_,V.own 4 1 x2_,V.d x3_,V.d x4_,V.d x5_,V.d x6_]),some (Blk.row 3 1 1 y0_)]) := by kernel_rfl
theorem v16ea (hl:List Int) (c:Cmp) (t:Tru) (j o r u v:Int) (l:List Int):sx (mkX spNil) (CCode.at c16 [1,1,1,1,1,0]) [] leafK (E16 hl j o r u v [(19,.ptr 2 0 0),(20,.ptr 3 0 0)]) [] (H16 c t [Cx c,Cyb c (.own 4 1 l.length),Rw4 l]) =
  let x1_ := (D.int .i64 (Cmp.houses c))
  let x2_ := (D.sl false (List.length (Cmp.trades c)) (enc eT (Cmp.trades c)))
  let x3_ := (D.sl false (List.length (Cmp.divs c)) (enc eV (Cmp.divs c)))
  let x4_ := (D.sl false (List.length (Cmp.splits c)) (enc eS (Cmp.splits c)))
  let x5_ := (D.sl false (List.length (Cmp.closed c)) (enc eR (Cmp.closed c)))
  let x6_ := (Blk.box [V.d x1_,V.d (D.sl false (List.length (Cmp.held c)) (enc eI (Cmp.held c))),V.d x2_,V.d x3_,V.d x4_,V.d x5_])
  Tr.need (Int.ofNat (List.length hl) ≠ (0:Int)) (Tr.leaf CExit.normal [(3,V.d (D.int IntKind.u8 j)),(4,V.d (D.int IntKind.u8 o)),(5,V.d (D.int IntKind.u8 r)),(7,V.d (D.int IntKind.u8 v)),(17,V.ptr 0 0 0),(18,V.ptr 1 0 0),(19,V.ptr 2 0 0),(20,V.ptr 3 0 0),(21,V.d (D.int .i64 (Int.tmod (IntKind.wrap IntKind.i64 u) (Int.ofNat (List.length hl)))))] [some x6_,some (Blk.box [V.d (D.sl false (List.length (Tru.sold t)) (enc eI (Tru.sold t))),V.d (D.sl false (List.length (Tru.deliv t)) (enc eI (Tru.deliv t)))]),some x6_,some (Blk.box [V.d x1_,V.own 4 1 (List.length l),V.d x2_,V.d x3_,V.d x4_,V.d x5_]),some (Blk.row 3 1 1 (enc eI l))]) := by kernel_rfl
theorem v16fa (c:Cmp) (t:Tru) (j o r v h:Int) (l:List Int):sx (mkX spNil) (CCode.at c16 [1,1,1,1,1,1,0]) [] leafK (F16 j o r [(7,.d (.int .u8 v)),(17,.ptr 0 0 0),(18,.ptr 1 0 0),(19,.ptr 2 0 0),(20,.ptr 3 0 0),(21,vi h)]) [] (H16 c t [Cx c,Cyb c (.own 4 1 l.length),Rw4 l]) =
  let x1_ := (((0:Int) ≤ h ∧ h < Int.ofNat (List.length l)) ∧ 1 = 1 ∧ Int.toNat h * 1 + 1 ≤ List.length (enc eI l))
  let x2_ := (Int.toNat h * 1)
  let x3_ := (IntKind.wrap IntKind.i64 v)
  let x4_ := (min2 (100:Int) (dI (enc eI l) x2_ + Int.tmod x3_ (30:Int)))
  let x5_ := [V.d (D.int .i64 x4_)]
  let x6_ := (D.int .i64 (Cmp.houses c))
  let x7_ := (D.sl false (List.length (Cmp.trades c)) (enc eT (Cmp.trades c)))
  let x8_ := (D.sl false (List.length (Cmp.divs c)) (enc eV (Cmp.divs c)))
  let x9_ := (D.sl false (List.length (Cmp.splits c)) (enc eS (Cmp.splits c)))
  let x10_ := (D.sl false (List.length (Cmp.closed c)) (enc eR (Cmp.closed c)))
  let x11_ := (Blk.box [V.d x6_,V.d (D.sl false (List.length (Cmp.held c)) (enc eI (Cmp.held c))),V.d x7_,V.d x8_,V.d x9_,V.d x10_])
  Tr.need x1_ (Tr.need (1 = 1 ∧ (enc eI l)[Int.toNat h * 1]? = some (D.int .i64 (dI (enc eI l) x2_))) (Tr.need ((30:Int) ≠ (0:Int)) (Tr.need (-9223372036854775808 ≤ dI (enc eI l) x2_ + Int.tmod x3_ (30:Int) ∧ dI (enc eI l) x2_ + Int.tmod x3_ (30:Int) ≤ 9223372036854775807) (Tr.need x1_ (Tr.need (1 = 1 ∧ Int.toNat h * 1 + List.length x5_ ≤ List.length (enc eI l) ∧ List.length x5_ = 1) (Tr.leaf CExit.normal [(3,V.d (D.int IntKind.u8 j)),(4,V.d (D.int IntKind.u8 o)),(5,V.d (D.int IntKind.u8 r)),(17,V.ptr 0 0 0),(18,V.ptr 1 0 0),(19,V.ptr 2 0 0),(20,V.ptr 3 0 0)] [some x11_,some (Blk.box [V.d (D.sl false (List.length (Tru.sold t)) (enc eI (Tru.sold t))),V.d (D.sl false (List.length (Tru.deliv t)) (enc eI (Tru.deliv t)))]),some x11_,some (Blk.box [V.d x6_,V.own 4 1 (List.length l),V.d x7_,V.d x8_,V.d x9_,V.d x10_]),some (Blk.row 3 1 1 (putAt (enc eI l) x2_ [D.int .i64 x4_]))])))))) := by kernel_rfl
theorem v16ga (c:Cmp) (t:Tru) (j o r:Int) (l:List Int):sx X16g (CCode.at c16 [1,1,1,1,1,1,1,0]) [] leafK (F16 j o r [(17,.ptr 0 0 0),(18,.ptr 1 0 0),(19,.ptr 2 0 0),(20,.ptr 3 0 0)]) [] (H16 c t [Cx c,Cyb c (.own 4 1 l.length),Rw4 l]) =
  let x1_ := (List.length (Cmp.trades c))
  let x2_ := (List.length (Cmp.divs c))
  let x3_ := (List.length (Cmp.splits c))
  let x4_ := (List.length (Cmp.closed c))
  let x5_ := (dC (Cmp.houses c) (List.length l) (enc eI l) x1_ (enc eT (Cmp.trades c)) x2_ (enc eV (Cmp.divs c)) x3_ (enc eS (Cmp.splits c)) x4_ (enc eR (Cmp.closed c)))
  let x6_ := (D.int .i64 (Cmp.houses c))
  let x7_ := (D.sl false x1_ (enc eT (Cmp.trades c)))
  let x8_ := (D.sl false x2_ (enc eV (Cmp.divs c)))
  let x9_ := (D.sl false x3_ (enc eS (Cmp.splits c)))
  let x10_ := (D.sl false x4_ (enc eR (Cmp.closed c)))
  let x11_ := [V.d x6_,V.d (D.sl false (List.length l) (enc eI l)),V.d x7_,V.d x8_,V.d x9_,V.d x10_]
  let x12_ := (Blk.box [V.d x6_,V.d (D.sl false (List.length (Cmp.held c)) (enc eI (Cmp.held c))),V.d x7_,V.d x8_,V.d x9_,V.d x10_])
  let x13_ := [some x12_,some (Blk.box [V.d (D.sl false (List.length (Tru.sold t)) (enc eI (Tru.sold t))),V.d (D.sl false (List.length (Tru.deliv t)) (enc eI (Tru.deliv t)))]),some x12_,some (Blk.box x11_),none]
  Tr.need (1 = 1) (Tr.need (1 = 1) (Tr.need (Cv x5_ = V.agg x11_ ∧ small x5_) (Tr.need (Uv (dUe t) = Uv t ∧ List.length (Tru.sold (dUe t)) ≤ 1000000 ∧ List.length (Tru.deliv (dUe t)) ≤ 1000000) (Tr.need (Cv (dCe x5_) = Cv x5_ ∧ Uv (dUe (dUe t)) = Uv (dUe t) ∧ True) (Tr.br (!askE (dCe x5_) (dUe (dUe t)) == (0:Int)) (Tr.leaf CExit.ret [(16,V.d (D.bool false))] x13_) (Tr.leaf CExit.normal [(3,V.d (D.int IntKind.u8 j)),(4,V.d (D.int IntKind.u8 o)),(5,V.d (D.int IntKind.u8 r)),(17,V.ptr 0 0 0),(19,V.ptr 2 0 0),(75,V.d (D.bool !askE (dCe x5_) (dUe (dUe t)) == (0:Int)))] x13_)))))) := by kernel_rfl
theorem gt16a {c:Cmp} {t:Tru} {j o r:Int} (hf:faultM c = 0) (htr:truthB c t = true) (hne:(truthsP c).isEmpty = false) (hd:0 < c.divs.length) (h0:0 ≤ j) (h1:j ≤ 255) (h2:0 ≤ o) (h3:o ≤ 255) (h4:0 ≤ r) (h5:r ≤ 255) {h:Nat} {n:Int} (hn:lat c.held (h:Nat) ≤ n) (hn0:0 ≤ n) (hn1:n ≤ 100):wpc Try.prog G16 0 (.seq (CCode.at c16 [1,1,1,1,1,1,1,0]) (.seq (CCode.at c16 [1,1,1,1,1,1,1,1,0]) (.seq (CCode.at c16 [1,1,1,1,1,1,1,1,1,0]) (.seq (CCode.at c16 [1,1,1,1,1,1,1,1,1,1,0]) (.seq (CCode.at c16 [1,1,1,1,1,1,1,1,1,1,1,0]) (.seq (CCode.at c16 [1,1,1,1,1,1,1,1,1,1,1,1,0]) (.seq (CCode.at c16 [1,1,1,1,1,1,1,1,1,1,1,1,1,0]) (CCode.at c16 [1,1,1,1,1,1,1,1,1,1,1,1,1,1])))))))) Q16 (F16 j o r [(17,.ptr 0 0 0),(18,.ptr 1 0 0),(19,.ptr 2 0 0),(20,.ptr 3 0 0)]) (H16 c t [Cx c,Cyb c (.own 4 1 (c.held.set h n).length),Rw4 (c.held.set h n)]) := by
 have hb := (fault_ok hf).1
 have hfy := fault_hold (h := h) hf hn0 hn1
 have hay := truth_ask hfy (truth_hold hf hn htr)
 obtain ⟨_,hdt,_⟩ := askE_ok (truth_ask hf htr)
 obtain ⟨l1,l2⟩ := dated_len hdt
 have hu:t.sold.length ≤ 1000000 ∧ t.deliv.length ≤ 1000000 := by omega
 have hsm:small (c.hold h n) := by
  have:(c.hold h n).held.length = c.held.length := by simp [Cmp.hold]
  unfold small
  rw [this]
  exact ⟨by omega,show c.trades.length ≤ 1000000 by omega,show c.divs.length ≤ 1000000 by omega,show c.splits.length ≤ 1000000 by omega,show c.closed.length ≤ 1000000 by omega⟩
 have hcv:Cv (c.hold h n) = V.agg [V.d (D.int .i64 c.houses),V.d (D.sl false (c.held.set h n).length (enc eI (c.held.set h n))),V.d (D.sl false c.trades.length (enc eT c.trades)),V.d (D.sl false c.divs.length (enc eV c.divs)),V.d (D.sl false c.splits.length (enc eS c.splits)),V.d (D.sl false c.closed.length (enc eR c.closed))] := rfl
 refine wpc_seq' (wpc_tree (X := X16g) tab16g_ok (v16ga c t j o r (c.held.set h n)) ?_)
 simp only [holds,dC_hold,dCe,dC_enc,dUe,dU_enc, ← hcv,hsm,hu,hay,true_and,and_true,beq_self_eq_true,Bool.not_true,Bool.false_eq_true,false_imp_iff,true_imp_iff,and_self]
 exact ht16a hf hne hd h0 h1 h2 h3 h4 h5 _
theorem ut16a {c:Cmp} {t:Tru} {j o r:Int} (hf:faultM c = 0) (htr:truthB c t = true) (hne:(truthsP c).isEmpty = false) (hd:0 < c.divs.length) (h0:0 ≤ j) (h1:j ≤ 255) (h2:0 ≤ o) (h3:o ≤ 255) (h4:0 ≤ r) (h5:r ≤ 255) {v:Int} (h6:0 ≤ v) (h7:v ≤ 255) {h:Nat} (hh:h < c.held.length):wpc Try.prog G16 0 (.seq (CCode.at c16 [1,1,1,1,1,1,0]) (.seq (CCode.at c16 [1,1,1,1,1,1,1,0]) (.seq (CCode.at c16 [1,1,1,1,1,1,1,1,0]) (.seq (CCode.at c16 [1,1,1,1,1,1,1,1,1,0]) (.seq (CCode.at c16 [1,1,1,1,1,1,1,1,1,1,0]) (.seq (CCode.at c16 [1,1,1,1,1,1,1,1,1,1,1,0]) (.seq (CCode.at c16 [1,1,1,1,1,1,1,1,1,1,1,1,0]) (.seq (CCode.at c16 [1,1,1,1,1,1,1,1,1,1,1,1,1,0]) (CCode.at c16 [1,1,1,1,1,1,1,1,1,1,1,1,1,1]))))))))) Q16 (F16 j o r [(7,.d (.int .u8 v)),(17,.ptr 0 0 0),(18,.ptr 1 0 0),(19,.ptr 2 0 0),(20,.ptr 3 0 0),(21,vi (h:Nat))]) (H16 c t [Cx c,Cyb c (.own 4 1 c.held.length),Rw4 c.held]) := by
 have hwv:IntKind.wrap .i64 v = v := wrap_i64 (by omega) (by omega)
 have hq := wd h6 (show v ≤ 65535 by omega) (n := 30) (by omega)
 have hi := held_in hf hh
 have g := get_I hh
 have d1:dI (enc eI c.held) (h * 1) = lat c.held (h:Nat) := by unfold dI; rw [g]
 have p1:∀ n,putAt (enc eI c.held) (h * 1) [D.int .i64 n] = enc eI (c.held.set h n) := fun n => by rw [putAt_set _ _ _ (by simp; omega),set_I]
 generalize hv:v.tmod 30 = vv at *
 have F := gt16a (j := j) (o := o) (r := r) hf htr hne hd h0 h1 h2 h3 h4 h5 (h := h) (n := min2 100 (lat c.held (h:Nat) + vv)) (by unfold min2; split <;> omega) (by unfold min2; split <;> omega) (by unfold min2; split <;> omega)
 simp only [List.length_set] at F
 refine wpc_seq' (wpc_tree (X := mkX spNil) (spNil_ok _) (v16fa c t j o r v (h:Nat) c.held) ?_)
 simp only [holds,Int.ofNat_eq_natCast,Int.toNat_natCast,hwv,hv,d1,g,p1,len_I,List.length_cons,List.length_nil,true_and,and_true]
 exact ⟨⟨⟨by omega,by omega⟩,by omega⟩,by decide,⟨by omega,by omega⟩,⟨⟨by omega,by omega⟩,by omega⟩,by omega,F⟩
theorem et16a {c:Cmp} {t:Tru} {j o r:Int} (hf:faultM c = 0) (htr:truthB c t = true) (hne:(truthsP c).isEmpty = false) (hd:0 < c.divs.length) (h0:0 ≤ j) (h1:j ≤ 255) (h2:0 ≤ o) (h3:o ≤ 255) (h4:0 ≤ r) (h5:r ≤ 255) {u v:Int} (h6:0 ≤ v) (h7:v ≤ 255) (h8:0 ≤ u) (h9:u ≤ 255) {hl:List Int} (hh:hl.length = c.held.length):wpc Try.prog G16 0 (.seq (CCode.at c16 [1,1,1,1,0]) (.seq (CCode.at c16 [1,1,1,1,1,0]) (.seq (CCode.at c16 [1,1,1,1,1,1,0]) (.seq (CCode.at c16 [1,1,1,1,1,1,1,0]) (.seq (CCode.at c16 [1,1,1,1,1,1,1,1,0]) (.seq (CCode.at c16 [1,1,1,1,1,1,1,1,1,0]) (.seq (CCode.at c16 [1,1,1,1,1,1,1,1,1,1,0]) (.seq (CCode.at c16 [1,1,1,1,1,1,1,1,1,1,1,0]) (.seq (CCode.at c16 [1,1,1,1,1,1,1,1,1,1,1,1,0]) (.seq (CCode.at c16 [1,1,1,1,1,1,1,1,1,1,1,1,1,0]) (CCode.at c16 [1,1,1,1,1,1,1,1,1,1,1,1,1,1]))))))))))) Q16 (E16 hl j o r u v [(19,.ptr 2 0 0),(20,.ptr 3 0 0)]) (H16 c t [Cx c,Cx c]) := by
 have hb := (fault_ok hf).1
 have hwu:IntKind.wrap .i64 u = u := wrap_i64 (by omega) (by omega)
 have hq := wd h8 (show u ≤ 65535 by omega) (n := c.held.length) (by omega)
 obtain ⟨k,ek⟩ := Int.eq_ofNat_of_zero_le hq.1
 refine wpc_seq' (wpc_tree (X := mkX (spAdd 56 ent56q spNil)) (spAdd_ok ent56q_ok (spNil_ok _)) (v16da hl c t j o r u v) ?_)
 simp only [holds,len_I,Nat.mul_one,true_and]
 refine ⟨by omega, ?_⟩
 refine wpc_seq' (wpc_tree (X := mkX spNil) (spNil_ok _) (v16ea hl c t j o r u v c.held) ?_)
 simp only [holds,Int.ofNat_eq_natCast,hh,hwu,ek]
 exact ⟨by omega,ut16a (v := v) hf htr hne hd h0 h1 h2 h3 h4 h5 h6 h7 (h := k) (by omega)⟩
theorem v16db (hl:List Int) (c:Cmp) (t:Tru) (j o r u v:Int):sx (mkX (spAdd 56 ent56q spNil)) (CCode.at c16 [1,1,1,1,0]) [] leafK (E16 hl j o r u v [(19,.ptr 3 0 0),(20,.ptr 2 0 0)]) [] (H16 c t [Cx c,Cx c]) =
  let x1_ := (D.int .i64 (Cmp.houses c))
  let x2_ := (List.length (Cmp.held c))
  let x3_ := (D.sl false (List.length (Cmp.trades c)) (enc eT (Cmp.trades c)))
  let x4_ := (D.sl false (List.length (Cmp.divs c)) (enc eV (Cmp.divs c)))
  let x5_ := (D.sl false (List.length (Cmp.splits c)) (enc eS (Cmp.splits c)))
  let x6_ := (D.sl false (List.length (Cmp.closed c)) (enc eR (Cmp.closed c)))
  let y0_ := (enc eI (Cmp.held c))
  let x7_ := (Blk.box [V.d x1_,V.d (D.sl false x2_ y0_),V.d x3_,V.d x4_,V.d x5_,V.d x6_])
  Tr.need (List.length y0_ = List.length (Cmp.held c) ∧ List.length (Cmp.held c) ≤ 1000000) (Tr.leaf CExit.normal [(0,V.d (D.sl false (List.length hl) (enc eI hl))),(3,V.d (D.int IntKind.u8 j)),(4,V.d (D.int IntKind.u8 o)),(5,V.d (D.int IntKind.u8 r)),(6,V.d (D.int IntKind.u8 u)),(7,V.d (D.int IntKind.u8 v)),(17,V.ptr 0 0 0),(18,V.ptr 1 0 0),(19,V.ptr 3 0 0),(20,V.ptr 2 0 0)] [some x7_,some (Blk.box [V.d (D.sl false (List.length (Tru.sold t)) (enc eI (Tru.sold t))),V.d (D.sl false (List.length (Tru.deliv t)) (enc eI (Tru.deliv t)))]),some (Blk.box [V.d x1_,V.own 4 1 x2_,V.d x3_,V.d x4_,V.d x5_,V.d x6_]),some x7_,some (Blk.row 3 1 1 y0_)]) := by kernel_rfl
theorem v16eb (hl:List Int) (c:Cmp) (t:Tru) (j o r u v:Int) (l:List Int):sx (mkX spNil) (CCode.at c16 [1,1,1,1,1,0]) [] leafK (E16 hl j o r u v [(19,.ptr 3 0 0),(20,.ptr 2 0 0)]) [] (H16 c t [Cyb c (.own 4 1 l.length),Cx c,Rw4 l]) =
  let x1_ := (D.int .i64 (Cmp.houses c))
  let x2_ := (D.sl false (List.length (Cmp.trades c)) (enc eT (Cmp.trades c)))
  let x3_ := (D.sl false (List.length (Cmp.divs c)) (enc eV (Cmp.divs c)))
  let x4_ := (D.sl false (List.length (Cmp.splits c)) (enc eS (Cmp.splits c)))
  let x5_ := (D.sl false (List.length (Cmp.closed c)) (enc eR (Cmp.closed c)))
  let x6_ := (Blk.box [V.d x1_,V.d (D.sl false (List.length (Cmp.held c)) (enc eI (Cmp.held c))),V.d x2_,V.d x3_,V.d x4_,V.d x5_])
  Tr.need (Int.ofNat (List.length hl) ≠ (0:Int)) (Tr.leaf CExit.normal [(3,V.d (D.int IntKind.u8 j)),(4,V.d (D.int IntKind.u8 o)),(5,V.d (D.int IntKind.u8 r)),(7,V.d (D.int IntKind.u8 v)),(17,V.ptr 0 0 0),(18,V.ptr 1 0 0),(19,V.ptr 3 0 0),(20,V.ptr 2 0 0),(21,V.d (D.int .i64 (Int.tmod (IntKind.wrap IntKind.i64 u) (Int.ofNat (List.length hl)))))] [some x6_,some (Blk.box [V.d (D.sl false (List.length (Tru.sold t)) (enc eI (Tru.sold t))),V.d (D.sl false (List.length (Tru.deliv t)) (enc eI (Tru.deliv t)))]),some (Blk.box [V.d x1_,V.own 4 1 (List.length l),V.d x2_,V.d x3_,V.d x4_,V.d x5_]),some x6_,some (Blk.row 3 1 1 (enc eI l))]) := by kernel_rfl
theorem v16fb (c:Cmp) (t:Tru) (j o r v h:Int) (l:List Int):sx (mkX spNil) (CCode.at c16 [1,1,1,1,1,1,0]) [] leafK (F16 j o r [(7,.d (.int .u8 v)),(17,.ptr 0 0 0),(18,.ptr 1 0 0),(19,.ptr 3 0 0),(20,.ptr 2 0 0),(21,vi h)]) [] (H16 c t [Cyb c (.own 4 1 l.length),Cx c,Rw4 l]) =
  let x1_ := (((0:Int) ≤ h ∧ h < Int.ofNat (List.length l)) ∧ 1 = 1 ∧ Int.toNat h * 1 + 1 ≤ List.length (enc eI l))
  let x2_ := (Int.toNat h * 1)
  let x3_ := (IntKind.wrap IntKind.i64 v)
  let x4_ := (min2 (100:Int) (dI (enc eI l) x2_ + Int.tmod x3_ (30:Int)))
  let x5_ := [V.d (D.int .i64 x4_)]
  let x6_ := (D.int .i64 (Cmp.houses c))
  let x7_ := (D.sl false (List.length (Cmp.trades c)) (enc eT (Cmp.trades c)))
  let x8_ := (D.sl false (List.length (Cmp.divs c)) (enc eV (Cmp.divs c)))
  let x9_ := (D.sl false (List.length (Cmp.splits c)) (enc eS (Cmp.splits c)))
  let x10_ := (D.sl false (List.length (Cmp.closed c)) (enc eR (Cmp.closed c)))
  let x11_ := (Blk.box [V.d x6_,V.d (D.sl false (List.length (Cmp.held c)) (enc eI (Cmp.held c))),V.d x7_,V.d x8_,V.d x9_,V.d x10_])
  Tr.need x1_ (Tr.need (1 = 1 ∧ (enc eI l)[Int.toNat h * 1]? = some (D.int .i64 (dI (enc eI l) x2_))) (Tr.need ((30:Int) ≠ (0:Int)) (Tr.need (-9223372036854775808 ≤ dI (enc eI l) x2_ + Int.tmod x3_ (30:Int) ∧ dI (enc eI l) x2_ + Int.tmod x3_ (30:Int) ≤ 9223372036854775807) (Tr.need x1_ (Tr.need (1 = 1 ∧ Int.toNat h * 1 + List.length x5_ ≤ List.length (enc eI l) ∧ List.length x5_ = 1) (Tr.leaf CExit.normal [(3,V.d (D.int IntKind.u8 j)),(4,V.d (D.int IntKind.u8 o)),(5,V.d (D.int IntKind.u8 r)),(17,V.ptr 0 0 0),(18,V.ptr 1 0 0),(19,V.ptr 3 0 0),(20,V.ptr 2 0 0)] [some x11_,some (Blk.box [V.d (D.sl false (List.length (Tru.sold t)) (enc eI (Tru.sold t))),V.d (D.sl false (List.length (Tru.deliv t)) (enc eI (Tru.deliv t)))]),some (Blk.box [V.d x6_,V.own 4 1 (List.length l),V.d x7_,V.d x8_,V.d x9_,V.d x10_]),some x11_,some (Blk.row 3 1 1 (putAt (enc eI l) x2_ [D.int .i64 x4_]))])))))) := by kernel_rfl
theorem v16gb (c:Cmp) (t:Tru) (j o r:Int) (l:List Int):sx X16g (CCode.at c16 [1,1,1,1,1,1,1,0]) [] leafK (F16 j o r [(17,.ptr 0 0 0),(18,.ptr 1 0 0),(19,.ptr 3 0 0),(20,.ptr 2 0 0)]) [] (H16 c t [Cyb c (.own 4 1 l.length),Cx c,Rw4 l]) =
  let x1_ := (List.length (Cmp.trades c))
  let x2_ := (List.length (Cmp.divs c))
  let x3_ := (List.length (Cmp.splits c))
  let x4_ := (List.length (Cmp.closed c))
  let x5_ := (dC (Cmp.houses c) (List.length l) (enc eI l) x1_ (enc eT (Cmp.trades c)) x2_ (enc eV (Cmp.divs c)) x3_ (enc eS (Cmp.splits c)) x4_ (enc eR (Cmp.closed c)))
  let x6_ := (D.int .i64 (Cmp.houses c))
  let x7_ := (D.sl false x1_ (enc eT (Cmp.trades c)))
  let x8_ := (D.sl false x2_ (enc eV (Cmp.divs c)))
  let x9_ := (D.sl false x3_ (enc eS (Cmp.splits c)))
  let x10_ := (D.sl false x4_ (enc eR (Cmp.closed c)))
  let x11_ := [V.d x6_,V.d (D.sl false (List.length l) (enc eI l)),V.d x7_,V.d x8_,V.d x9_,V.d x10_]
  let x12_ := (Blk.box [V.d x6_,V.d (D.sl false (List.length (Cmp.held c)) (enc eI (Cmp.held c))),V.d x7_,V.d x8_,V.d x9_,V.d x10_])
  let x13_ := [some x12_,some (Blk.box [V.d (D.sl false (List.length (Tru.sold t)) (enc eI (Tru.sold t))),V.d (D.sl false (List.length (Tru.deliv t)) (enc eI (Tru.deliv t)))]),some (Blk.box x11_),some x12_,none]
  Tr.need (1 = 1) (Tr.need (1 = 1) (Tr.need (Cv x5_ = V.agg x11_ ∧ small x5_) (Tr.need (Uv (dUe t) = Uv t ∧ List.length (Tru.sold (dUe t)) ≤ 1000000 ∧ List.length (Tru.deliv (dUe t)) ≤ 1000000) (Tr.need (Cv (dCe x5_) = Cv x5_ ∧ Uv (dUe (dUe t)) = Uv (dUe t) ∧ True) (Tr.br (!askE (dCe x5_) (dUe (dUe t)) == (0:Int)) (Tr.leaf CExit.ret [(16,V.d (D.bool false))] x13_) (Tr.leaf CExit.normal [(3,V.d (D.int IntKind.u8 j)),(4,V.d (D.int IntKind.u8 o)),(5,V.d (D.int IntKind.u8 r)),(17,V.ptr 0 0 0),(19,V.ptr 3 0 0),(75,V.d (D.bool !askE (dCe x5_) (dUe (dUe t)) == (0:Int)))] x13_)))))) := by kernel_rfl
theorem gt16b {c:Cmp} {t:Tru} {j o r:Int} (hf:faultM c = 0) (htr:truthB c t = true) (hne:(truthsP c).isEmpty = false) (hd:0 < c.divs.length) (h0:0 ≤ j) (h1:j ≤ 255) (h2:0 ≤ o) (h3:o ≤ 255) (h4:0 ≤ r) (h5:r ≤ 255) {h:Nat} {n:Int} (hn:lat c.held (h:Nat) ≤ n) (hn0:0 ≤ n) (hn1:n ≤ 100):wpc Try.prog G16 0 (.seq (CCode.at c16 [1,1,1,1,1,1,1,0]) (.seq (CCode.at c16 [1,1,1,1,1,1,1,1,0]) (.seq (CCode.at c16 [1,1,1,1,1,1,1,1,1,0]) (.seq (CCode.at c16 [1,1,1,1,1,1,1,1,1,1,0]) (.seq (CCode.at c16 [1,1,1,1,1,1,1,1,1,1,1,0]) (.seq (CCode.at c16 [1,1,1,1,1,1,1,1,1,1,1,1,0]) (.seq (CCode.at c16 [1,1,1,1,1,1,1,1,1,1,1,1,1,0]) (CCode.at c16 [1,1,1,1,1,1,1,1,1,1,1,1,1,1])))))))) Q16 (F16 j o r [(17,.ptr 0 0 0),(18,.ptr 1 0 0),(19,.ptr 3 0 0),(20,.ptr 2 0 0)]) (H16 c t [Cyb c (.own 4 1 (c.held.set h n).length),Cx c,Rw4 (c.held.set h n)]) := by
 have hb := (fault_ok hf).1
 have hfy := fault_hold (h := h) hf hn0 hn1
 have hay := truth_ask hfy (truth_hold hf hn htr)
 obtain ⟨_,hdt,_⟩ := askE_ok (truth_ask hf htr)
 obtain ⟨l1,l2⟩ := dated_len hdt
 have hu:t.sold.length ≤ 1000000 ∧ t.deliv.length ≤ 1000000 := by omega
 have hsm:small (c.hold h n) := by
  have:(c.hold h n).held.length = c.held.length := by simp [Cmp.hold]
  unfold small
  rw [this]
  exact ⟨by omega,show c.trades.length ≤ 1000000 by omega,show c.divs.length ≤ 1000000 by omega,show c.splits.length ≤ 1000000 by omega,show c.closed.length ≤ 1000000 by omega⟩
 have hcv:Cv (c.hold h n) = V.agg [V.d (D.int .i64 c.houses),V.d (D.sl false (c.held.set h n).length (enc eI (c.held.set h n))),V.d (D.sl false c.trades.length (enc eT c.trades)),V.d (D.sl false c.divs.length (enc eV c.divs)),V.d (D.sl false c.splits.length (enc eS c.splits)),V.d (D.sl false c.closed.length (enc eR c.closed))] := rfl
 refine wpc_seq' (wpc_tree (X := X16g) tab16g_ok (v16gb c t j o r (c.held.set h n)) ?_)
 simp only [holds,dC_hold,dCe,dC_enc,dUe,dU_enc, ← hcv,hsm,hu,hay,true_and,and_true,beq_self_eq_true,Bool.not_true,Bool.false_eq_true,false_imp_iff,true_imp_iff,and_self]
 exact ht16b hf hne hd h0 h1 h2 h3 h4 h5 _
theorem ut16b {c:Cmp} {t:Tru} {j o r:Int} (hf:faultM c = 0) (htr:truthB c t = true) (hne:(truthsP c).isEmpty = false) (hd:0 < c.divs.length) (h0:0 ≤ j) (h1:j ≤ 255) (h2:0 ≤ o) (h3:o ≤ 255) (h4:0 ≤ r) (h5:r ≤ 255) {v:Int} (h6:0 ≤ v) (h7:v ≤ 255) {h:Nat} (hh:h < c.held.length):wpc Try.prog G16 0 (.seq (CCode.at c16 [1,1,1,1,1,1,0]) (.seq (CCode.at c16 [1,1,1,1,1,1,1,0]) (.seq (CCode.at c16 [1,1,1,1,1,1,1,1,0]) (.seq (CCode.at c16 [1,1,1,1,1,1,1,1,1,0]) (.seq (CCode.at c16 [1,1,1,1,1,1,1,1,1,1,0]) (.seq (CCode.at c16 [1,1,1,1,1,1,1,1,1,1,1,0]) (.seq (CCode.at c16 [1,1,1,1,1,1,1,1,1,1,1,1,0]) (.seq (CCode.at c16 [1,1,1,1,1,1,1,1,1,1,1,1,1,0]) (CCode.at c16 [1,1,1,1,1,1,1,1,1,1,1,1,1,1]))))))))) Q16 (F16 j o r [(7,.d (.int .u8 v)),(17,.ptr 0 0 0),(18,.ptr 1 0 0),(19,.ptr 3 0 0),(20,.ptr 2 0 0),(21,vi (h:Nat))]) (H16 c t [Cyb c (.own 4 1 c.held.length),Cx c,Rw4 c.held]) := by
 have hwv:IntKind.wrap .i64 v = v := wrap_i64 (by omega) (by omega)
 have hq := wd h6 (show v ≤ 65535 by omega) (n := 30) (by omega)
 have hi := held_in hf hh
 have g := get_I hh
 have d1:dI (enc eI c.held) (h * 1) = lat c.held (h:Nat) := by unfold dI; rw [g]
 have p1:∀ n,putAt (enc eI c.held) (h * 1) [D.int .i64 n] = enc eI (c.held.set h n) := fun n => by rw [putAt_set _ _ _ (by simp; omega),set_I]
 generalize hv:v.tmod 30 = vv at *
 have F := gt16b (j := j) (o := o) (r := r) hf htr hne hd h0 h1 h2 h3 h4 h5 (h := h) (n := min2 100 (lat c.held (h:Nat) + vv)) (by unfold min2; split <;> omega) (by unfold min2; split <;> omega) (by unfold min2; split <;> omega)
 simp only [List.length_set] at F
 refine wpc_seq' (wpc_tree (X := mkX spNil) (spNil_ok _) (v16fb c t j o r v (h:Nat) c.held) ?_)
 simp only [holds,Int.ofNat_eq_natCast,Int.toNat_natCast,hwv,hv,d1,g,p1,len_I,List.length_cons,List.length_nil,true_and,and_true]
 exact ⟨⟨⟨by omega,by omega⟩,by omega⟩,by decide,⟨by omega,by omega⟩,⟨⟨by omega,by omega⟩,by omega⟩,by omega,F⟩
theorem et16b {c:Cmp} {t:Tru} {j o r:Int} (hf:faultM c = 0) (htr:truthB c t = true) (hne:(truthsP c).isEmpty = false) (hd:0 < c.divs.length) (h0:0 ≤ j) (h1:j ≤ 255) (h2:0 ≤ o) (h3:o ≤ 255) (h4:0 ≤ r) (h5:r ≤ 255) {u v:Int} (h6:0 ≤ v) (h7:v ≤ 255) (h8:0 ≤ u) (h9:u ≤ 255) {hl:List Int} (hh:hl.length = c.held.length):wpc Try.prog G16 0 (.seq (CCode.at c16 [1,1,1,1,0]) (.seq (CCode.at c16 [1,1,1,1,1,0]) (.seq (CCode.at c16 [1,1,1,1,1,1,0]) (.seq (CCode.at c16 [1,1,1,1,1,1,1,0]) (.seq (CCode.at c16 [1,1,1,1,1,1,1,1,0]) (.seq (CCode.at c16 [1,1,1,1,1,1,1,1,1,0]) (.seq (CCode.at c16 [1,1,1,1,1,1,1,1,1,1,0]) (.seq (CCode.at c16 [1,1,1,1,1,1,1,1,1,1,1,0]) (.seq (CCode.at c16 [1,1,1,1,1,1,1,1,1,1,1,1,0]) (.seq (CCode.at c16 [1,1,1,1,1,1,1,1,1,1,1,1,1,0]) (CCode.at c16 [1,1,1,1,1,1,1,1,1,1,1,1,1,1]))))))))))) Q16 (E16 hl j o r u v [(19,.ptr 3 0 0),(20,.ptr 2 0 0)]) (H16 c t [Cx c,Cx c]) := by
 have hb := (fault_ok hf).1
 have hwu:IntKind.wrap .i64 u = u := wrap_i64 (by omega) (by omega)
 have hq := wd h8 (show u ≤ 65535 by omega) (n := c.held.length) (by omega)
 obtain ⟨k,ek⟩ := Int.eq_ofNat_of_zero_le hq.1
 refine wpc_seq' (wpc_tree (X := mkX (spAdd 56 ent56q spNil)) (spAdd_ok ent56q_ok (spNil_ok _)) (v16db hl c t j o r u v) ?_)
 simp only [holds,len_I,Nat.mul_one,true_and]
 refine ⟨by omega, ?_⟩
 refine wpc_seq' (wpc_tree (X := mkX spNil) (spNil_ok _) (v16eb hl c t j o r u v c.held) ?_)
 simp only [holds,Int.ofNat_eq_natCast,hh,hwu,ek]
 exact ⟨by omega,ut16b (v := v) hf htr hne hd h0 h1 h2 h3 h4 h5 h6 h7 (h := k) (by omega)⟩
theorem v16c (hl:List Int) (c:Cmp) (t:Tru) (j o r u v:Int):sx (mkX spNil) (CCode.at c16 [1,1,1,0]) [] leafK (E16 hl j o r u v []) [] (H16 c t []) =
  let x1_ := (Blk.box [V.d (D.int .i64 (Cmp.houses c)),V.d (D.sl false (List.length (Cmp.held c)) (enc eI (Cmp.held c))),V.d (D.sl false (List.length (Cmp.trades c)) (enc eT (Cmp.trades c))),V.d (D.sl false (List.length (Cmp.divs c)) (enc eV (Cmp.divs c))),V.d (D.sl false (List.length (Cmp.splits c)) (enc eS (Cmp.splits c))),V.d (D.sl false (List.length (Cmp.closed c)) (enc eR (Cmp.closed c)))])
  let x2_ := [some x1_,some (Blk.box [V.d (D.sl false (List.length (Tru.sold t)) (enc eI (Tru.sold t))),V.d (D.sl false (List.length (Tru.deliv t)) (enc eI (Tru.deliv t)))]),some x1_,some x1_]
  let y2_ := (0,V.d (D.sl false (List.length hl) (enc eI hl)))
  let y0_ := [y2_,(3,V.d (D.int IntKind.u8 j)),(4,V.d (D.int IntKind.u8 o)),(5,V.d (D.int IntKind.u8 r)),(6,V.d (D.int IntKind.u8 u)),(7,V.d (D.int IntKind.u8 v)),(17,V.ptr 0 0 0),(18,V.ptr 1 0 0),(19,V.ptr 2 0 0),(20,V.ptr 3 0 0)]
  let x3_ := (y0_ = y0_ ∧ x2_ = x2_)
  let y1_ := [y2_,(3,V.d (D.int IntKind.u8 j)),(4,V.d (D.int IntKind.u8 o)),(5,V.d (D.int IntKind.u8 r)),(6,V.d (D.int IntKind.u8 u)),(7,V.d (D.int IntKind.u8 v)),(17,V.ptr 0 0 0),(18,V.ptr 1 0 0),(19,V.ptr 3 0 0),(20,V.ptr 2 0 0)]
  let x4_ := (y1_ = y1_ ∧ x2_ = x2_)
  Tr.two (Tr.two (Tr.leaf CExit.normal y0_ x2_) (Tr.leaf CExit.normal y1_ x2_)) (Tr.two (Tr.need x3_ (Tr.need x3_ (Tr.leaf CExit.normal y0_ x2_))) (Tr.need x4_ (Tr.need x4_ (Tr.leaf CExit.normal y1_ x2_)))) := by kernel_rfl
theorem y16 (hl ws:List Int) (m j o r u v:Int) (hw:isWords ws) (m0:0 ≤ m) (m1:m ≤ 255) (h0:0 ≤ j) (h1:j ≤ 255) (h2:0 ≤ o) (h3:o ≤ 255) (h4:0 ≤ r) (h5:r ≤ 255) (h8:0 ≤ u) (h9:u ≤ 255) (h6:0 ≤ v) (h7:v ≤ 255) :
  Yields Try.prog 16 [vsl eI hl,vsl eW ws,.d (.int .u8 m),.d (.int .u8 j),.d (.int .u8 o),.d (.int .u8 r),.d (.int .u8 u),.d (.int .u8 v)] (vb true) := by
 refine .of rfl rfl ?_
 obtain ⟨fn,e1,e2,e3,e4,e5⟩ := q16
 refine acalls_of e1 e2 e3 e4 e5 (show 8 ≤ G16.sz by decide) ?_
 show wpc Try.prog G16 0 (.seq (CCode.at c16 [0]) (.seq (CCode.at c16 [1,0]) (.seq (CCode.at c16 [1,1,0]) (.seq (CCode.at c16 [1,1,1,0]) (.seq (CCode.at c16 [1,1,1,1,0]) (.seq (CCode.at c16 [1,1,1,1,1,0]) (.seq (CCode.at c16 [1,1,1,1,1,1,0]) (.seq (CCode.at c16 [1,1,1,1,1,1,1,0]) (.seq (CCode.at c16 [1,1,1,1,1,1,1,1,0]) (.seq (CCode.at c16 [1,1,1,1,1,1,1,1,1,0]) (.seq (CCode.at c16 [1,1,1,1,1,1,1,1,1,1,0]) (.seq (CCode.at c16 [1,1,1,1,1,1,1,1,1,1,1,0]) (.seq (CCode.at c16 [1,1,1,1,1,1,1,1,1,1,1,1,0]) (.seq (CCode.at c16 [1,1,1,1,1,1,1,1,1,1,1,1,1,0]) (CCode.at c16 [1,1,1,1,1,1,1,1,1,1,1,1,1,1]))))))))))))))) Q16 _ _
 refine wpc_seq' (wpc_tree (X := mkX spNil) (spNil_ok _) (v16z hl ws m j o r u v) ?_)
 show wpc Try.prog G16 0 (.seq (CCode.at c16 [1,0]) (.seq (CCode.at c16 [1,1,0]) (.seq (CCode.at c16 [1,1,1,0]) (.seq (CCode.at c16 [1,1,1,1,0]) (.seq (CCode.at c16 [1,1,1,1,1,0]) (.seq (CCode.at c16 [1,1,1,1,1,1,0]) (.seq (CCode.at c16 [1,1,1,1,1,1,1,0]) (.seq (CCode.at c16 [1,1,1,1,1,1,1,1,0]) (.seq (CCode.at c16 [1,1,1,1,1,1,1,1,1,0]) (.seq (CCode.at c16 [1,1,1,1,1,1,1,1,1,1,0]) (.seq (CCode.at c16 [1,1,1,1,1,1,1,1,1,1,1,0]) (.seq (CCode.at c16 [1,1,1,1,1,1,1,1,1,1,1,1,0]) (.seq (CCode.at c16 [1,1,1,1,1,1,1,1,1,1,1,1,1,0]) (CCode.at c16 [1,1,1,1,1,1,1,1,1,1,1,1,1,1])))))))))))))) Q16 (Gp16 hl ws m j o r u v []) []
 refine wpc_seq' (wpc_tree (X := mkX tab16q) tab16q_ok (v16a hl ws m j o r u v) ?_)
 simp only [holds,dec_I,true_and]
 refine ⟨fun _ => .refl _,fun hb => ?_⟩
 have hb:begunB hl = true := by simpa using hb
 show wpc Try.prog G16 0 (.seq (CCode.at c16 [1,1,0]) (.seq (CCode.at c16 [1,1,1,0]) (.seq (CCode.at c16 [1,1,1,1,0]) (.seq (CCode.at c16 [1,1,1,1,1,0]) (.seq (CCode.at c16 [1,1,1,1,1,1,0]) (.seq (CCode.at c16 [1,1,1,1,1,1,1,0]) (.seq (CCode.at c16 [1,1,1,1,1,1,1,1,0]) (.seq (CCode.at c16 [1,1,1,1,1,1,1,1,1,0]) (.seq (CCode.at c16 [1,1,1,1,1,1,1,1,1,1,0]) (.seq (CCode.at c16 [1,1,1,1,1,1,1,1,1,1,1,0]) (.seq (CCode.at c16 [1,1,1,1,1,1,1,1,1,1,1,1,0]) (.seq (CCode.at c16 [1,1,1,1,1,1,1,1,1,1,1,1,1,0]) (CCode.at c16 [1,1,1,1,1,1,1,1,1,1,1,1,1,1]))))))))))))) Q16 (Gp16 hl ws m j o r u v [(36,vb _)]) []
 have hL:hl.length ≤ 140737488355328 := by have := begun_ok hb; omega
 have hL1 := (begun_ok hb)
 have ho := dealt_ok hb hw m0 m1
 refine wpc_seq' (wpc_tree (X := mkX tab16q) tab16q_ok (v16b hl ws m j o r u v _) ?_)
 simp only [holds,dec_I,dec_W,okL_I,true_and,and_true]
 refine ⟨⟨hL,hw,hb,m0,m1⟩, ?_⟩
 generalize hc:(dealt hl ws m).1 = c at *
 generalize ht:(dealt hl ws m).2 = t at *
 have hz := word_in hw 0 (by omega)
 have z1 := wd hz.1 hz.2 (n := 16) (by omega)
 have z2 := wd z1.2.2.2.1 z1.2.2.2.2 (n := 3) (by omega)
 have hdl:0 < c.divs.length := by rw [ho.divs,divK_len,divN]; omega
 have hf := ho.fault
 have hh:hl.length = c.held.length := by rw [← ho.held]
 have hmem:t ∈ truthsP c := truthsP_mem.2 ho.truth
 have hne:(truthsP c).isEmpty = false := by
  cases hp:truthsP c with
  | nil => rw [hp] at hmem; simp at hmem
  | cons => rfl
 show wpc Try.prog G16 0 (.seq (CCode.at c16 [1,1,1,0]) (.seq (CCode.at c16 [1,1,1,1,0]) (.seq (CCode.at c16 [1,1,1,1,1,0]) (.seq (CCode.at c16 [1,1,1,1,1,1,0]) (.seq (CCode.at c16 [1,1,1,1,1,1,1,0]) (.seq (CCode.at c16 [1,1,1,1,1,1,1,1,0]) (.seq (CCode.at c16 [1,1,1,1,1,1,1,1,1,0]) (.seq (CCode.at c16 [1,1,1,1,1,1,1,1,1,1,0]) (.seq (CCode.at c16 [1,1,1,1,1,1,1,1,1,1,1,0]) (.seq (CCode.at c16 [1,1,1,1,1,1,1,1,1,1,1,1,0]) (.seq (CCode.at c16 [1,1,1,1,1,1,1,1,1,1,1,1,1,0]) (CCode.at c16 [1,1,1,1,1,1,1,1,1,1,1,1,1,1])))))))))))) Q16 (E16 hl j o r u v []) (H16 c t [])
 refine wpc_seq' (wpc_tree (X := mkX spNil) (spNil_ok _) (v16c hl c t j o r u v) ?_)
 have A := et16a (t := t) (hl := hl) hf ho.truth hne hdl h0 h1 h2 h3 h4 h5 h6 h7 h8 h9 hh
 have B := et16b (t := t) (hl := hl) hf ho.truth hne hdl h0 h1 h2 h3 h4 h5 h6 h7 h8 h9 hh
 simp only [holds,true_and,and_self]
 exact ⟨A,B⟩
end
end Go.Proofs.Ytdnefcjbcieecaa
namespace Go.Proofs.Ytdnefcjbcieecaa
open Go Go.ChangeShapes Go.WideShapes Go.ChangeAt Go.RowKit
def flatFs (g:TypeId → Option (List IntKind)) (cell:TypeId → Nat):List Field → Nat → Option (List IntKind)
 | [],_ => some []
 | f :: fs,off => if f.offset = off then match g f.type,flatFs g cell fs (off + cell f.type) with
   | some a,some b => if a.length = cell f.type then some (a ++ b) else none
   | _,_ => none
  else none
def flatOf (P:Program):Nat → TypeId → Option (List IntKind)
 | 0,_ => none
 | m + 1,T => match P.underlying T with
  | some (.int k) => some [k]
  | some (.struct fs) => match flatFs (flatOf P m) P.cellsOf fs.toList 0 with
   | some ks => if ks.length = P.cellsOf T then some ks else none
   | none => none
  | _ => none
section
variable {H:Type} {enc:TypeId × Value → H} {P:Program} {w:World} {base:Nat} {spare:Nat → Bool} {held:Bool}
def IntsIn (ks:List IntKind) (cs:List Value) (ns:List Int):Prop :=
 ns.length = ks.length ∧ cs = List.zipWith Value.int ks ns ∧ ∀ (j:Nat) k n,ks[j]? = some k → ns[j]? = some n → (Lit.int k n).wf = true
theorem IntsIn.append {k1 k2:List IntKind} {c1 c2:List Value} {n1 n2:List Int} (h1:IntsIn k1 c1 n1) (h2:IntsIn k2 c2 n2):IntsIn (k1 ++ k2) (c1 ++ c2) (n1 ++ n2) := by
 obtain ⟨a1,b1,d1⟩ := h1
 obtain ⟨a2,b2,d2⟩ := h2
 refine ⟨by simp [a1,a2],by rw [b1,b2,List.zipWith_append a1.symm],fun j k n hk hn => ?_⟩
 by_cases hj:j < k1.length
 ·rw [List.getElem?_append_left hj] at hk
  rw [List.getElem?_append_left (by omega)] at hn
  exact d1 j k n hk hn
 ·rw [List.getElem?_append_right (by omega)] at hk
  rw [List.getElem?_append_right (by omega)] at hn
  rw [a1] at hn
  exact d2 _ k n hk hn
theorem flat_sound:∀ (m:Nat) (T:TypeId) (ks:List IntKind),flatOf P m T = some ks → ∀ (fuel:Nat) (cs:List Value) (x:DataW H × List MemPlace),DataW.trod enc P w base spare held fuel T cs = some x → ∃ ns,IntsIn ks cs ns
 | 0,_,_,h => by cases h
 | m + 1,T,ks,h => by
  intro fuel cs x hx
  unfold flatOf at h
  split at h
  ·rename_i k hu
   cases h
   obtain ⟨n,rfl,_,hw⟩ := DataW.trod_int hu hx
   exact ⟨[n],rfl,rfl,fun j k' n' hk hn => by
    cases j with
    | zero => cases hk; cases hn; exact hw
    | succ j => simp at hk⟩
  ·rename_i fs hu
   split at h
   ·rename_i ks' hks
    split at h
    ·rename_i hlen
     cases h
     obtain ⟨xs,n,_,_,hcl,hxl,hf⟩ := DataW.trod_struct hu hx
     have key:∀ (fl:List Field) (off i0:Nat) (ks:List IntKind),(∀ (j:Nat) f,fl[j]? = some f → fs[i0 + j]? = some f) → fl.length + i0 = fs.size → flatFs (flatOf P m) P.cellsOf fl off = some ks → off + ks.length = cs.length → ∃ ns,IntsIn ks (cs.drop off) ns := by
      intro fl
      induction fl with
      | nil =>
       intro off i0 ks hg hl hk ho
       cases hk
       exact ⟨[],rfl,List.drop_eq_nil_of_le (by simp at ho; omega),fun j k n h => by simp at h⟩
      | cons f fl ih =>
       intro off i0 ks hg hl hk ho
       unfold flatFs at hk
       split at hk
       ·rename_i hoff
        split at hk
        ·rename_i a b ha hb
         split at hk
         ·rename_i hal
          cases hk
          have hfi := hg 0 f rfl
          have h1 := hf i0 f (by simpa using hfi)
          have hlt:i0 < xs.length := by rw [hxl]; simp at hl; omega
          rw [List.getElem?_eq_getElem hlt,hoff] at h1
          obtain ⟨n1,hn1⟩ := flat_sound m f.type a ha n _ _ h1
          obtain ⟨n2,hn2⟩ := ih (off + P.cellsOf f.type) (i0 + 1) b (fun j g hj => by have := hg (j + 1) g hj; rwa [show i0 + (j + 1) = i0 + 1 + j by omega] at this) (by simp at hl ⊢; omega) hb (by simp at ho; omega)
          refine ⟨n1 ++ n2, ?_⟩
          have e:cs.drop off = (cs.drop off).take (P.cellsOf f.type) ++ cs.drop (off + P.cellsOf f.type) := by rw [← List.drop_drop,List.take_append_drop]
          rw [e]
          exact hn1.append hn2
         ·cases hk
        ·cases hk
       ·cases hk
     obtain ⟨ns,hns⟩ := key fs.toList 0 0 ks (fun j f hj => by simpa using hj) (by simp) hks (by rw [hcl,hlen]; simp)
     exact ⟨ns,by simpa using hns⟩
    ·cases h
   ·cases h
  ·cases h
def memOf (P:Program) (w:World):Mem := { ro := fun b o => w.cell? ⟨b,o,none⟩,mu := fun _ => none,df := fun _ => False,cc := ccP P }
theorem sim_memOf (P:Program) (w:World):Sim (memOf P w) [] w :=
 ⟨fun i blk h => by simp at h,fun i j bi bj ri rj b h => by simp at h,fun b o v h => ⟨h,fun ⟨i,_,_,h,_⟩ => by simp at h⟩,fun _ _ => rfl,fun _ h => h.elim⟩
def rowD (ks:List IntKind) (ns:List Int):List D := List.zipWith D.int ks ns
theorem rowD_len {ks:List IntKind} {cs:List Value} {ns:List Int} (h:IntsIn ks cs ns):(rowD ks ns).length = ks.length := by simp [rowD,h.1]
theorem slice_sound {T e:TypeId} {ks:List IntKind} {m:Nat} (hT:P.underlying T = some (.slice e)) (he:flatOf P m e = some ks) (hsz:P.cellsOf e = ks.length) (hpos:0 < ks.length) {fuel:Nat} {cs:List Value} {x:DataW H × List MemPlace}
  (hx:DataW.trod enc P w base spare held fuel T cs = some x) :
  ∃ (rows:List (List Int)) (v:Value),cs = [v] ∧ RepD (memOf P w).ro (.sl false rows.length (rows.flatMap (rowD ks))) v ∧ rows.length ≤ maxLen ∧ ∀ r ∈ rows,r.length = ks.length ∧ ∀ (j:Nat) k n,ks[j]? = some k → r[j]? = some n → (Lit.int k n).wf = true := by
 rcases Go.Deep.open_slice hT hx with ⟨rfl,_⟩ | ⟨a,len,cap,q,n,Df,Pl,rfl,_,hle,hm,hq,_,hel⟩
 ·refine ⟨[],_,rfl, ?_,Nat.zero_le _,fun r hr => by simp at hr⟩
  have := VLe.sl (n := 0) (cs := []) (memOf P w) _ (.d _ _ (rep_nil _))
  cases this with
  | d x v h => exact h
 ·have hlq:len ≤ q := by rw [hq]; split <;> omega
  have hrow:∀ i,i < len → ∃ ns,(∀ (j:Nat),j < ks.length → w.cell? ((a.add (i * ks.length)).add j) = (List.zipWith Value.int ks ns)[j]?) ∧ IntsIn ks (List.zipWith Value.int ks ns) ns := fun i hi => by
   obtain ⟨cs',h1,h2⟩ := hel i (by omega)
   obtain ⟨ns,hns⟩ := flat_sound m e ks he n cs' _ h2
   rw [hsz] at h1
   obtain ⟨_,hl,hc⟩ := World.cells?_some h1
   obtain ⟨h3,h4,h5⟩ := hns
   exact ⟨ns,fun j hj => by rw [← h4]; exact hc j hj,h3,rfl,h5⟩
  obtain ⟨f,hf⟩:∃ f:Nat → List Int, ∀ i,i < len → (∀ (j:Nat),j < ks.length → w.cell? ((a.add (i * ks.length)).add j) = (List.zipWith Value.int ks (f i))[j]?) ∧ IntsIn ks (List.zipWith Value.int ks (f i)) (f i) :=
   ⟨fun i => if h:i < len then Classical.choose (hrow i h) else [],fun i hi => by simp only [dif_pos hi]; exact Classical.choose_spec (hrow i hi)⟩
  have hrl:∀ r ∈ (List.range len).map f,(rowD ks r).length = ks.length := fun r hr => by
   obtain ⟨i,hi,rfl⟩ := List.mem_map.1 hr
   exact rowD_len (hf i (List.mem_range.1 hi)).2
  have hget:∀ (i j:Nat),i < len → j < ks.length → (((List.range len).map f).flatMap (rowD ks))[i * ks.length + j]? = (rowD ks (f i))[j]? := by
   have gen:∀ (l:List (List Int)),(∀ r ∈ l,(rowD ks r).length = ks.length) → ∀ (i j:Nat),j < ks.length → (l.flatMap (rowD ks))[i * ks.length + j]? = (l[i]?).bind fun r => (rowD ks r)[j]? := by
    intro l
    induction l with
    | nil => intro _ i j _; simp
    | cons r l ih =>
     intro hl i j hj
     have h0 := hl r (by simp)
     cases i with
     | zero => rw [List.flatMap_cons,List.getElem?_append_left (by omega)]; simp
     | succ i =>
      rw [List.flatMap_cons,List.getElem?_append_right (by rw [h0,Nat.add_mul]; omega),h0]
      have:(i + 1) * ks.length + j - ks.length = i * ks.length + j := by rw [Nat.add_mul]; omega
      rw [this,ih (fun r hr => hl r (by simp [hr])) i j hj]
      rfl
   intro i j hi hj
   rw [gen _ hrl i j hj]
   simp [hi]
  have hlen:(((List.range len).map f).flatMap (rowD ks)).length = len * ks.length := by
   have gen:∀ (l:List (List Int)),(∀ r ∈ l,(rowD ks r).length = ks.length) → (l.flatMap (rowD ks)).length = l.length * ks.length := by
    intro l
    induction l with
    | nil => intro _; simp
    | cons r l ih =>
     intro hl
     rw [List.flatMap_cons,List.length_append,hl r (by simp),ih (fun r hr => hl r (by simp [hr])),List.length_cons,Nat.add_mul]
     omega
   rw [gen _ hrl]; simp
  have hwf:∀ r ∈ (List.range len).map f,r.length = ks.length ∧ ∀ (j:Nat) k n,ks[j]? = some k → r[j]? = some n → (Lit.int k n).wf = true := fun r hr => by
   obtain ⟨i,hi,rfl⟩ := List.mem_map.1 hr
   exact ⟨(hf i (List.mem_range.1 hi)).2.1,(hf i (List.mem_range.1 hi)).2.2.2⟩
  refine ⟨(List.range len).map f,_,rfl, ?_,by simp; omega,hwf⟩
  have hl2:((List.range len).map f).length = len := by simp
  rw [hl2]
  rcases Nat.eq_zero_or_pos len with h0 | h0
  ·subst h0
   exact .sl false 0 cap _ (some a) 0 0 (fun _ => undef) hle hm (fun e => by cases e) (.inl (by simp)) (fun k hk => by simp at hk) (fun k c hc => by simp at hc)
  · -- the address is plain
   have hspot:a = ⟨a.block,a.off,none⟩ := by
    have h1 := (hf 0 h0).1 0 hpos
    have h2 := (hf 0 h0).2.1
    have h3:(a.add (0 * ks.length)).add 0 = a := by simp [Addr.add]
    rw [h3] at h1
    have h4:(List.zipWith Value.int ks (f 0))[0]? ≠ none := by
     intro e
     rw [List.getElem?_eq_none_iff,List.length_zipWith,h2,Nat.min_self] at e
     omega
    cases hs:a.spot with
    | none => cases a; simp_all
    | some s =>
     exfalso
     apply h4
     rw [← h1]
     unfold World.cell?
     split
     ·simp [hs]
     ·rfl
   have hadd:∀ i j:Nat,(a.add (i * ks.length)).add j = ⟨a.block,a.off + (i * ks.length + j),none⟩ := fun i j => by
    rw [hspot]
    by_cases hi:i * ks.length = 0
    ·by_cases hj:j = 0
     ·simp [Addr.add,hi,hj]
     ·simp [Addr.add,hi,hj]
    ·by_cases hj:j = 0
     ·simp [Addr.add,hi,hj]
     ·simp [Addr.add,hi,hj]; omega
   have hsplit:∀ k,k < len * ks.length → ∃ i j,i < len ∧ j < ks.length ∧ k = i * ks.length + j := fun k hk =>
    ⟨k / ks.length,k % ks.length,(Nat.div_lt_iff_lt_mul hpos).2 hk,Nat.mod_lt _ hpos,by rw [Nat.mul_comm]; exact (Nat.div_add_mod k ks.length).symm⟩
   refine .sl false len cap _ (some a) a.block a.off (fun k => (w.cell? ⟨a.block,a.off + k,none⟩).getD undef) hle hm (fun e => by cases e) (.inr (congrArg some hspot)) (fun k hk => ?_) (fun k c hc => ?_)
   ·rw [hlen] at hk
    obtain ⟨i,j,hi,hj,rfl⟩ := hsplit k hk
    have h1 := (hf i hi).1 j hj
    rw [hadd] at h1
    show w.cell? _ = _
    rw [h1]
    have h2 := (hf i hi).2.1
    rw [List.getElem?_eq_getElem (by simp [h2]; omega)]
    rfl
   ·have hk:k < len * ks.length := by rw [← hlen]; exact (List.getElem?_eq_some_iff.1 hc).1
    obtain ⟨i,j,hi,hj,rfl⟩ := hsplit k hk
    rw [hget i j hi hj] at hc
    have h1 := (hf i hi).1 j hj
    rw [hadd] at h1
    rw [h1]
    have h2 := (hf i hi).2.1
    have hk' : ks[j]? = some ks[j] := List.getElem?_eq_getElem hj
    have hn' : (f i)[j]? = some ((f i)[j]'(by omega)) := List.getElem?_eq_getElem (by omega)
    simp only [rowD,List.getElem?_zipWith,hk',hn',Option.map_some,Option.bind_some,Option.some.injEq] at hc ⊢
    subst hc
    exact .int _ _
end
theorem rows1 {rows:List (List Int)} (h:∀ r ∈ rows,r.length = 1):∃ l:List Int,l.length = rows.length ∧ rows.flatMap (rowD [.i64]) = Go.Proofs.Ytdnefcjbcieecaa.enc eI l := by
 induction rows with
 | nil => exact ⟨[],rfl,rfl⟩
 | cons r rows ih =>
  obtain ⟨l,h1,h2⟩ := ih fun r hr => h r (by simp [hr])
  match r,h r (by simp) with
  | [a],_ => exact ⟨a :: l,by simp [h1],by rw [List.flatMap_cons,h2]; rfl⟩
theorem trodAll_old {H:Type} {enc:TypeId × Value → H} {P:Program} {W W' : World} {T:TypeId → Prop} (K:Kids P T) (hz:∀ t e,T t → P.underlying t = some (.slice e) → 0 < P.cellsOf e) {ts:List TypeId} (hT:∀ t ∈ ts,T t)
  {vs:List Value} {ds:List (DataW H)} {ps:List MemPlace} (h:DataW.TrodAll enc P W 0 (fun _ => true) true ts vs ds ps) (hold:∀ b,b < W.heap.size → W'.heap[b]? = W.heap[b]?) :
  DataW.TrodAll enc P W' 0 (fun b => decide (b < W.heap.size)) true ts vs ds ps := by
 have hlt := h.lt
 have h2 := h.respare (spare' := fun b => decide (b < W.heap.size)) K hz hT (fun p hp => decide_eq_true (hlt p hp))
 have hsame:∀ p ∈ ps,W.sameAt W' p := fun p hp => by
  have := hold _ (hlt p hp)
  cases p with
  | cell b off =>
   have this:W'.heap[b]? = W.heap[b]? := this
   show W'.cell? _ = W.cell? _
   unfold World.cell?
   rw [this]
  | map b => exact this
 clear h hlt
 revert vs ds ps
 induction ts with
 | nil => intro vs ds ps h _; cases vs <;> cases ds <;> first | exact h | exact h.elim
 | cons t ts ih =>
  intro vs ds ps h hs
  cases vs with
  | nil => exact h.elim
  | cons v vs => cases ds with
   | nil => exact h.elim
   | cons d ds =>
    obtain ⟨p,q,⟨n,h1⟩,h2,rfl⟩ := h
    exact ⟨p,q,⟨n,DataW.trod_carry n _ _ _ h1 fun x hx => hs x (List.mem_append_left _ hx)⟩,ih (fun t ht => hT t (by simp [ht])) h2 (fun x hx => hs x (List.mem_append_right _ hx)),rfl⟩
theorem calls_true {P:Program} {g:Nat} {vs:List V} {b:Bool} (hy:Yields P g vs (vb b)) (w:World) {args:List Value} (hr:RepL (memOf P w) vs args) :
  Calls P g args.toArray w fun e w' => e = .returned (.bool b) ∧ w'.os = w.os ∧ w'.tape = w.tape ∧ w'.output = w.output ∧ w.heap.size ≤ w'.heap.size ∧ ∀ b,b < w.heap.size → w'.heap[b]? = w.heap[b]? := by
 refine ((hy []).2 (memOf P w) w args rfl (sim_memOf P w) hr).mono ?_
 rintro e w' ⟨cv,v,h2,M',rfl,hp,hv,rfl,rfl⟩
 have hv:RepV M' (.d (.bool b)) cv := hv
 exact ⟨by rw [hv.boolI],hp.os,hp.tape,hp.output,hp.size,fun b hb => hp.keep b hb (fun ⟨i,blk,r,hi,_⟩ => by simp at hi)⟩
end Go.Proofs.Ytdnefcjbcieecaa
namespace Go.Proofs.Ytdnefcjbcieecaa
open Go Go.ChangeShapes Go.WideShapes Go.ChangeAt Go.RowKit
def fieldAt (P:Program) (T:TypeId) (i:Nat):Option (TypeId × Nat × Nat) := match P.underlying T with
 | some (.struct fs) => (fs[i]?).map fun f => (f.type,f.offset,P.cellsOf f.type)
 | _ => none
def isSlice (P:Program) (T e:TypeId):Bool := match P.underlying T with
 | some (.slice t) => t == e
 | _ => false
noncomputable def isIntT (P:Program) (T:TypeId):Nat := match P.underlying T with
 | some (.int k) => kn k + 1
 | _ => 0
theorem isSlice_eq {P:Program} {T e:TypeId} (h:isSlice P T e = true):P.underlying T = some (.slice e) := by
 unfold isSlice at h
 split at h
 ·rename_i hu; rw [hu,eq_of_beq h]
 ·cases h
theorem isIntT_eq {P:Program} {T:TypeId} {k:IntKind} (h:isIntT P T = kn k + 1):P.underlying T = some (.int k) := by
 unfold isIntT at h
 split at h
 ·rename_i k' hu
  rw [hu]
  have h2:kn k' = kn k := by omega
  have h3:k' = k := kn_inj (by rw [h2]; exact Nat.beq_refl _)
  rw [h3]
 ·omega
section
variable {H:Type} {enc:TypeId × Value → H} {w:World} {spare:Nat → Bool} {held:Bool}
theorem int_sound {P:Program} {T:TypeId} {k:IntKind} {fuel:Nat} {cs:List Value} {x:DataW H × List MemPlace} (hT:isIntT P T = kn k + 1) (hx:DataW.trod enc P w 0 spare held fuel T cs = some x) :
  ∃ n,cs = [.int k n] ∧ (Lit.int k n).wf = true := by
 obtain ⟨n,h1,_,h2⟩ := DataW.trod_int (isIntT_eq hT) hx
 exact ⟨n,h1,h2⟩
theorem listI_sound {fuel:Nat} {cs:List Value} {x:DataW H × List MemPlace} (hx:DataW.trod enc Try.prog w 0 spare held fuel 22 cs = some x) :
  ∃ (l:List Int) (v:Value),cs = [v] ∧ RepD (memOf Try.prog w).ro (dsl eI l) v ∧ l.length ≤ maxLen := by
 obtain ⟨rows,v,h1,h2,h3,h4⟩ := slice_sound (ks := [.i64]) (m := 3) (isSlice_eq (e := 3) (by kernel_rfl)) (by kernel_rfl) (by kernel_rfl) (by decide) hx
 obtain ⟨l,hl,he⟩ := rows1 fun r hr => (h4 r hr).1
 exact ⟨l,v,h1,by unfold dsl; rw [hl, ← he]; exact h2,by omega⟩
end
theorem keptBut_of_old {w w' : World} {may:MemPlace → Prop} (h1:w'.os = w.os) (h2:w'.output = w.output) (h3:∀ b,b < w.heap.size → w'.heap[b]? = w.heap[b]?):w.keptBut w' may := by
 refine ⟨h1,h2,fun i hi => ?_⟩
 rw [h3 i hi]
 split
 ·rename_i c t fr c' t' fr' e1 e2
  rw [e1] at e2; cases e2
  exact ⟨rfl,rfl,rfl,fun _ _ => rfl⟩
 ·rename_i es k es' k' e1 e2
  rw [e1] at e2; cases e2
  exact .inr ⟨rfl,rfl⟩
 ·rfl
theorem ownsNothing:ownKnob Try.prog.godebug = none := by kernel_rfl
theorem try_laid:laidOutB Try.prog = true := by kernel_rfl
theorem repL_nil (M:Mem):RepL M [] [] := ⟨rfl,fun k v c h => by simp at h⟩
theorem repL_cons {M:Mem} {v:V} {c:Value} {vs:List V} {cs:List Value} (h:RepV M v c) (hs:RepL M vs cs):RepL M (v :: vs) (c :: cs) := by
 refine ⟨by simp [hs.1],fun k a b ha hb => ?_⟩
 cases k with
 | zero => cases ha; cases hb; exact h
 | succ k => exact hs.2 k a b (by simpa using ha) (by simpa using hb)
theorem try_kids:Kids Try.prog (· < Try.prog.types.size) := kids_rows try_laid (by kernel_rfl)
theorem try_full:∀ t e,t < Try.prog.types.size → Try.prog.underlying t = some (.slice e) → 0 < Try.prog.cellsOf e := slices_full_of Try.prog (by kernel_rfl)
theorem it5:isIntT Try.prog 5 = kn .u8 + 1 := by kernel_rfl
theorem is22:isSlice Try.prog 22 3 = true := by kernel_rfl
section
variable {H:Type} {enc:TypeId × Value → H} {W:World} {base:Nat}
set_option maxRecDepth 100000 in
theorem arg_u8 {v:Value} {d:DataW H} {p:List MemPlace} (hok:Value.okWide Try.prog W .any base 5 v) (ht:DataW.Trod enc Try.prog W 0 (fun _ => true) true 5 v d p):∃ n:Int,RepV (memOf Try.prog W) (.d (.int .u8 n)) v ∧ 0 ≤ n ∧ n ≤ 255 := by
 obtain ⟨n,rfl⟩ := okWide_int (isIntT_eq it5) hok
 obtain ⟨fuel,hx⟩ := ht
 obtain ⟨m,h1,h2⟩ := int_sound it5 hx
 cases h1
 exact ⟨n,.d _ _ (.int _ _),bounds_u8 h2⟩
set_option maxRecDepth 100000 in
theorem arg_ints {v:Value} {d:DataW H} {p:List MemPlace} (hok:Value.okWide Try.prog W .any base 22 v) (ht:DataW.Trod enc Try.prog W 0 (fun _ => true) true 22 v d p):∃ l:List Int,RepV (memOf Try.prog W) (vsl eI l) v ∧ l.length ≤ maxLen := by
 obtain ⟨a,len,cap,rfl⟩ := okWide_slice (isSlice_eq is22) hok
 obtain ⟨fuel,hx⟩ := ht
 obtain ⟨l,v,h1,h2,h3⟩ := listI_sound hx
 cases h1
 exact ⟨l,.d _ _ h2,h3⟩
end
end Go.Proofs.Ytdnefcjbcieecaa
namespace Go.Proofs.Ytdnefcjbcieecaa
open Go Go.ChangeShapes Go.WideShapes Go.ChangeAt Go.RowKit
theorem bounds_u16 {n:Int} (h:(Lit.int .u16 n).wf = true):0 ≤ n ∧ n ≤ 65535 := by
 simp [Lit.wf,IntKind.min,IntKind.max,IntKind.signed,IntKind.bits] at h
 omega
theorem rows1W {rows:List (List Int)} (h:∀ r ∈ rows,r.length = 1 ∧ ∀ (j:Nat) k n,([IntKind.u16]:List IntKind)[j]? = some k → r[j]? = some n → (Lit.int k n).wf = true):∃ l:List Int,l.length = rows.length ∧ rows.flatMap (rowD [.u16]) = Go.Proofs.Ytdnefcjbcieecaa.enc eW l ∧ ∀ w ∈ l,0 ≤ w ∧ w ≤ 65535 := by
 induction rows with
 | nil => exact ⟨[],rfl,rfl,fun w hw => by simp at hw⟩
 | cons r rows ih =>
  obtain ⟨l,h1,h2,h3⟩ := ih fun r hr => h r (by simp [hr])
  have hr := h r (by simp)
  match r,hr.1,hr.2 with
  | [a],_,hw =>
   refine ⟨a :: l,by simp [h1],by rw [List.flatMap_cons,h2]; rfl,fun w hm => ?_⟩
   rcases List.mem_cons.1 hm with rfl | hm
   ·exact bounds_u16 (hw 0 .u16 _ rfl rfl)
   ·exact h3 w hm
section
variable {H:Type} {enc:TypeId × Value → H} {w:World} {spare:Nat → Bool} {held:Bool}
theorem listW_sound {fuel:Nat} {cs:List Value} {x:DataW H × List MemPlace} (hx:DataW.trod enc Try.prog w 0 spare held fuel 66 cs = some x) :
  ∃ (l:List Int) (v:Value),cs = [v] ∧ RepD (memOf Try.prog w).ro (dsl eW l) v ∧ isWords l := by
 obtain ⟨rows,v,h1,h2,h3,h4⟩ := slice_sound (ks := [.u16]) (m := 3) (isSlice_eq (e := 144) (by kernel_rfl)) (by kernel_rfl) (by kernel_rfl) (by decide) hx
 obtain ⟨l,hl,he,hb⟩ := rows1W h4
 exact ⟨l,v,h1,by unfold dsl; rw [hl, ← he]; exact h2,Nat.zero_le _,hb⟩
end
theorem is66:isSlice Try.prog 66 144 = true := by kernel_rfl
section
variable {H:Type} {enc:TypeId × Value → H} {W:World} {base:Nat}
set_option maxRecDepth 100000 in
theorem arg_words {v:Value} {d:DataW H} {p:List MemPlace} (hok:Value.okWide Try.prog W .any base 66 v) (ht:DataW.Trod enc Try.prog W 0 (fun _ => true) true 66 v d p):∃ l:List Int,RepV (memOf Try.prog W) (vsl eW l) v ∧ isWords l := by
 obtain ⟨a,len,cap,rfl⟩ := okWide_slice (isSlice_eq is66) hok
 obtain ⟨fuel,hx⟩ := ht
 obtain ⟨l,v,h1,h2,h3⟩ := listW_sound hx
 cases h1
 exact ⟨l,.d _ _ h2,h3⟩
end
end Go.Proofs.Ytdnefcjbcieecaa
