/- A part of the proof. -/
import Derived.Test.YtdnefcjbcieecaaPart10
import Derived.Test.YtdnefcjbcieecaaProg
import Derived.KernelRfl
import Derived.ProofKit
import Derived.OpenShut
import Derived.ReadAgain
import Derived.ChangeBook
import Derived.ChangeOld
import Derived.ChangeArms
import Derived.Deep.Slices
set_option linter.unusedVariables false
set_option linter.unusedSimpArgs false
namespace Go.Proofs.Ytdnefcjbcieecaa
open Go Go.Proofs
def G15:Cfg := ⟨[9,10,12],[(0,[0,1,2,3]),(1,[0,1,2,3,31]),(2,[8]),(3,[0,3,9,10]),(4,[0,9,10,11]),(5,[0,9,10,11,12]),(6,[0,9,10,11,12,13,14]),(7,[0,9,10,11,12,13,14,15,16]),(8,[0,9,10,11,12,13,14,15,16,17,18]),(9,[0,9,10,12,13,14,15,16,17,18,19,20,21,22]),(10,[0,9,10,12,13,14,15,16,17,18,19,20,21,22,23,24]),(11,[9,12,13,15,17,19,20,21,166]),(12,[8]),(13,[9,12,13,15,17,19,20,21,25]),(14,[9,12,13,15,17,19,20,21,25,26]),(15,[9,12,13,15,17,19,20,21,25,26,172]),(17,[9,12,13,15,17,19,20,21,25,26]),(18,[9,12,13,15,17,19,20,21,25,26]),(19,[9,12,13,15,17,19,20,21,25,26,226]),(20,[8]),(16,[9,12,13,15,17,19,20,21,25,26]),(21,[9,12,13,17,19,21,25,27]),(22,[9,12,13,17,19,21,25,27,230]),(24,[9,12,13,17,19,21,25,27,278]),(25,[8]),(23,[9,12,13,17,19,21,25,27]),(26,[13,17,25,28]),(27,[8])],304,[]⟩
def r15:List CRes := [.tmp 8]
def c15:CCode :=
(.seq (.region [
 mB 8 false] (some [0,1,2,3]))
(.seq (.seq (.region [
 mV 29 0,
 kL1 30 40 29,
 rs 31 (.un .not (.tmp 30))] (some [0,1,2,3,31]))
(.cond (.tmp 31) (.seq (.region [
 ⟨(some 32),none,.call (.func 18) []⟩,
 mV 8 32] (some [8]))
 .ret)
 .skip))
(.seq (.region [
 mV 34 0,
 mV 35 1,
 mV 36 2,
 kL3 37 41 34 35 36,
 mV 33 37,
 rs 38 (.extract (.tmp 33) 0),
 rs 39 (.extract (.tmp 33) 1),
 rs 9 (.alloc [(.d (.int .i64 0)),(.d .nils),(.d .nils),(.d .nils),(.d .nils),(.d .nils)]),
 rs 10 (.alloc [(.d .nils),(.d .nils)]),
 rn (.store 6 (.tmp 9) (.tmp 38)),
 rn (.store 2 (.tmp 10) (.tmp 39))] (some [0,3,9,10]))
(.seq (.region [
 mV 40 3,
 rs 41 (.conv .i64 (.tmp 40)),
 fA 42 3 9,
 lD 43 42,
 rs 44 (.len (.tmp 43)),
 rs 45 (.bin .rem (.tmp 41) (.tmp 44)),
 mV 11 45] (some [0,9,10,11]))
(.seq (.region [
 fA 46 3 9,
 lD 47 46,
 mV 48 11,
 iX 49 3 47 48,
 lS 50 3 49,
 rs 12 (.alloc [(.d (.int .i64 0)),(.d (.int .i64 0)),(.d (.int .i64 0))]),
 rn (.store 3 (.tmp 12) (.tmp 50))] (some [0,9,10,11,12]))
(.seq (.region [
 lS 52 6 9,
 lS 54 2 10,
 mV 56 11,
 ⟨(some 53),none,.callx (.func 20) [(.tmp 52)]⟩,
 ⟨(some 55),none,.callx (.func 21) [(.tmp 54)]⟩,
 kL3 57 25 53 55 56,
 mV 51 57,
 rs 58 (.extract (.tmp 51) 0),
 rs 59 (.extract (.tmp 51) 1),
 mV 13 58,
 mV 14 59] (some [0,9,10,11,12,13,14]))
(.seq (.region [
 lS 61 6 9,
 lS 63 2 10,
 mV 65 11,
 ⟨(some 62),none,.callx (.func 20) [(.tmp 61)]⟩,
 ⟨(some 64),none,.callx (.func 21) [(.tmp 63)]⟩,
 kL3 66 26 62 64 65,
 mV 60 66,
 rs 67 (.extract (.tmp 60) 0),
 rs 68 (.extract (.tmp 60) 1),
 mV 15 67,
 mV 16 68] (some [0,9,10,11,12,13,14,15,16]))
(.seq (.region [
 lS 70 6 9,
 lS 72 2 10,
 mV 74 11,
 ⟨(some 71),none,.callx (.func 20) [(.tmp 70)]⟩,
 ⟨(some 73),none,.callx (.func 21) [(.tmp 72)]⟩,
 kL3 75 27 71 73 74,
 mV 69 75,
 rs 76 (.extract (.tmp 69) 0),
 rs 77 (.extract (.tmp 69) 1),
 mV 17 76,
 mV 18 77] (some [0,9,10,11,12,13,14,15,16,17,18]))
(.seq (.region [
 lS 79 6 9,
 kL1 80 20 79,
 mV 81 11,
 kL2 82 33 80 81,
 mV 78 82,
 rs 83 (.extract (.tmp 78) 0),
 rs 84 (.extract (.tmp 78) 1),
 rs 85 (.extract (.tmp 78) 2),
 rs 86 (.extract (.tmp 78) 3),
 mV 19 83,
 mV 20 84,
 mV 21 85,
 mV 22 86] (some [0,9,10,12,13,14,15,16,17,18,19,20,21,22]))
(.seq (.region [
 lS 88 6 9,
 kL1 89 20 88,
 kL1 90 38 89,
 mV 87 90,
 rs 91 (.extract (.tmp 87) 0),
 rs 92 (.extract (.tmp 87) 1),
 mV 23 91,
 mV 24 92] (some [0,9,10,12,13,14,15,16,17,18,19,20,21,22,23,24]))
(.seq (.seq (.region [
 mV 93 14,
 rs 94 (.bin .neq (.tmp 93) (ci 0)),
 mV 95 94,
 qV 96 95 false 16,
 rg 97 95 false (.bin .neq (.tmp 96) (ci 0)),
 pO 98 95 97,
 mV 99 98,
 qV 100 99 false 18,
 rg 101 99 false (.bin .neq (.tmp 100) (ci 0)),
 pO 102 99 101,
 mV 103 102,
 qV 104 103 false 22,
 rg 105 103 false (.bin .neq (.tmp 104) (ci 0)),
 pO 106 103 105,
 mV 107 106,
 qV 108 107 false 24,
 rg 109 107 false (.bin .neq (.tmp 108) (ci 0)),
 pO 110 107 109,
 mV 111 110,
 qV 112 111 false 23,
 rg 113 111 false (.len (.tmp 112)),
 rg 114 111 false (.bin .neq (.tmp 113) (ci 0)),
 pO 115 111 114,
 mV 116 115,
 qV 117 116 false 13,
 rg 118 116 false (.len (.tmp 117)),
 qV 119 116 false 0,
 rg 120 116 false (.len (.tmp 119)),
 rg 121 116 false (.bin .neq (.tmp 118) (.tmp 120)),
 pO 122 116 121,
 mV 123 122,
 qV 124 123 false 17,
 rg 125 123 false (.len (.tmp 124)),
 qV 126 123 false 0,
 rg 127 123 false (.len (.tmp 126)),
 rg 128 123 false (.bin .neq (.tmp 125) (.tmp 127)),
 pO 129 123 128,
 mV 130 129,
 qV 131 130 false 15,
 rg 132 130 false (.len (.tmp 131)),
 qA 133 130 false 2 9,
 qL 134 130 false 133,
 rg 135 130 false (.len (.tmp 134)),
 rg 136 130 false (.bin .neq (.tmp 132) (.tmp 135)),
 pO 137 130 136,
 mV 138 137,
 qV 139 138 false 19,
 rg 140 138 false (.len (.tmp 139)),
 qV 141 138 false 13,
 rg 142 138 false (.len (.tmp 141)),
 rg 143 138 false (.bin .neq (.tmp 140) (.tmp 142)),
 pO 144 138 143,
 mV 145 144,
 qV 146 145 false 20,
 rg 147 145 false (.len (.tmp 146)),
 qV 148 145 false 15,
 rg 149 145 false (.len (.tmp 148)),
 rg 150 145 false (.bin .neq (.tmp 147) (.tmp 149)),
 pO 151 145 150,
 mV 152 151,
 qV 153 152 false 21,
 rg 154 152 false (.len (.tmp 153)),
 qV 155 152 false 17,
 rg 156 152 false (.len (.tmp 155)),
 rg 157 152 false (.bin .neq (.tmp 154) (.tmp 156)),
 pO 158 152 157,
 mV 159 158,
 rg 160 159 false (.load (some 6) (.tmp 9)),
 rg 162 159 false (.load (some 2) (.tmp 10)),
 ⟨(some 161),(some (159,false)),.callx (.func 20) [(.tmp 160)]⟩,
 ⟨(some 163),(some (159,false)),.call (.func 21) [(.tmp 162)]⟩,
 ⟨(some 164),(some (159,false)),.call (.func 51) [(.tmp 161),(.tmp 163)]⟩,
 rg 165 159 false (.un .not (.tmp 164)),
 pO 166 159 165] (some [9,12,13,15,17,19,20,21,166]))
(.cond (.tmp 166) (.seq (.region [
 mB 8 false] (some [8]))
 .ret)
 .skip))
(.seq (.region [
 mV 167 13,
 kL1 168 56 167,
 mV 25 168] (some [9,12,13,15,17,19,20,21,25]))
(.seq (.seq (.region [
 mI 26 0] (some [9,12,13,15,17,19,20,21,25,26]))
(.block 0 (.loop (.seq (.seq (.region [
 mV 169 26,
 mV 170 15,
 rs 171 (.len (.tmp 170)),
 rs 172 (.bin .lss (.tmp 169) (.tmp 171))] (some [9,12,13,15,17,19,20,21,25,26,172])) (.cond (.tmp 172) .skip (.exit 0))) (.seq (.block 1 (.seq (.region [
 mV 175 25,
 fA 176 2 9,
 lD 177 176,
 mV 178 26,
 iX 179 7 177 178,
 fA 180 0 179,
 lD 181 180,
 iX 182 1 175 181,
 lD 183 182,
 mV 184 15,
 mV 185 26,
 iX 186 1 184 185,
 lD 187 186,
 rs 188 (.bin .sub (.tmp 183) (.tmp 187)),
 iX 189 1 175 181,
 rn (.store 1 (.tmp 189) (.tmp 188))] (some [9,12,13,15,17,19,20,21,25,26])) (.seq (.region [
 mV 190 25,
 fA 191 2 9,
 lD 192 191,
 mV 193 26,
 iX 194 7 192 193,
 fA 195 1 194,
 lD 196 195,
 iX 197 1 190 196,
 lD 198 197,
 mV 199 15,
 mV 200 26,
 iX 201 1 199 200,
 lD 202 201,
 rs 203 (.bin .add (.tmp 198) (.tmp 202)),
 iX 204 1 190 196,
 rn (.store 1 (.tmp 204) (.tmp 203))] (some [9,12,13,15,17,19,20,21,25,26])) (.seq (.region [
 mV 205 15,
 mV 206 26,
 iX 207 1 205 206,
 lD 208 207,
 mV 209 20,
 mV 210 26,
 iX 211 2 209 210,
 fA 212 0 211,
 lD 213 212,
 rs 214 (.bin .lss (.tmp 208) (.tmp 213)),
 mV 215 214,
 qV 216 215 false 15,
 qV 217 215 false 26,
 rg 218 215 false (.indexS 1 (.tmp 216) (.tmp 217)),
 qL 219 215 false 218,
 qV 220 215 false 20,
 qV 221 215 false 26,
 rg 222 215 false (.indexS 2 (.tmp 220) (.tmp 221)),
 qA 223 215 false 1 222,
 qL 224 215 false 223,
 rg 225 215 false (.bin .gtr (.tmp 219) (.tmp 224)),
 pO 226 215 225] (some [9,12,13,15,17,19,20,21,25,26,226])) (.cond (.tmp 226) (.seq (.region [
 mB 8 false] (some [8]))
 .ret)
 .skip))))) (.region [
 mV 173 26,
 rs 174 (.bin .add (.tmp 173) (ci 1)),
 mV 26 174] (some [9,12,13,15,17,19,20,21,25,26])))))))
(.seq (.seq (.region [
 mI 27 0] (some [9,12,13,17,19,21,25,27]))
(.block 2 (.loop (.seq (.seq (.region [
 mV 227 27,
 mV 228 13,
 rs 229 (.len (.tmp 228)),
 rs 230 (.bin .lss (.tmp 227) (.tmp 229))] (some [9,12,13,17,19,21,25,27,230])) (.cond (.tmp 230) .skip (.exit 2))) (.seq (.block 3 (.seq (.region [
 mV 233 13,
 mV 234 27,
 iX 235 1 233 234,
 lD 236 235,
 mV 237 19,
 mV 238 27,
 iX 239 2 237 238,
 fA 240 0 239,
 lD 241 240,
 rs 242 (.bin .lss (.tmp 236) (.tmp 241)),
 mV 243 242,
 qV 244 243 false 13,
 qV 245 243 false 27,
 rg 246 243 false (.indexS 1 (.tmp 244) (.tmp 245)),
 qL 247 243 false 246,
 qV 248 243 false 19,
 qV 249 243 false 27,
 rg 250 243 false (.indexS 2 (.tmp 248) (.tmp 249)),
 qA 251 243 false 1 250,
 qL 252 243 false 251,
 rg 253 243 false (.bin .gtr (.tmp 247) (.tmp 252)),
 pO 254 243 253,
 mV 255 254,
 qV 256 255 false 17,
 qV 257 255 false 27,
 rg 258 255 false (.indexS 1 (.tmp 256) (.tmp 257)),
 qL 259 255 false 258,
 qV 260 255 false 21,
 qV 261 255 false 27,
 rg 262 255 false (.indexS 2 (.tmp 260) (.tmp 261)),
 qA 263 255 false 0 262,
 qL 264 255 false 263,
 rg 265 255 false (.bin .lss (.tmp 259) (.tmp 264)),
 pO 266 255 265,
 mV 267 266,
 qV 268 267 false 17,
 qV 269 267 false 27,
 rg 270 267 false (.indexS 1 (.tmp 268) (.tmp 269)),
 qL 271 267 false 270,
 qV 272 267 false 21,
 qV 273 267 false 27,
 rg 274 267 false (.indexS 2 (.tmp 272) (.tmp 273)),
 qA 275 267 false 1 274,
 qL 276 267 false 275,
 rg 277 267 false (.bin .gtr (.tmp 271) (.tmp 276)),
 pO 278 267 277] (some [9,12,13,17,19,21,25,27,278])) (.cond (.tmp 278) (.seq (.region [
 mB 8 false] (some [8]))
 .ret)
 .skip))) (.region [
 mV 231 27,
 rs 232 (.bin .add (.tmp 231) (ci 1)),
 mV 27 232] (some [9,12,13,17,19,21,25,27])))))))
(.seq (.region [
 fA 279 2 12,
 lD 280 279,
 lS 281 6 9,
 fA 282 1 12,
 lD 283 282,
 ⟨(some 284),none,.callx (.func 46) [(.tmp 281),(.tmp 283)]⟩,
 rs 285 (.bin .mul (.tmp 280) (.tmp 284)),
 mV 28 285] (some [13,17,25,28]))
(.seq (.region [
 mV 286 25,
 mV 287 17,
 kL2 288 28 286 287,
 mV 289 288,
 qV 290 289 true 13,
 ⟨(some 291),(some (289,true)),.call (.func 45) [(.tmp 290)]⟩,
 qV 292 289 true 28,
 rg 293 289 true (.bin .eql (.tmp 291) (.tmp 292)),
 pA 294 289 293,
 mV 295 294,
 qV 296 295 true 17,
 ⟨(some 297),(some (295,true)),.call (.func 45) [(.tmp 296)]⟩,
 qV 298 295 true 28,
 rg 299 295 true (.bin .eql (.tmp 297) (.tmp 298)),
 pA 300 295 299,
 mV 301 300,
 ⟨(some 302),(some (301,true)),.call (.func 18) []⟩,
 pA 303 301 302,
 mV 8 303] (some [8]))
.ret))))))))))))))))
theorem k15:Try.f15.body.bind (compC Try.prog G15) = some c15 := by kernel_rfl
theorem e15:compRes Try.prog Try.f15.results.toList = some r15 := by kernel_rfl
end Go.Proofs.Ytdnefcjbcieecaa
namespace Go.Proofs.Ytdnefcjbcieecaa
open Go Go.Proofs
noncomputable section
theorem q15:FunIs Try.prog 15 G15 c15 r15 := ⟨Try.f15,Try.func15,k15,e15,by kernel_rfl,by kernel_rfl⟩
theorem w56t (a0 a1 a2:Option Blk) (n:Nat) (cs:List D):sx (mkX spNil) c56 [] (doneK r56) (envOf [.d (.sl false n cs)]) [] [a0,a1,a2] =
  Tr.need (0 = 0 ∧ 3 = 3 ∧ 1 = 1 ∧ 0 = 0 * 1 ∧ List.length cs = n * 1 ∧ 0 + n ≤ 140737488355328 ∧ (0 + n) * 8 ≤ 140737488355328) (Tr.done (V.own 3 1 (0 + n)) [a0,a1,a2,some (Blk.row 3 1 1 ([] ++ cs))]) := by kernel_rfl
def ent56t:Ent := fun args h => match args,h with
 | [.d (.sl false n cs)],[a0,a1,a2] => some (cs.length = n ∧ n ≤ 1000000,.own 3 1 n,some [a0,a1,a2,some (.row 3 1 1 cs)])
 | _,_ => none
theorem ent56t_ok:EntOk Try.prog 56 ent56t := by
 intro args h p v h' he hp
 unfold ent56t at he
 split at he
 ·cases he
  refine q56.calls (X := mkX spNil) (spNil_ok _) rfl (w56t _ _ _ _ _) ?_
  simp only [holds,Nat.zero_add,List.nil_append,true_and]
  exact ⟨⟨by omega,by omega,by omega⟩,rfl⟩
 ·cases he
def tab15k:Spec := (spAdd 51 ent51 (spAdd 41 ent41 (spAdd 40 ent40 (spAdd 33 ent33 (spAdd 27 ent27 (spAdd 26 ent26 (spAdd 25 ent25 (spAdd 21 ent21 (spAdd 20 ent20 (spAdd 18 ent18 spNil))))))))))
theorem tab15k_ok:SpOk Try.prog tab15k := (spAdd_ok ent51_ok (spAdd_ok ent41_ok (spAdd_ok ent40_ok (spAdd_ok ent33_ok (spAdd_ok ent27_ok (spAdd_ok ent26_ok (spAdd_ok ent25_ok (spAdd_ok ent21_ok (spAdd_ok ent20_ok (spAdd_ok ent18_ok (spNil_ok _)))))))))))
def tab15l:Spec := spAdd 38 ent38t (spAdd 56 ent56t tab15k)
def X15l:Sx := mkX tab15l
theorem X15l_ok:SpOk Try.prog X15l.sp := spAdd_ok ent38t_ok (spAdd_ok ent56t_ok tab15k_ok)
theorem w15 (hl ws:List Int) (m j:Int):sx X15l c15 [] (doneP r15) (envOf [vsl eI hl,vsl eW ws,.d (.int .u8 m),.d (.int .u8 j)]) [] [] =
  let y5_ := (List.length hl)
  let x1_ := (dec 1 gI y5_ (enc eI hl))
  let x2_ := (dec 1 gW (List.length ws) (enc eW ws))
  let x3_ := (Prod.fst (dealt x1_ x2_ m))
  let x4_ := (List.length (Cmp.divs x3_))
  let x5_ := (IntKind.wrap IntKind.i64 j)
  let x6_ := (Int.tmod x5_ (Int.ofNat x4_))
  let x7_ := (Cv (dCe x3_) = Cv x3_ ∧ small (dCe x3_))
  let x8_ := (Prod.snd (dealt x1_ x2_ m))
  let x9_ := (Uv (dUe x8_) = Uv x8_ ∧ List.length (Tru.sold (dUe x8_)) ≤ 1000000 ∧ List.length (Tru.deliv (dUe x8_)) ≤ 1000000)
  let y1_ := (dCe (dCe x3_))
  let y3_ := (dUe (dUe x8_))
  let x10_ := (Cv y1_ = Cv (dCe x3_) ∧ Uv y3_ = Uv (dUe x8_) ∧ True)
  let x11_ := (sumE y1_ y3_ x6_ != (0:Int))
  let x12_ := (sumL paidM y1_ y3_ x6_)
  let x13_ := (sumL rightsM y1_ y3_ x6_)
  let x14_ := (sumL claimsM y1_ y3_ x6_)
  let x15_ := (List.length (Cmp.trades x3_))
  let x16_ := (bdL paidM y1_ x6_)
  let x17_ := (bdL claimsM y1_ x6_)
  let x18_ := (bdL rightsM y1_ x6_)
  let y0_ := (Tr.done (V.d (D.bool false)) [])
  let y2_ := (enc eV (Cmp.divs x3_))
  let y4_ := (List.length x12_)
  Tr.need (enc eI x1_ = enc eI hl) (Tr.br (!begunB x1_) (Tr.need True (Tr.done (V.d (D.bool true)) [])) (Tr.need (okL eI 1 gI y5_ (enc eI hl) ∧ enc eW x2_ = enc eW ws ∧ isWords x2_ ∧ begunB x1_ = true ∧ (0:Int) ≤ m ∧ m ≤ (255:Int)) (Tr.need (Int.ofNat x4_ ≠ (0:Int)) (Tr.need ((0:Int) ≤ Int.tmod x5_ (Int.ofNat x4_) ∧ Int.tmod x5_ (Int.ofNat x4_) < Int.ofNat x4_ ∧ okEl [0,0,0] y2_ 3 x6_) (Tr.need x7_ (Tr.need x9_ (Tr.need x10_ (Tr.need x7_ (Tr.need x9_ (Tr.need x10_ (Tr.need x7_ (Tr.need x9_ (Tr.need x10_ (Tr.need x7_ (Tr.need (Cv y1_ = Cv (dCe x3_) ∧ True) (Tr.need x7_ (Tr.need (Cv y1_ = Cv (dCe x3_) ∧ faultM y1_ = (0:Int) ∧ List.isEmpty (truthsP y1_) = false) (Tr.br x11_ y0_ (Tr.br x11_ y0_ (Tr.br x11_ y0_ (Tr.br (bdE y1_ x6_ != (0:Int)) y0_ (Tr.br ((0:Int) != (0:Int)) y0_ (Tr.br (Int.ofNat 0 != (0:Int)) y0_ (Tr.br (Int.ofNat y4_ != Int.ofNat y5_) y0_ (Tr.br (Int.ofNat (List.length x13_) != Int.ofNat y5_) y0_ (Tr.br (Int.ofNat (List.length x14_) != Int.ofNat x15_) y0_ (Tr.br (Int.ofNat (List.length x16_) != Int.ofNat y4_) y0_ (Tr.br (Int.ofNat (List.length x17_) != Int.ofNat (List.length x14_)) y0_ (Tr.br (Int.ofNat (List.length x18_) != Int.ofNat (List.length x13_)) y0_ (Tr.need x7_ (Tr.need x9_ (Tr.need x10_ (Tr.br (!askE y1_ y3_ == (0:Int)) y0_ (Tr.need (List.length (enc eI x12_) = List.length x12_ ∧ List.length x12_ ≤ 1000000) (Tr.lp (CCode.at c15 [1,1,1,1,1,1,1,1,1,1,1,1,0,1,0,0]) [Fr.blk 0,Fr.seq (CCode.at c15 [1,1,1,1,1,1,1,1,1,1,1,1,1])] [(9,V.ptr 0 0 0),(12,V.ptr 2 0 0),(13,V.d (D.sl false y4_ (enc eI x12_))),(15,V.d (D.sl false (List.length x14_) (enc eI x14_))),(17,V.d (D.sl false (List.length x13_) (enc eI x13_))),(19,V.d (D.sl false (List.length x16_) (enc eR x16_))),(20,V.d (D.sl false (List.length x17_) (enc eR x17_))),(21,V.d (D.sl false (List.length x18_) (enc eR x18_))),(25,V.own 3 1 y4_),(26,V.d (D.int .i64 0))] [some (Blk.box [V.d (D.int .i64 (Cmp.houses x3_)),V.d (D.sl false (List.length (Cmp.held x3_)) (enc eI (Cmp.held x3_))),V.d (D.sl false x15_ (enc eT (Cmp.trades x3_))),V.d (D.sl false x4_ y2_),V.d (D.sl false (List.length (Cmp.splits x3_)) (enc eS (Cmp.splits x3_))),V.d (D.sl false (List.length (Cmp.closed x3_)) (enc eR (Cmp.closed x3_)))]),some (Blk.box [V.d (D.sl false (List.length (Tru.sold x8_)) (enc eI (Tru.sold x8_))),V.d (D.sl false (List.length (Tru.deliv x8_)) (enc eI (Tru.deliv x8_)))]),some (Blk.box [V.d (D.int .i64 (cI y2_ 3 x6_ 0)),V.d (D.int .i64 (cI y2_ 3 x6_ 1)),V.d (D.int .i64 (cI y2_ 3 x6_ 2))]),some (Blk.row 3 1 1 (enc eI x12_))]))))))))))))))))))))))))))))))))))) := by kernel_rfl
end
end Go.Proofs.Ytdnefcjbcieecaa
namespace Go.Proofs.Ytdnefcjbcieecaa
open Go Go.Proofs
noncomputable section
def E15 (p q r:List Int) (x y z:List Rng) (n:Nat) (k:Nat):Env := [(9,.ptr 0 0 0),(12,.ptr 2 0 0),(13,vsl eI p),(15,vsl eI q),(17,vsl eI r),(19,vsl eR x),(20,vsl eR y),(21,vsl eR z),(25,.own 3 1 n),(26,vi k)]
def H15 (c:Cmp) (t:Tru) (d:Dvd) (o:Option Blk):Heap := HD c t d ++ [o]
def Rw (l:List Int):Option Blk := some (.row 3 1 1 (enc eI l))
theorem b15 (c:Cmp) (t:Tru) (d:Dvd) (p q r l:List Int) (x y z:List Rng) (n:Nat) (k:Nat):sx (mkX spNil) (CCode.at c15 [1,1,1,1,1,1,1,1,1,1,1,1,0,1,0,0]) [] leafK (E15 p q r x y z n k) [] (H15 c t d (Rw l)) =
  let x1_ := (decide (Int.ofNat k < Int.ofNat (List.length q)))
  let x2_ := (List.length (Cmp.trades c))
  let y0_ := (enc eT (Cmp.trades c))
  let x3_ := ((0:Int) ≤ Int.ofNat k ∧ Int.ofNat k < Int.ofNat x2_ ∧ okEl [0,0,0,0,0,0,0] y0_ 7 (Int.ofNat k))
  let x4_ := (cI y0_ 7 (Int.ofNat k) 0)
  let x5_ := (((0:Int) ≤ cI y0_ 7 (Int.ofNat k) 0 ∧ cI y0_ 7 (Int.ofNat k) 0 < Int.ofNat n) ∧ 1 = 1 ∧ Int.toNat x4_ * 1 + 1 ≤ List.length (enc eI l))
  let x6_ := (Int.toNat x4_ * 1)
  let x7_ := ((0:Int) ≤ Int.ofNat k ∧ Int.ofNat k < Int.ofNat (List.length q) ∧ okEl [0] (enc eI q) 1 (Int.ofNat k))
  let x8_ := (dI (enc eI l) x6_ - cI (enc eI q) 1 (Int.ofNat k) 0)
  let x9_ := [V.d (D.int .i64 x8_)]
  let x10_ := (cI y0_ 7 (Int.ofNat k) 1)
  let x11_ := (putAt (enc eI l) x6_ [D.int .i64 x8_])
  let x12_ := (((0:Int) ≤ cI y0_ 7 (Int.ofNat k) 1 ∧ cI y0_ 7 (Int.ofNat k) 1 < Int.ofNat n) ∧ 1 = 1 ∧ Int.toNat x10_ * 1 + 1 ≤ List.length x11_)
  let x13_ := (Int.toNat x10_ * 1)
  let x14_ := (dI x11_ x13_ + cI (enc eI q) 1 (Int.ofNat k) 0)
  let x15_ := [V.d (D.int .i64 x14_)]
  let x16_ := ((0:Int) ≤ Int.ofNat k ∧ Int.ofNat k < Int.ofNat (List.length y) ∧ okEl [0,0] (enc eR y) 2 (Int.ofNat k))
  let x17_ := (Blk.box [V.d (D.int .i64 (Cmp.houses c)),V.d (D.sl false (List.length (Cmp.held c)) (enc eI (Cmp.held c))),V.d (D.sl false x2_ y0_),V.d (D.sl false (List.length (Cmp.divs c)) (enc eV (Cmp.divs c))),V.d (D.sl false (List.length (Cmp.splits c)) (enc eS (Cmp.splits c))),V.d (D.sl false (List.length (Cmp.closed c)) (enc eR (Cmp.closed c)))])
  let x18_ := (Blk.box [V.d (D.sl false (List.length (Tru.sold t)) (enc eI (Tru.sold t))),V.d (D.sl false (List.length (Tru.deliv t)) (enc eI (Tru.deliv t)))])
  let x19_ := (Blk.box [V.d (D.int .i64 (Dvd.ex d)),V.d (D.int .i64 (Dvd.record d)),V.d (D.int .i64 (Dvd.pence d))])
  let x20_ := [some x17_,some x18_,some x19_,some (Blk.row 3 1 1 (putAt x11_ x13_ [D.int .i64 x14_]))]
  let y1_ := (Tr.leaf CExit.ret [(8,V.d (D.bool false))] x20_)
  let y2_ := (13,V.d (D.sl false (List.length p) (enc eI p)))
  let y3_ := (15,V.d (D.sl false (List.length q) (enc eI q)))
  let y4_ := (17,V.d (D.sl false (List.length r) (enc eI r)))
  let y5_ := (19,V.d (D.sl false (List.length x) (enc eR x)))
  let y6_ := (20,V.d (D.sl false (List.length y) (enc eR y)))
  let y7_ := (21,V.d (D.sl false (List.length z) (enc eR z)))
  Tr.br x1_ (Tr.need x3_ (Tr.need x5_ (Tr.need (1 = 1 ∧ (enc eI l)[Int.toNat x4_ * 1]? = some (D.int .i64 (dI (enc eI l) x6_))) (Tr.need x7_ (Tr.need (-9223372036854775808 ≤ dI (enc eI l) x6_ - cI (enc eI q) 1 (Int.ofNat k) 0 ∧ dI (enc eI l) x6_ - cI (enc eI q) 1 (Int.ofNat k) 0 ≤ 9223372036854775807) (Tr.need x5_ (Tr.need (1 = 1 ∧ Int.toNat x4_ * 1 + List.length x9_ ≤ List.length (enc eI l) ∧ List.length x9_ = 1) (Tr.need x3_ (Tr.need x12_ (Tr.need (1 = 1 ∧ x11_[Int.toNat x10_ * 1]? = some (D.int .i64 (dI x11_ x13_))) (Tr.need x7_ (Tr.need (-9223372036854775808 ≤ dI x11_ x13_ + cI (enc eI q) 1 (Int.ofNat k) 0 ∧ dI x11_ x13_ + cI (enc eI q) 1 (Int.ofNat k) 0 ≤ 9223372036854775807) (Tr.need x12_ (Tr.need (1 = 1 ∧ Int.toNat x10_ * 1 + List.length x15_ ≤ List.length x11_ ∧ List.length x15_ = 1) (Tr.need x7_ (Tr.need x16_ (Tr.br (decide (cI (enc eI q) 1 (Int.ofNat k) 0 < cI (enc eR y) 2 (Int.ofNat k) 0)) y1_ (Tr.need x7_ (Tr.need x16_ (Tr.br (decide (cI (enc eR y) 2 (Int.ofNat k) 1 < cI (enc eI q) 1 (Int.ofNat k) 0)) y1_ (Tr.need (-9223372036854775808 ≤ Int.ofNat k + (1:Int) ∧ Int.ofNat k + (1:Int) ≤ 9223372036854775807) (Tr.leaf CExit.normal [(9,V.ptr 0 0 0),(12,V.ptr 2 0 0),y2_,y3_,y4_,y5_,y6_,y7_,(25,V.own 3 1 n),(26,V.d (D.int .i64 (Int.ofNat k + (1:Int))))] x20_)))))))))))))))))))))) (Tr.leaf (CExit.exit 0) [(9,V.ptr 0 0 0),(12,V.ptr 2 0 0),y2_,y3_,y4_,y5_,y6_,y7_,(25,V.own 3 1 n),(26,V.d (D.int .i64 (Int.ofNat k))),(172,V.d (D.bool x1_))] [some x17_,some x18_,some x19_,some (Blk.row 3 1 1 (enc eI l))]) := by kernel_rfl
theorem x15 (p q r:List Int) (x y z:List Rng) (n:Nat) (k:Int) (b:Bool) (h:Heap):sS (mkX spNil) (doneP r15) [Fr.blk 0,Fr.seq (CCode.at c15 [1,1,1,1,1,1,1,1,1,1,1,1,1])] (.exit 0) [(9,.ptr 0 0 0),(12,.ptr 2 0 0),(13,vsl eI p),(15,vsl eI q),(17,vsl eI r),(19,vsl eR x),(20,vsl eR y),(21,vsl eR z),(25,.own 3 1 n),(26,vi k),(172,vb b)] [] h =
  Tr.lp (CCode.at c15 [1,1,1,1,1,1,1,1,1,1,1,1,1,0,1,0,0]) [Fr.blk 2,Fr.seq (CCode.at c15 [1,1,1,1,1,1,1,1,1,1,1,1,1,1])] [(9,V.ptr 0 0 0),(12,V.ptr 2 0 0),(13,V.d (D.sl false (List.length p) (enc eI p))),(17,V.d (D.sl false (List.length r) (enc eI r))),(19,V.d (D.sl false (List.length x) (enc eR x))),(21,V.d (D.sl false (List.length z) (enc eR z))),(25,V.own 3 1 n),(27,V.d (D.int .i64 0))] h := by kernel_rfl
def E15b (p r:List Int) (x z:List Rng) (n:Nat) (k:Nat):Env := [(9,.ptr 0 0 0),(12,.ptr 2 0 0),(13,vsl eI p),(17,vsl eI r),(19,vsl eR x),(21,vsl eR z),(25,.own 3 1 n),(27,vi k)]
theorem b15b (c:Cmp) (t:Tru) (d:Dvd) (p r l:List Int) (x z:List Rng) (n:Nat) (k:Nat):sx (mkX spNil) (CCode.at c15 [1,1,1,1,1,1,1,1,1,1,1,1,1,0,1,0,0]) [] leafK (E15b p r x z n k) [] (H15 c t d (Rw l)) =
  let x1_ := (decide (Int.ofNat k < Int.ofNat (List.length p)))
  let x2_ := ((0:Int) ≤ Int.ofNat k ∧ Int.ofNat k < Int.ofNat (List.length p) ∧ okEl [0] (enc eI p) 1 (Int.ofNat k))
  let x3_ := ((0:Int) ≤ Int.ofNat k ∧ Int.ofNat k < Int.ofNat (List.length x) ∧ okEl [0,0] (enc eR x) 2 (Int.ofNat k))
  let x4_ := [some (Blk.box [V.d (D.int .i64 (Cmp.houses c)),V.d (D.sl false (List.length (Cmp.held c)) (enc eI (Cmp.held c))),V.d (D.sl false (List.length (Cmp.trades c)) (enc eT (Cmp.trades c))),V.d (D.sl false (List.length (Cmp.divs c)) (enc eV (Cmp.divs c))),V.d (D.sl false (List.length (Cmp.splits c)) (enc eS (Cmp.splits c))),V.d (D.sl false (List.length (Cmp.closed c)) (enc eR (Cmp.closed c)))]),some (Blk.box [V.d (D.sl false (List.length (Tru.sold t)) (enc eI (Tru.sold t))),V.d (D.sl false (List.length (Tru.deliv t)) (enc eI (Tru.deliv t)))]),some (Blk.box [V.d (D.int .i64 (Dvd.ex d)),V.d (D.int .i64 (Dvd.record d)),V.d (D.int .i64 (Dvd.pence d))]),some (Blk.row 3 1 1 (enc eI l))]
  let x5_ := ((0:Int) ≤ Int.ofNat k ∧ Int.ofNat k < Int.ofNat (List.length r) ∧ okEl [0] (enc eI r) 1 (Int.ofNat k))
  let x6_ := ((0:Int) ≤ Int.ofNat k ∧ Int.ofNat k < Int.ofNat (List.length z) ∧ okEl [0,0] (enc eR z) 2 (Int.ofNat k))
  let y0_ := (Tr.leaf CExit.ret [(8,V.d (D.bool false))] x4_)
  let y1_ := (13,V.d (D.sl false (List.length p) (enc eI p)))
  let y2_ := (17,V.d (D.sl false (List.length r) (enc eI r)))
  let y3_ := (19,V.d (D.sl false (List.length x) (enc eR x)))
  let y4_ := (21,V.d (D.sl false (List.length z) (enc eR z)))
  Tr.br x1_ (Tr.need x2_ (Tr.need x3_ (Tr.br (decide (cI (enc eI p) 1 (Int.ofNat k) 0 < cI (enc eR x) 2 (Int.ofNat k) 0)) y0_ (Tr.need x2_ (Tr.need x3_ (Tr.br (decide (cI (enc eR x) 2 (Int.ofNat k) 1 < cI (enc eI p) 1 (Int.ofNat k) 0)) y0_ (Tr.need x5_ (Tr.need x6_ (Tr.br (decide (cI (enc eI r) 1 (Int.ofNat k) 0 < cI (enc eR z) 2 (Int.ofNat k) 0)) y0_ (Tr.need x5_ (Tr.need x6_ (Tr.br (decide (cI (enc eR z) 2 (Int.ofNat k) 1 < cI (enc eI r) 1 (Int.ofNat k) 0)) y0_ (Tr.need (-9223372036854775808 ≤ Int.ofNat k + (1:Int) ∧ Int.ofNat k + (1:Int) ≤ 9223372036854775807) (Tr.leaf CExit.normal [(9,V.ptr 0 0 0),(12,V.ptr 2 0 0),y1_,y2_,y3_,y4_,(25,V.own 3 1 n),(27,V.d (D.int .i64 (Int.ofNat k + (1:Int))))] x4_)))))))))))))) (Tr.leaf (CExit.exit 2) [(9,V.ptr 0 0 0),(12,V.ptr 2 0 0),y1_,y2_,y3_,y4_,(25,V.own 3 1 n),(27,V.d (D.int .i64 (Int.ofNat k))),(230,V.d (D.bool x1_))] x4_) := by kernel_rfl
def tab15c:Spec := (spAdd 46 ent46 (spAdd 45 ent45 (spAdd 18 ent18 spNil)))
theorem tab15c_ok:SpOk Try.prog tab15c := (spAdd_ok ent46_ok (spAdd_ok ent45_ok (spAdd_ok ent18_ok (spNil_ok _))))
def X15c:Sx := { mkX tab15c with md := fun t => bif Nat.beq t 288 then 1 else 0 }
theorem X15c_ok:SpOk Try.prog X15c.sp := tab15c_ok
theorem x15b (c:Cmp) (t:Tru) (d:Dvd) (p r l:List Int) (x z:List Rng) (n:Nat) (k:Int) (b:Bool):sS X15c (doneP r15) [Fr.blk 2,Fr.seq (CCode.at c15 [1,1,1,1,1,1,1,1,1,1,1,1,1,1])] (.exit 2) [(9,.ptr 0 0 0),(12,.ptr 2 0 0),(13,vsl eI p),(17,vsl eI r),(19,vsl eR x),(21,vsl eR z),(25,.own 3 1 n),(27,vi k),(230,vb b)] [] (H15 c t d (Rw l)) =
  let y0_ := (Tr.done (V.d (D.bool false)) [])
  let y1_ := (Dvd.record d)
  let y2_ := (List.length r)
  Tr.need (Cv (dCe c) = Cv c ∧ faultM (dCe c) = (0:Int) ∧ Dvd.record d ≤ (1000:Int)) (Tr.need (-9223372036854775808 ≤ Dvd.pence d * allU (dCe c) y1_ ∧ Dvd.pence d * allU (dCe c) y1_ ≤ 9223372036854775807) (Tr.clB false (V.d (D.fn (Fn.func 28))) [V.own 3 1 n,V.d (D.sl false y2_ (enc eI r))] [some (Blk.box [V.d (D.int .i64 (Cmp.houses c)),V.d (D.sl false (List.length (Cmp.held c)) (enc eI (Cmp.held c))),V.d (D.sl false (List.length (Cmp.trades c)) (enc eT (Cmp.trades c))),V.d (D.sl false (List.length (Cmp.divs c)) (enc eV (Cmp.divs c))),V.d (D.sl false (List.length (Cmp.splits c)) (enc eS (Cmp.splits c))),V.d (D.sl false (List.length (Cmp.closed c)) (enc eR (Cmp.closed c)))]),some (Blk.box [V.d (D.sl false (List.length (Tru.sold t)) (enc eI (Tru.sold t))),V.d (D.sl false (List.length (Tru.deliv t)) (enc eI (Tru.deliv t)))]),some (Blk.box [V.d (D.int .i64 (Dvd.ex d)),V.d (D.int .i64 y1_),V.d (D.int .i64 (Dvd.pence d))]),some (Blk.row 3 1 1 (enc eI l))] fun b h' => Tr.br b (Tr.need (okL eI 1 gI (List.length p) (enc eI p) ∧ List.length p ≤ 1000 ∧ ∀ (x:Int),x ∈ dec 1 gI (List.length p) (enc eI p) → (-1000000000000:Int) ≤ x ∧ x ≤ (1000000000000:Int)) (Tr.br (sumI (dec 1 gI (List.length p) (enc eI p)) == Dvd.pence d * allU (dCe c) y1_) (Tr.need (okL eI 1 gI y2_ (enc eI r) ∧ List.length r ≤ 1000 ∧ ∀ (x:Int),x ∈ dec 1 gI y2_ (enc eI r) → (-1000000000000:Int) ≤ x ∧ x ≤ (1000000000000:Int)) (Tr.br (sumI (dec 1 gI y2_ (enc eI r)) == Dvd.pence d * allU (dCe c) y1_) (Tr.need True (Tr.done (V.d (D.bool true)) [])) y0_)) y0_)) y0_)) := by kernel_rfl
theorem sumF_mul (a:Int) (f:Nat → Int):∀ n,sumF (fun i => a * f i) n = a * sumF f n
 | 0 => by simp [sumF]
 | n + 1 => by rw [sumF,sumF,sumF_mul a f n,Int.mul_add]
theorem right_sum {c:Cmp} (hf:faultM c = 0) (t:Tru) (d:Dvd):∀ k,k ≤ c.trades.length → sumF (rightT c t d k) c.held.length = d.pence * allU c d.record
 | 0,_ => by
  have := sumF_mul d.pence (heldF c t d.record) c.held.length
  rw [rightT,this]
  congr 1
  exact held_sum hf t d.record _ (Nat.le_refl _)
 | k + 1,hk => by
  have hlt:k < c.trades.length := by omega
  have hb := (fault_ok hf).1
  have ht := trade_in hf hlt
  simp only [okTr,Bool.and_eq_true,decide_eq_true_eq] at ht
  rw [rightT,sumF_move _ _ (by omega) (by omega),right_sum hf t d k (by omega)]
theorem right_mem {c:Cmp} (hf:faultM c = 0) (t:Tru) {d:Dvd} (hd:okDv d = true) {k:Nat} (hk:k ≤ c.trades.length):∀ x ∈ rl (rightT c t d k) c.held.length, -1000000000000 ≤ x ∧ x ≤ 1000000000000 := by
 intro x hx
 have hb := (fault_ok hf).1
 simp only [rl,List.mem_map,List.mem_range] at hx
 obtain ⟨i,hi,rfl⟩ := hx
 have := rightT_in hf t hd k hk i
 omega
theorem tail15 {c:Cmp} {t:Tru} {d:Dvd} (hf:faultM c = 0) (hd:okDv d = true) (x z:List Rng) (k:Int) (b:Bool) :
  holds Try.prog G15 0 (retQ r15 fun v _ => VLe v (vb true)) (fun v _ => VLe v (vb true)) (sS X15c (doneP r15) [Fr.blk 2,Fr.seq (CCode.at c15 [1,1,1,1,1,1,1,1,1,1,1,1,1,1])] (.exit 2) [(9,.ptr 0 0 0),(12,.ptr 2 0 0),(13,vsl eI (paidM c t d)),(17,vsl eI (rightsM c t d)),(19,vsl eR x),(21,vsl eR z),(25,.own 3 1 c.held.length),(27,vi k),(230,vb b)] [] (H15 c t d (Rw (rightsM c t d)))) := by
 rw [x15b]
 have hb := (fault_ok hf).1
 have hdv := div_in hd
 have l1:(paidM c t d).length = c.held.length := paidM_len _ _ _
 have l2:(rightsM c t d).length = c.held.length := rightsM_len _ _ _
 have m1:∀ x ∈ paidM c t d, -1000000000000 ≤ x ∧ x ≤ 1000000000000 := by rw [paid_rl]; exact right_mem hf t hd (Nat.zero_le _)
 have m2:∀ x ∈ rightsM c t d, -1000000000000 ≤ x ∧ x ≤ 1000000000000 := right_mem hf t hd (Nat.le_refl _)
 have s1:sumI (paidM c t d) = d.pence * allU c d.record := by rw [paid_rl,sumI_rl,right_sum hf t d 0 (Nat.zero_le _)]
 have s2:sumI (rightsM c t d) = d.pence * allU c d.record := by
  show sumI (rl (rightT c t d c.trades.length) c.held.length) = _
  rw [sumI_rl,right_sum hf t d _ (Nat.le_refl _)]
 have hs := sumK_in m1 (paidM c t d).length (Nat.le_refl _)
 have hs2:sumK (paidM c t d) (paidM c t d).length = d.pence * allU c d.record := s1
 rw [hs2] at hs
 simp only [holds,Int.ofNat_eq_natCast,dCe,dC_enc,dec_I,okL_I,true_and]
 refine ⟨⟨hf,by omega⟩,⟨by omega,by omega⟩, ?_⟩
 have hc:ACalls Try.prog 28 [.own 3 1 (rightsM c t d).length,vsl eI (rightsM c t d)] (H15 c t d (Rw (rightsM c t d))) fun v _ => v = vb true := by
  refine ACalls.frz (id := 3) (g := 1) (ds := enc eI (rightsM c t d)) rfl rfl ?_
  have e1:([.own 3 1 (rightsM c t d).length,vsl eI (rightsM c t d)]:List V).map (fzV 3 1 (enc eI (rightsM c t d))) = [vsl eI (rightsM c t d),vsl eI (rightsM c t d)] := rfl
  rw [e1]
  refine ACalls.mono (y28 _ _ (by omega) (by omega) _) ?_
  rintro v h ⟨rfl,_⟩
  simp
 rw [l2] at hc
 refine callV_holds ?_ hc
 rintro v h' rfl
 refine ⟨true,rfl,fun h => (by cases h),fun _ => ?_,fun h => by cases h⟩
 rw [s1,s2]
 simp only [beq_self_eq_true,true_imp_iff,Bool.true_eq_false,false_imp_iff,and_true]
 exact ⟨⟨by omega,by omega,m1⟩,⟨by omega,by omega,m2⟩,.refl _⟩
theorem l15b {c:Cmp} {t:Tru} {d:Dvd} (hf:faultM c = 0) (hd:okDv d = true) {x z:List Rng} (hx:x.length = c.held.length) (hz:z.length = c.held.length)
  (hsp:∀ k:Nat,k < c.held.length → (lat x (k:Nat)).lo ≤ lat (paidM c t d) (k:Nat) ∧ lat (paidM c t d) (k:Nat) ≤ (lat x (k:Nat)).hi)
  (hsr:∀ k:Nat,k < c.held.length → (lat z (k:Nat)).lo ≤ lat (rightsM c t d) (k:Nat) ∧ lat (rightsM c t d) (k:Nat) ≤ (lat z (k:Nat)).hi) :
  lpS Try.prog G15 0 (CCode.at c15 [1,1,1,1,1,1,1,1,1,1,1,1,1,0,1,0,0]) [Fr.blk 2,Fr.seq (CCode.at c15 [1,1,1,1,1,1,1,1,1,1,1,1,1,1])] (retQ r15 fun v _ => VLe v (vb true)) (E15b (paidM c t d) (rightsM c t d) x z c.held.length 0) (H15 c t d (Rw (rightsM c t d))) := by
 have hb := (fault_ok hf).1
 have l1:(paidM c t d).length = c.held.length := paidM_len _ _ _
 have l2:(rightsM c t d).length = c.held.length := rightsM_len _ _ _
 refine lp_count (X := mkX spNil) (spNil_ok _) c.held.length (fun _ => True) (fun k => E15b (paidM c t d) (rightsM c t d) x z c.held.length k) (fun _ => H15 c t d (Rw (rightsM c t d))) rfl rfl trivial (fun k _ => ⟨rfl,rfl,rfl⟩) ?_
 intro k hk _ Q' hn he hr
 rw [b15b]
 simp only [holds,Int.ofNat_eq_natCast,cI_I,cI_R0,cI_R1,l1,l2,hx,hz]
 refine ⟨fun e1 => ?_,fun e1 => ?_⟩
 ·have hlt:k < c.held.length := by have := of_decide_eq_true e1; omega
  have hn := hn [] hlt trivial
  have h1 := hsp k hlt
  have h2 := hsr k hlt
  have z1:0 ≤ (k:Int) ∧ (k:Int) < c.held.length ∧ okEl [0] (enc eI (paidM c t d)) 1 (k:Nat) := ⟨by omega,by omega,ok_I (by omega)⟩
  have z2:0 ≤ (k:Int) ∧ (k:Int) < c.held.length ∧ okEl [0] (enc eI (rightsM c t d)) 1 (k:Nat) := ⟨by omega,by omega,ok_I (by omega)⟩
  have z3:0 ≤ (k:Int) ∧ (k:Int) < c.held.length ∧ okEl [0,0] (enc eR x) 2 (k:Nat) := ⟨by omega,by omega,ok_R (by omega)⟩
  have z4:0 ≤ (k:Int) ∧ (k:Int) < c.held.length ∧ okEl [0,0] (enc eR z) 2 (k:Nat) := ⟨by omega,by omega,ok_R (by omega)⟩
  have z5:(-9223372036854775808:Int) ≤ (k:Int) + 1 ∧ (k:Int) + 1 ≤ 9223372036854775807 := by omega
  have g1:decide (lat (paidM c t d) (k:Nat) < (lat x (k:Nat)).lo) = false := decide_eq_false (by omega)
  have g2:decide ((lat x (k:Nat)).hi < lat (paidM c t d) (k:Nat)) = false := decide_eq_false (by omega)
  have g3:decide (lat (rightsM c t d) (k:Nat) < (lat z (k:Nat)).lo) = false := decide_eq_false (by omega)
  have g4:decide ((lat z (k:Nat)).hi < lat (rightsM c t d) (k:Nat)) = false := decide_eq_false (by omega)
  simp only [z1,z2,z3,z4,z5,g1,g2,g3,g4,Bool.false_eq_true,false_imp_iff,true_imp_iff,true_and]
  simp only [E15b,vsl,dsl,l1,l2,hx,hz] at hn
  exact hn
 ·have hge:k = c.held.length := by have := of_decide_eq_false e1; omega
  subst hge
  refine he _ _ _ (ret_tree (R := fun v1 h1 => VLe v1 (vb true)) X15c_ok (doneP_ok rfl) rfl ?_)
  have := tail15 (t := t) hf hd x z c.held.length (decide ((c.held.length:Int) < c.held.length))
  simp only [vsl,dsl,l1,l2,hx,hz] at this
  exact this
end
end Go.Proofs.Ytdnefcjbcieecaa
namespace Go.Proofs.Ytdnefcjbcieecaa
open Go Go.Proofs
noncomputable section
theorem l15 {c:Cmp} {t:Tru} {d:Dvd} (hf:faultM c = 0) (hd:okDv d = true) {x y z:List Rng} (hx:x.length = c.held.length) (hy:y.length = c.trades.length) (hz:z.length = c.held.length)
  (hsp:∀ k:Nat,k < c.held.length → (lat x (k:Nat)).lo ≤ lat (paidM c t d) (k:Nat) ∧ lat (paidM c t d) (k:Nat) ≤ (lat x (k:Nat)).hi)
  (hsq:∀ k:Nat,k < c.trades.length → (lat y (k:Nat)).lo ≤ lat (claimsM c t d) (k:Nat) ∧ lat (claimsM c t d) (k:Nat) ≤ (lat y (k:Nat)).hi)
  (hsr:∀ k:Nat,k < c.held.length → (lat z (k:Nat)).lo ≤ lat (rightsM c t d) (k:Nat) ∧ lat (rightsM c t d) (k:Nat) ≤ (lat z (k:Nat)).hi) :
  lpS Try.prog G15 0 (CCode.at c15 [1,1,1,1,1,1,1,1,1,1,1,1,0,1,0,0]) [Fr.blk 0,Fr.seq (CCode.at c15 [1,1,1,1,1,1,1,1,1,1,1,1,1])] (retQ r15 fun v _ => VLe v (vb true)) (E15 (paidM c t d) (claimsM c t d) (rightsM c t d) x y z c.held.length 0) (H15 c t d (Rw (paidM c t d))) := by
 obtain ⟨⟨g1,g2,g3,g4,g5,g6,g7⟩,g8,g9,g10,g11,g12⟩ := fault_ok hf
 have lq:(claimsM c t d).length = c.trades.length := claimsM_len _ _ _
 have lp:(paidM c t d).length = c.held.length := paidM_len _ _ _
 have lr:(rightsM c t d).length = c.held.length := rightsM_len _ _ _
 refine lp_count (X := mkX spNil) (spNil_ok _) c.trades.length (fun _ => True) (fun k => E15 (paidM c t d) (claimsM c t d) (rightsM c t d) x y z c.held.length k) (fun k => H15 c t d (Rw (rl (rightT c t d k) c.held.length))) rfl (by rw [← paid_rl]) trivial (fun k _ => ⟨rfl,rfl,rfl⟩) ?_
 intro k hk _ Q' hn he hr
 rw [b15]
 simp only [holds,Int.ofNat_eq_natCast,cI_I,cI_T0,cI_T1,cI_R0,cI_R1,true_and,lq,hy]
 refine ⟨fun e1 => ?_,fun e1 => ?_⟩
 ·have hlt:k < c.trades.length := by have := of_decide_eq_true e1; omega
  have ht := trade_in hf hlt
  simp only [okTr,Bool.and_eq_true,decide_eq_true_eq] at ht
  have o1:okEl [0,0,0,0,0,0,0] (enc eT c.trades) 7 (k:Nat) := ok_T (by simpa using hlt)
  have o2:okEl [0] (enc eI (claimsM c t d)) 1 (k:Nat) := ok_I (by rw [lq]; simpa using hlt)
  have o3:okEl [0,0] (enc eR y) 2 (k:Nat) := ok_R (by rw [hy]; simpa using hlt)
  have hc := claimK_in hf t hd hlt
  have hb := fun i => rightT_in hf t hd k hk i
  have hs:0 ≤ (lat c.trades (k:Nat)).seller ∧ (lat c.trades (k:Nat)).seller < (c.held.length:Int) := by omega
  have hbu:0 ≤ (lat c.trades (k:Nat)).buyer ∧ (lat c.trades (k:Nat)).buyer < (c.held.length:Int) := by omega
  have hn1 := hn [] hlt trivial
  have hq := hsq k hlt
  rw [claims_at hlt] at hq
  simp only [E15,vsl,dsl,lq,lp,lr,hx,hy,hz] at hn1
  rw [claims_at hlt,rl_dI _ hs.1 hs.2,rl_put _ hs.1 hs.2,rl_dI _ hbu.1 hbu.2,rl_put _ hbu.1 hbu.2,rl_get _ hs.1 hs.2,rl_get _ hbu.1 hbu.2]
  have b1 := hb (lat c.trades (k:Nat)).seller.toNat
  have b2:setF (rightT c t d k) (lat c.trades (k:Nat)).seller.toNat (rightT c t d k (lat c.trades (k:Nat)).seller.toNat - claimK c t d k) (lat c.trades (k:Nat)).buyer.toNat ≤ 50000000000 * (2 * (k:Int) + 2) ∧ -(50000000000 * (2 * (k:Int) + 2)) ≤ setF (rightT c t d k) (lat c.trades (k:Nat)).seller.toNat (rightT c t d k (lat c.trades (k:Nat)).seller.toNat - claimK c t d k) (lat c.trades (k:Nat)).buyer.toNat := by
   have b2 := hb (lat c.trades (k:Nat)).buyer.toNat
   simp only [setF]
   split <;> omega
  have q1:decide (claimK c t d k < (lat y (k:Nat)).lo) = false := decide_eq_false (by omega)
  have q2:decide ((lat y (k:Nat)).hi < claimK c t d k) = false := decide_eq_false (by omega)
  simp only [len_I,rl_len,lp,lr,hx,hz,q1,q2,Bool.false_eq_true,false_imp_iff,true_imp_iff,true_and]
  refine ⟨⟨by omega,by omega,o1⟩,⟨hs,by omega⟩,⟨by omega,by omega,o2⟩,⟨by omega,by omega⟩,⟨hs,by omega⟩,⟨by simp; omega,rfl⟩,⟨by omega,by omega,o1⟩,⟨hbu,by omega⟩,⟨by omega,by omega,o2⟩,⟨by omega,by omega⟩,⟨hbu,by omega⟩,⟨by simp; omega,rfl⟩,
   ⟨by omega,by omega,o2⟩,⟨by omega,by omega,o3⟩,⟨by omega,by omega,o2⟩,⟨by omega,by omega,o3⟩,⟨by omega,by omega⟩, ?_⟩
  exact hn1
 ·have hge:k = c.trades.length := by have := of_decide_eq_false e1; omega
  subst hge
  refine he _ _ _ (ret_tree (R := fun v1 h1 => VLe v1 (vb true)) (X := mkX spNil) (spNil_ok _) (doneP_ok rfl) (x15 (paidM c t d) (claimsM c t d) (rightsM c t d) x y z c.held.length c.trades.length (decide ((c.trades.length:Int) < c.trades.length)) _) ?_)
  have := l15b (t := t) hf hd hx hz hsp hsr
  exact this
theorem y15 (hl ws:List Int) (m j:Int) (hw:isWords ws) (h0:0 ≤ m) (h1:m ≤ 255) (h2:0 ≤ j) (h3:j ≤ 255) :
  Yields Try.prog 15 [vsl eI hl,vsl eW ws,.d (.int .u8 m),.d (.int .u8 j)] (vb true) := by
 refine q15.yieldsP X15l_ok rfl rfl rfl (w15 hl ws m j) ?_
 simp only [holds,Int.ofNat_eq_natCast,dec_I,dec_W,okL_I,true_and,and_true]
 refine ⟨fun _ => .refl _,fun hb => ?_⟩
 have hb:begunB hl = true := by simpa using hb
 have hL:hl.length ≤ 140737488355328 := by have := begun_ok hb; omega
 have hL1 := (begun_ok hb)
 have ho := dealt_ok hb hw h0 h1
 have hwr:IntKind.wrap .i64 j = j := wrap_i64 (by omega) (by omega)
 generalize hc:(dealt hl ws m).1 = c at *
 generalize ht:(dealt hl ws m).2 = t at *
 rw [hwr]
 have hz := word_in hw 0 (by omega)
 have z1 := wd hz.1 hz.2 (n := 16) (by omega)
 have z2 := wd z1.2.2.2.1 z1.2.2.2.2 (n := 3) (by omega)
 have hdl:0 < c.divs.length := by rw [ho.divs,divK_len,divN]; omega
 have hq := wd h2 (show j ≤ 65535 by omega) (n := c.divs.length) (by omega)
 have hf := ho.fault
 have hbs := (fault_ok hf).1
 have hsm:small c := by unfold small; omega
 have hh:hl.length = c.held.length := by rw [← ho.held]
 have hao := truth_ask hf ho.truth
 obtain ⟨_,hdt,_⟩ := askE_ok hao
 obtain ⟨l1,l2⟩ := dated_len hdt
 have hu:t.sold.length ≤ 1000000 ∧ t.deliv.length ≤ 1000000 := by omega
 generalize hkk:j.tmod c.divs.length = kk at *
 have hn:inR kk 0 (c.divs.length - 1) = true := by simp only [inR,decide_eq_true_eq]; omega
 have hdo:okDv (lat c.divs kk) = true := divs_ok hf hq.1 (by omega)
 have hmem:t ∈ truthsP c := truthsP_mem.2 ho.truth
 have hne:(truthsP c).isEmpty = false := by
  cases hp:truthsP c with
  | nil => rw [hp] at hmem; simp at hmem
  | cons => rfl
 have e:bdE c kk = 0 := by simp [bdE,hf,hn,hne]
 have e2:∀ M,bdL M c kk = bndM M c (lat c.divs kk) := fun M => by simp [bdL,e]
 have e0:sumE c t kk = 0 := by simp [sumE,hao,hn]
 have el:∀ M,sumL M c t kk = M c t (lat c.divs kk) := fun M => by simp [sumL,e0]
 have s0 := bndM_span (M := paidM) (c := c) (d := lat c.divs kk) (N := c.held.length) (fun t _ => paidM_len _ _ _) hne
 have s1 := bndM_span (M := claimsM) (c := c) (d := lat c.divs kk) (N := c.trades.length) (fun t _ => claimsM_len _ _ _) hne
 have s2 := bndM_span (M := rightsM) (c := c) (d := lat c.divs kk) (N := c.held.length) (fun t _ => rightsM_len _ _ _) hne
 have fin := l15 (t := t) hf hdo s0.1 s1.1 s2.1 (fun k hk => (s0.2 k hk).2.2 t hmem) (fun k hk => (s1.2 k hk).2.2 t hmem) (fun k hk => (s2.2 k hk).2.2 t hmem)
 have b1:c.held.length ≤ 140737488355328 ∧ c.held.length ≤ 1000000 := by omega
 simp only [cI_V0,cI_V1,cI_V2,dCe,dC_enc,dUe,dU_enc,true_and,and_true,hb,h0,h1,hL,hsm,hf,hh,hu,e,e2,e0,el,hne,hao,paidM_len,claimsM_len,rightsM_len,s0.1,s1.1,s2.1,bne_self_eq_false,beq_self_eq_true,Bool.not_true,Bool.false_eq_true,false_imp_iff,true_imp_iff,b1]
 simp only [E15,H15,Rw,HD,vsl,dsl,paidM_len,claimsM_len,rightsM_len,s0.1,s1.1,s2.1] at fin
 exact ⟨hw,by omega,⟨hq.1,by omega,ok_V (by omega)⟩,fun h => by simp at h,fun _ => ⟨by simp [paidM_len],fin⟩⟩
end
end Go.Proofs.Ytdnefcjbcieecaa
namespace Go.Proofs.Ytdnefcjbcieecaa
open Go Go.ChangeShapes Go.WideShapes Go.ChangeAt Go.RowKit
def flatFs (g:TypeId → Option (List IntKind)) (cell:TypeId → Nat):List Field → Nat → Option (List IntKind)
 | [],_ => some []
 | f :: fs,off => if f.offset = off then match g f.type,flatFs g cell fs (off + cell f.type) with
   | some a,some b => if a.length = cell f.type then some (a ++ b) else none
   | _,_ => none
  else none
def flatOf (P:Program):Nat → TypeId → Option (List IntKind)
 | 0,_ => none
 | m + 1,T => match P.underlying T with
  | some (.int k) => some [k]
  | some (.struct fs) => match flatFs (flatOf P m) P.cellsOf fs.toList 0 with
   | some ks => if ks.length = P.cellsOf T then some ks else none
   | none => none
  | _ => none
section
variable {H:Type} {enc:TypeId × Value → H} {P:Program} {w:World} {base:Nat} {spare:Nat → Bool} {held:Bool}
def IntsIn (ks:List IntKind) (cs:List Value) (ns:List Int):Prop :=
 ns.length = ks.length ∧ cs = List.zipWith Value.int ks ns ∧ ∀ (j:Nat) k n,ks[j]? = some k → ns[j]? = some n → (Lit.int k n).wf = true
theorem IntsIn.append {k1 k2:List IntKind} {c1 c2:List Value} {n1 n2:List Int} (h1:IntsIn k1 c1 n1) (h2:IntsIn k2 c2 n2):IntsIn (k1 ++ k2) (c1 ++ c2) (n1 ++ n2) := by
 obtain ⟨a1,b1,d1⟩ := h1
 obtain ⟨a2,b2,d2⟩ := h2
 refine ⟨by simp [a1,a2],by rw [b1,b2,List.zipWith_append a1.symm],fun j k n hk hn => ?_⟩
 by_cases hj:j < k1.length
 ·rw [List.getElem?_append_left hj] at hk
  rw [List.getElem?_append_left (by omega)] at hn
  exact d1 j k n hk hn
 ·rw [List.getElem?_append_right (by omega)] at hk
  rw [List.getElem?_append_right (by omega)] at hn
  rw [a1] at hn
  exact d2 _ k n hk hn
theorem flat_sound:∀ (m:Nat) (T:TypeId) (ks:List IntKind),flatOf P m T = some ks → ∀ (fuel:Nat) (cs:List Value) (x:DataW H × List MemPlace),DataW.trod enc P w base spare held fuel T cs = some x → ∃ ns,IntsIn ks cs ns
 | 0,_,_,h => by cases h
 | m + 1,T,ks,h => by
  intro fuel cs x hx
  unfold flatOf at h
  split at h
  ·rename_i k hu
   cases h
   obtain ⟨n,rfl,_,hw⟩ := DataW.trod_int hu hx
   exact ⟨[n],rfl,rfl,fun j k' n' hk hn => by
    cases j with
    | zero => cases hk; cases hn; exact hw
    | succ j => simp at hk⟩
  ·rename_i fs hu
   split at h
   ·rename_i ks' hks
    split at h
    ·rename_i hlen
     cases h
     obtain ⟨xs,n,_,_,hcl,hxl,hf⟩ := DataW.trod_struct hu hx
     have key:∀ (fl:List Field) (off i0:Nat) (ks:List IntKind),(∀ (j:Nat) f,fl[j]? = some f → fs[i0 + j]? = some f) → fl.length + i0 = fs.size → flatFs (flatOf P m) P.cellsOf fl off = some ks → off + ks.length = cs.length → ∃ ns,IntsIn ks (cs.drop off) ns := by
      intro fl
      induction fl with
      | nil =>
       intro off i0 ks hg hl hk ho
       cases hk
       exact ⟨[],rfl,List.drop_eq_nil_of_le (by simp at ho; omega),fun j k n h => by simp at h⟩
      | cons f fl ih =>
       intro off i0 ks hg hl hk ho
       unfold flatFs at hk
       split at hk
       ·rename_i hoff
        split at hk
        ·rename_i a b ha hb
         split at hk
         ·rename_i hal
          cases hk
          have hfi := hg 0 f rfl
          have h1 := hf i0 f (by simpa using hfi)
          have hlt:i0 < xs.length := by rw [hxl]; simp at hl; omega
          rw [List.getElem?_eq_getElem hlt,hoff] at h1
          obtain ⟨n1,hn1⟩ := flat_sound m f.type a ha n _ _ h1
          obtain ⟨n2,hn2⟩ := ih (off + P.cellsOf f.type) (i0 + 1) b (fun j g hj => by have := hg (j + 1) g hj; rwa [show i0 + (j + 1) = i0 + 1 + j by omega] at this) (by simp at hl ⊢; omega) hb (by simp at ho; omega)
          refine ⟨n1 ++ n2, ?_⟩
          have e:cs.drop off = (cs.drop off).take (P.cellsOf f.type) ++ cs.drop (off + P.cellsOf f.type) := by rw [← List.drop_drop,List.take_append_drop]
          rw [e]
          exact hn1.append hn2
         ·cases hk
        ·cases hk
       ·cases hk
     obtain ⟨ns,hns⟩ := key fs.toList 0 0 ks (fun j f hj => by simpa using hj) (by simp) hks (by rw [hcl,hlen]; simp)
     exact ⟨ns,by simpa using hns⟩
    ·cases h
   ·cases h
  ·cases h
def memOf (P:Program) (w:World):Mem := { ro := fun b o => w.cell? ⟨b,o,none⟩,mu := fun _ => none,df := fun _ => False,cc := ccP P }
theorem sim_memOf (P:Program) (w:World):Sim (memOf P w) [] w :=
 ⟨fun i blk h => by simp at h,fun i j bi bj ri rj b h => by simp at h,fun b o v h => ⟨h,fun ⟨i,_,_,h,_⟩ => by simp at h⟩,fun _ _ => rfl,fun _ h => h.elim⟩
def rowD (ks:List IntKind) (ns:List Int):List D := List.zipWith D.int ks ns
theorem rowD_len {ks:List IntKind} {cs:List Value} {ns:List Int} (h:IntsIn ks cs ns):(rowD ks ns).length = ks.length := by simp [rowD,h.1]
theorem slice_sound {T e:TypeId} {ks:List IntKind} {m:Nat} (hT:P.underlying T = some (.slice e)) (he:flatOf P m e = some ks) (hsz:P.cellsOf e = ks.length) (hpos:0 < ks.length) {fuel:Nat} {cs:List Value} {x:DataW H × List MemPlace}
  (hx:DataW.trod enc P w base spare held fuel T cs = some x) :
  ∃ (rows:List (List Int)) (v:Value),cs = [v] ∧ RepD (memOf P w).ro (.sl false rows.length (rows.flatMap (rowD ks))) v ∧ rows.length ≤ maxLen ∧ ∀ r ∈ rows,r.length = ks.length ∧ ∀ (j:Nat) k n,ks[j]? = some k → r[j]? = some n → (Lit.int k n).wf = true := by
 rcases Go.Deep.open_slice hT hx with ⟨rfl,_⟩ | ⟨a,len,cap,q,n,Df,Pl,rfl,_,hle,hm,hq,_,hel⟩
 ·refine ⟨[],_,rfl, ?_,Nat.zero_le _,fun r hr => by simp at hr⟩
  have := VLe.sl (n := 0) (cs := []) (memOf P w) _ (.d _ _ (rep_nil _))
  cases this with
  | d x v h => exact h
 ·have hlq:len ≤ q := by rw [hq]; split <;> omega
  have hrow:∀ i,i < len → ∃ ns,(∀ (j:Nat),j < ks.length → w.cell? ((a.add (i * ks.length)).add j) = (List.zipWith Value.int ks ns)[j]?) ∧ IntsIn ks (List.zipWith Value.int ks ns) ns := fun i hi => by
   obtain ⟨cs',h1,h2⟩ := hel i (by omega)
   obtain ⟨ns,hns⟩ := flat_sound m e ks he n cs' _ h2
   rw [hsz] at h1
   obtain ⟨_,hl,hc⟩ := World.cells?_some h1
   obtain ⟨h3,h4,h5⟩ := hns
   exact ⟨ns,fun j hj => by rw [← h4]; exact hc j hj,h3,rfl,h5⟩
  obtain ⟨f,hf⟩:∃ f:Nat → List Int, ∀ i,i < len → (∀ (j:Nat),j < ks.length → w.cell? ((a.add (i * ks.length)).add j) = (List.zipWith Value.int ks (f i))[j]?) ∧ IntsIn ks (List.zipWith Value.int ks (f i)) (f i) :=
   ⟨fun i => if h:i < len then Classical.choose (hrow i h) else [],fun i hi => by simp only [dif_pos hi]; exact Classical.choose_spec (hrow i hi)⟩
  have hrl:∀ r ∈ (List.range len).map f,(rowD ks r).length = ks.length := fun r hr => by
   obtain ⟨i,hi,rfl⟩ := List.mem_map.1 hr
   exact rowD_len (hf i (List.mem_range.1 hi)).2
  have hget:∀ (i j:Nat),i < len → j < ks.length → (((List.range len).map f).flatMap (rowD ks))[i * ks.length + j]? = (rowD ks (f i))[j]? := by
   have gen:∀ (l:List (List Int)),(∀ r ∈ l,(rowD ks r).length = ks.length) → ∀ (i j:Nat),j < ks.length → (l.flatMap (rowD ks))[i * ks.length + j]? = (l[i]?).bind fun r => (rowD ks r)[j]? := by
    intro l
    induction l with
    | nil => intro _ i j _; simp
    | cons r l ih =>
     intro hl i j hj
     have h0 := hl r (by simp)
     cases i with
     | zero => rw [List.flatMap_cons,List.getElem?_append_left (by omega)]; simp
     | succ i =>
      rw [List.flatMap_cons,List.getElem?_append_right (by rw [h0,Nat.add_mul]; omega),h0]
      have:(i + 1) * ks.length + j - ks.length = i * ks.length + j := by rw [Nat.add_mul]; omega
      rw [this,ih (fun r hr => hl r (by simp [hr])) i j hj]
      rfl
   intro i j hi hj
   rw [gen _ hrl i j hj]
   simp [hi]
  have hlen:(((List.range len).map f).flatMap (rowD ks)).length = len * ks.length := by
   have gen:∀ (l:List (List Int)),(∀ r ∈ l,(rowD ks r).length = ks.length) → (l.flatMap (rowD ks)).length = l.length * ks.length := by
    intro l
    induction l with
    | nil => intro _; simp
    | cons r l ih =>
     intro hl
     rw [List.flatMap_cons,List.length_append,hl r (by simp),ih (fun r hr => hl r (by simp [hr])),List.length_cons,Nat.add_mul]
     omega
   rw [gen _ hrl]; simp
  have hwf:∀ r ∈ (List.range len).map f,r.length = ks.length ∧ ∀ (j:Nat) k n,ks[j]? = some k → r[j]? = some n → (Lit.int k n).wf = true := fun r hr => by
   obtain ⟨i,hi,rfl⟩ := List.mem_map.1 hr
   exact ⟨(hf i (List.mem_range.1 hi)).2.1,(hf i (List.mem_range.1 hi)).2.2.2⟩
  refine ⟨(List.range len).map f,_,rfl, ?_,by simp; omega,hwf⟩
  have hl2:((List.range len).map f).length = len := by simp
  rw [hl2]
  rcases Nat.eq_zero_or_pos len with h0 | h0
  ·subst h0
   exact .sl false 0 cap _ (some a) 0 0 (fun _ => undef) hle hm (fun e => by cases e) (.inl (by simp)) (fun k hk => by simp at hk) (fun k c hc => by simp at hc)
  · -- the address is plain
   have hspot:a = ⟨a.block,a.off,none⟩ := by
    have h1 := (hf 0 h0).1 0 hpos
    have h2 := (hf 0 h0).2.1
    have h3:(a.add (0 * ks.length)).add 0 = a := by simp [Addr.add]
    rw [h3] at h1
    have h4:(List.zipWith Value.int ks (f 0))[0]? ≠ none := by
     intro e
     rw [List.getElem?_eq_none_iff,List.length_zipWith,h2,Nat.min_self] at e
     omega
    cases hs:a.spot with
    | none => cases a; simp_all
    | some s =>
     exfalso
     apply h4
     rw [← h1]
     unfold World.cell?
     split
     ·simp [hs]
     ·rfl
   have hadd:∀ i j:Nat,(a.add (i * ks.length)).add j = ⟨a.block,a.off + (i * ks.length + j),none⟩ := fun i j => by
    rw [hspot]
    by_cases hi:i * ks.length = 0
    ·by_cases hj:j = 0
     ·simp [Addr.add,hi,hj]
     ·simp [Addr.add,hi,hj]
    ·by_cases hj:j = 0
     ·simp [Addr.add,hi,hj]
     ·simp [Addr.add,hi,hj]; omega
   have hsplit:∀ k,k < len * ks.length → ∃ i j,i < len ∧ j < ks.length ∧ k = i * ks.length + j := fun k hk =>
    ⟨k / ks.length,k % ks.length,(Nat.div_lt_iff_lt_mul hpos).2 hk,Nat.mod_lt _ hpos,by rw [Nat.mul_comm]; exact (Nat.div_add_mod k ks.length).symm⟩
   refine .sl false len cap _ (some a) a.block a.off (fun k => (w.cell? ⟨a.block,a.off + k,none⟩).getD undef) hle hm (fun e => by cases e) (.inr (congrArg some hspot)) (fun k hk => ?_) (fun k c hc => ?_)
   ·rw [hlen] at hk
    obtain ⟨i,j,hi,hj,rfl⟩ := hsplit k hk
    have h1 := (hf i hi).1 j hj
    rw [hadd] at h1
    show w.cell? _ = _
    rw [h1]
    have h2 := (hf i hi).2.1
    rw [List.getElem?_eq_getElem (by simp [h2]; omega)]
    rfl
   ·have hk:k < len * ks.length := by rw [← hlen]; exact (List.getElem?_eq_some_iff.1 hc).1
    obtain ⟨i,j,hi,hj,rfl⟩ := hsplit k hk
    rw [hget i j hi hj] at hc
    have h1 := (hf i hi).1 j hj
    rw [hadd] at h1
    rw [h1]
    have h2 := (hf i hi).2.1
    have hk' : ks[j]? = some ks[j] := List.getElem?_eq_getElem hj
    have hn' : (f i)[j]? = some ((f i)[j]'(by omega)) := List.getElem?_eq_getElem (by omega)
    simp only [rowD,List.getElem?_zipWith,hk',hn',Option.map_some,Option.bind_some,Option.some.injEq] at hc ⊢
    subst hc
    exact .int _ _
end
theorem rows1 {rows:List (List Int)} (h:∀ r ∈ rows,r.length = 1):∃ l:List Int,l.length = rows.length ∧ rows.flatMap (rowD [.i64]) = Go.Proofs.Ytdnefcjbcieecaa.enc eI l := by
 induction rows with
 | nil => exact ⟨[],rfl,rfl⟩
 | cons r rows ih =>
  obtain ⟨l,h1,h2⟩ := ih fun r hr => h r (by simp [hr])
  match r,h r (by simp) with
  | [a],_ => exact ⟨a :: l,by simp [h1],by rw [List.flatMap_cons,h2]; rfl⟩
theorem trodAll_old {H:Type} {enc:TypeId × Value → H} {P:Program} {W W' : World} {T:TypeId → Prop} (K:Kids P T) (hz:∀ t e,T t → P.underlying t = some (.slice e) → 0 < P.cellsOf e) {ts:List TypeId} (hT:∀ t ∈ ts,T t)
  {vs:List Value} {ds:List (DataW H)} {ps:List MemPlace} (h:DataW.TrodAll enc P W 0 (fun _ => true) true ts vs ds ps) (hold:∀ b,b < W.heap.size → W'.heap[b]? = W.heap[b]?) :
  DataW.TrodAll enc P W' 0 (fun b => decide (b < W.heap.size)) true ts vs ds ps := by
 have hlt := h.lt
 have h2 := h.respare (spare' := fun b => decide (b < W.heap.size)) K hz hT (fun p hp => decide_eq_true (hlt p hp))
 have hsame:∀ p ∈ ps,W.sameAt W' p := fun p hp => by
  have := hold _ (hlt p hp)
  cases p with
  | cell b off =>
   have this:W'.heap[b]? = W.heap[b]? := this
   show W'.cell? _ = W.cell? _
   unfold World.cell?
   rw [this]
  | map b => exact this
 clear h hlt
 revert vs ds ps
 induction ts with
 | nil => intro vs ds ps h _; cases vs <;> cases ds <;> first | exact h | exact h.elim
 | cons t ts ih =>
  intro vs ds ps h hs
  cases vs with
  | nil => exact h.elim
  | cons v vs => cases ds with
   | nil => exact h.elim
   | cons d ds =>
    obtain ⟨p,q,⟨n,h1⟩,h2,rfl⟩ := h
    exact ⟨p,q,⟨n,DataW.trod_carry n _ _ _ h1 fun x hx => hs x (List.mem_append_left _ hx)⟩,ih (fun t ht => hT t (by simp [ht])) h2 (fun x hx => hs x (List.mem_append_right _ hx)),rfl⟩
theorem calls_true {P:Program} {g:Nat} {vs:List V} {b:Bool} (hy:Yields P g vs (vb b)) (w:World) {args:List Value} (hr:RepL (memOf P w) vs args) :
  Calls P g args.toArray w fun e w' => e = .returned (.bool b) ∧ w'.os = w.os ∧ w'.tape = w.tape ∧ w'.output = w.output ∧ w.heap.size ≤ w'.heap.size ∧ ∀ b,b < w.heap.size → w'.heap[b]? = w.heap[b]? := by
 refine ((hy []).2 (memOf P w) w args rfl (sim_memOf P w) hr).mono ?_
 rintro e w' ⟨cv,v,h2,M',rfl,hp,hv,rfl,rfl⟩
 have hv:RepV M' (.d (.bool b)) cv := hv
 exact ⟨by rw [hv.boolI],hp.os,hp.tape,hp.output,hp.size,fun b hb => hp.keep b hb (fun ⟨i,blk,r,hi,_⟩ => by simp at hi)⟩
end Go.Proofs.Ytdnefcjbcieecaa
namespace Go.Proofs.Ytdnefcjbcieecaa
open Go Go.ChangeShapes Go.WideShapes Go.ChangeAt Go.RowKit
def fieldAt (P:Program) (T:TypeId) (i:Nat):Option (TypeId × Nat × Nat) := match P.underlying T with
 | some (.struct fs) => (fs[i]?).map fun f => (f.type,f.offset,P.cellsOf f.type)
 | _ => none
def isSlice (P:Program) (T e:TypeId):Bool := match P.underlying T with
 | some (.slice t) => t == e
 | _ => false
noncomputable def isIntT (P:Program) (T:TypeId):Nat := match P.underlying T with
 | some (.int k) => kn k + 1
 | _ => 0
theorem isSlice_eq {P:Program} {T e:TypeId} (h:isSlice P T e = true):P.underlying T = some (.slice e) := by
 unfold isSlice at h
 split at h
 ·rename_i hu; rw [hu,eq_of_beq h]
 ·cases h
theorem isIntT_eq {P:Program} {T:TypeId} {k:IntKind} (h:isIntT P T = kn k + 1):P.underlying T = some (.int k) := by
 unfold isIntT at h
 split at h
 ·rename_i k' hu
  rw [hu]
  have h2:kn k' = kn k := by omega
  have h3:k' = k := kn_inj (by rw [h2]; exact Nat.beq_refl _)
  rw [h3]
 ·omega
section
variable {H:Type} {enc:TypeId × Value → H} {w:World} {spare:Nat → Bool} {held:Bool}
theorem int_sound {P:Program} {T:TypeId} {k:IntKind} {fuel:Nat} {cs:List Value} {x:DataW H × List MemPlace} (hT:isIntT P T = kn k + 1) (hx:DataW.trod enc P w 0 spare held fuel T cs = some x) :
  ∃ n,cs = [.int k n] ∧ (Lit.int k n).wf = true := by
 obtain ⟨n,h1,_,h2⟩ := DataW.trod_int (isIntT_eq hT) hx
 exact ⟨n,h1,h2⟩
theorem listI_sound {fuel:Nat} {cs:List Value} {x:DataW H × List MemPlace} (hx:DataW.trod enc Try.prog w 0 spare held fuel 22 cs = some x) :
  ∃ (l:List Int) (v:Value),cs = [v] ∧ RepD (memOf Try.prog w).ro (dsl eI l) v ∧ l.length ≤ maxLen := by
 obtain ⟨rows,v,h1,h2,h3,h4⟩ := slice_sound (ks := [.i64]) (m := 3) (isSlice_eq (e := 3) (by kernel_rfl)) (by kernel_rfl) (by kernel_rfl) (by decide) hx
 obtain ⟨l,hl,he⟩ := rows1 fun r hr => (h4 r hr).1
 exact ⟨l,v,h1,by unfold dsl; rw [hl, ← he]; exact h2,by omega⟩
end
theorem keptBut_of_old {w w' : World} {may:MemPlace → Prop} (h1:w'.os = w.os) (h2:w'.output = w.output) (h3:∀ b,b < w.heap.size → w'.heap[b]? = w.heap[b]?):w.keptBut w' may := by
 refine ⟨h1,h2,fun i hi => ?_⟩
 rw [h3 i hi]
 split
 ·rename_i c t fr c' t' fr' e1 e2
  rw [e1] at e2; cases e2
  exact ⟨rfl,rfl,rfl,fun _ _ => rfl⟩
 ·rename_i es k es' k' e1 e2
  rw [e1] at e2; cases e2
  exact .inr ⟨rfl,rfl⟩
 ·rfl
theorem ownsNothing:ownKnob Try.prog.godebug = none := by kernel_rfl
theorem try_laid:laidOutB Try.prog = true := by kernel_rfl
theorem repL_nil (M:Mem):RepL M [] [] := ⟨rfl,fun k v c h => by simp at h⟩
theorem repL_cons {M:Mem} {v:V} {c:Value} {vs:List V} {cs:List Value} (h:RepV M v c) (hs:RepL M vs cs):RepL M (v :: vs) (c :: cs) := by
 refine ⟨by simp [hs.1],fun k a b ha hb => ?_⟩
 cases k with
 | zero => cases ha; cases hb; exact h
 | succ k => exact hs.2 k a b (by simpa using ha) (by simpa using hb)
theorem try_kids:Kids Try.prog (· < Try.prog.types.size) := kids_rows try_laid (by kernel_rfl)
theorem try_full:∀ t e,t < Try.prog.types.size → Try.prog.underlying t = some (.slice e) → 0 < Try.prog.cellsOf e := slices_full_of Try.prog (by kernel_rfl)
theorem it5:isIntT Try.prog 5 = kn .u8 + 1 := by kernel_rfl
theorem is22:isSlice Try.prog 22 3 = true := by kernel_rfl
section
variable {H:Type} {enc:TypeId × Value → H} {W:World} {base:Nat}
set_option maxRecDepth 100000 in
theorem arg_u8 {v:Value} {d:DataW H} {p:List MemPlace} (hok:Value.okWide Try.prog W .any base 5 v) (ht:DataW.Trod enc Try.prog W 0 (fun _ => true) true 5 v d p):∃ n:Int,RepV (memOf Try.prog W) (.d (.int .u8 n)) v ∧ 0 ≤ n ∧ n ≤ 255 := by
 obtain ⟨n,rfl⟩ := okWide_int (isIntT_eq it5) hok
 obtain ⟨fuel,hx⟩ := ht
 obtain ⟨m,h1,h2⟩ := int_sound it5 hx
 cases h1
 exact ⟨n,.d _ _ (.int _ _),bounds_u8 h2⟩
set_option maxRecDepth 100000 in
theorem arg_ints {v:Value} {d:DataW H} {p:List MemPlace} (hok:Value.okWide Try.prog W .any base 22 v) (ht:DataW.Trod enc Try.prog W 0 (fun _ => true) true 22 v d p):∃ l:List Int,RepV (memOf Try.prog W) (vsl eI l) v ∧ l.length ≤ maxLen := by
 obtain ⟨a,len,cap,rfl⟩ := okWide_slice (isSlice_eq is22) hok
 obtain ⟨fuel,hx⟩ := ht
 obtain ⟨l,v,h1,h2,h3⟩ := listI_sound hx
 cases h1
 exact ⟨l,.d _ _ h2,h3⟩
end
end Go.Proofs.Ytdnefcjbcieecaa
namespace Go.Proofs.Ytdnefcjbcieecaa
open Go Go.ChangeShapes Go.WideShapes Go.ChangeAt Go.RowKit
theorem bounds_u16 {n:Int} (h:(Lit.int .u16 n).wf = true):0 ≤ n ∧ n ≤ 65535 := by
 simp [Lit.wf,IntKind.min,IntKind.max,IntKind.signed,IntKind.bits] at h
 omega
theorem rows1W {rows:List (List Int)} (h:∀ r ∈ rows,r.length = 1 ∧ ∀ (j:Nat) k n,([IntKind.u16]:List IntKind)[j]? = some k → r[j]? = some n → (Lit.int k n).wf = true):∃ l:List Int,l.length = rows.length ∧ rows.flatMap (rowD [.u16]) = Go.Proofs.Ytdnefcjbcieecaa.enc eW l ∧ ∀ w ∈ l,0 ≤ w ∧ w ≤ 65535 := by
 induction rows with
 | nil => exact ⟨[],rfl,rfl,fun w hw => by simp at hw⟩
 | cons r rows ih =>
  obtain ⟨l,h1,h2,h3⟩ := ih fun r hr => h r (by simp [hr])
  have hr := h r (by simp)
  match r,hr.1,hr.2 with
  | [a],_,hw =>
   refine ⟨a :: l,by simp [h1],by rw [List.flatMap_cons,h2]; rfl,fun w hm => ?_⟩
   rcases List.mem_cons.1 hm with rfl | hm
   ·exact bounds_u16 (hw 0 .u16 _ rfl rfl)
   ·exact h3 w hm
section
variable {H:Type} {enc:TypeId × Value → H} {w:World} {spare:Nat → Bool} {held:Bool}
theorem listW_sound {fuel:Nat} {cs:List Value} {x:DataW H × List MemPlace} (hx:DataW.trod enc Try.prog w 0 spare held fuel 66 cs = some x) :
  ∃ (l:List Int) (v:Value),cs = [v] ∧ RepD (memOf Try.prog w).ro (dsl eW l) v ∧ isWords l := by
 obtain ⟨rows,v,h1,h2,h3,h4⟩ := slice_sound (ks := [.u16]) (m := 3) (isSlice_eq (e := 144) (by kernel_rfl)) (by kernel_rfl) (by kernel_rfl) (by decide) hx
 obtain ⟨l,hl,he,hb⟩ := rows1W h4
 exact ⟨l,v,h1,by unfold dsl; rw [hl, ← he]; exact h2,Nat.zero_le _,hb⟩
end
theorem is66:isSlice Try.prog 66 144 = true := by kernel_rfl
section
variable {H:Type} {enc:TypeId × Value → H} {W:World} {base:Nat}
set_option maxRecDepth 100000 in
theorem arg_words {v:Value} {d:DataW H} {p:List MemPlace} (hok:Value.okWide Try.prog W .any base 66 v) (ht:DataW.Trod enc Try.prog W 0 (fun _ => true) true 66 v d p):∃ l:List Int,RepV (memOf Try.prog W) (vsl eW l) v ∧ isWords l := by
 obtain ⟨a,len,cap,rfl⟩ := okWide_slice (isSlice_eq is66) hok
 obtain ⟨fuel,hx⟩ := ht
 obtain ⟨l,v,h1,h2,h3⟩ := listW_sound hx
 cases h1
 exact ⟨l,.d _ _ h2,h3⟩
end
end Go.Proofs.Ytdnefcjbcieecaa
