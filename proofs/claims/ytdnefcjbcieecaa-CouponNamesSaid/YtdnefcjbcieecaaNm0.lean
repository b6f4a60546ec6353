import Derived.Test.YtdnefcjbcieecaaAw2
import Derived.Test.YtdnefcjbcieecaaTabB
import Derived.KernelRfl
namespace Go.Proofs.Ytdnefcjbcieecaa
noncomputable section
open Go Go.Proofs
set_option maxRecDepth 100000

def eNm0 : Env := []
def pNm0 : Heap := []
def qNm0 : CCode := c14
def eNm1 : Env := []
def pNm1 : Heap := []
def qNm1 : CCode := tlC qNm0
theorem sNm0 : chkS (callM tab Aw7 (nat_lit 60)) (nat_lit 60) G14 (hdC qNm0) eNm0 pNm0 eNm1 pNm1 = true := by kernel_rfl
theorem wNm0 {n : Nat} {Q : CExit → Env → Heap → Prop} (hq : wpc Try.prog G14 n qNm1 Q eNm1 pNm1) : wpc Try.prog G14 n qNm0 Q eNm0 pNm0 := wpc_step (callM_sound tab_ok Aw7_ok _) (by kernel_rfl) sNm0 hq
def eNm2 : Env := [((nat_lit 1), (.d (.int .i64 (.ofNat (nat_lit 4))))), ((nat_lit 2), (.d (.int .i64 (.ofNat (nat_lit 0)))))]
def pNm2 : Heap := []
def qNm2 : CCode := tlC qNm1
theorem sNm1 : chkS (callM tab Aw7 (nat_lit 60)) (nat_lit 60) G14 (hdC qNm1) eNm1 pNm1 eNm2 pNm2 = true := by kernel_rfl
theorem wNm1 {n : Nat} {Q : CExit → Env → Heap → Prop} (hq : wpc Try.prog G14 n qNm2 Q eNm2 pNm2) : wpc Try.prog G14 n qNm1 Q eNm1 pNm1 := wpc_step (callM_sound tab_ok Aw7_ok _) (by kernel_rfl) sNm1 hq
def aNmm0 : List V := [(.agg [(.d (.int .i64 (.ofNat (nat_lit 2)))), (.d (.sl true (nat_lit 2) [(.int .i64 (.ofNat (nat_lit 10))), (.int .i64 (.ofNat (nat_lit 0)))])), (.d (.sl true (nat_lit 1) [(.int .i64 (.ofNat (nat_lit 0))), (.int .i64 (.ofNat (nat_lit 1))), (.int .i64 (.ofNat (nat_lit 4))), (.int .i64 (.ofNat (nat_lit 2))), (.int .i64 (.ofNat (nat_lit 3))), (.int .i64 (.ofNat (nat_lit 4))), (.int .i64 (.ofNat (nat_lit 5)))])), (.d (.sl true (nat_lit 1) [(.int .i64 (.ofNat (nat_lit 3))), (.int .i64 (.ofNat (nat_lit 4))), (.int .i64 (.ofNat (nat_lit 5)))])), (.d (.sl true (nat_lit 1) [(.int .i64 (.ofNat (nat_lit 4))), (.int .i64 (.ofNat (nat_lit 3))), (.int .i64 (.ofNat (nat_lit 2)))])), (.d (.sl true (nat_lit 1) [(.int .i64 (.ofNat (nat_lit 5))), (.int .i64 (.ofNat (nat_lit 6)))]))]), (.agg [(.d (.sl true (nat_lit 1) [(.int .i64 (.ofNat (nat_lit 2)))])), (.d (.sl true (nat_lit 1) [(.int .i64 (.ofNat (nat_lit 4)))]))]), (.d (.int .i64 (.ofNat (nat_lit 3))))]
def vNmm0 : V := (.tup [(.d (.sl false (nat_lit 2) [(.int .i64 (.ofNat (nat_lit 10))), (.int .i64 (.ofNat (nat_lit 0)))])), (.d (.sl false (nat_lit 2) [(.int .i64 (.ofNat (nat_lit 0))), (.int .i64 (.ofNat (nat_lit 0)))])), (.d (.int .i64 (.ofNat (nat_lit 0))))])
theorem hNmm0 : chkM tab Aw7 (nat_lit 60) (nat_lit 19) aNmm0 vNmm0 = true := by kernel_rfl
def Nmm0 : MemoX := memoC (nat_lit 19) aNmm0 vNmm0 Aw7
theorem Nmm0_ok : MemoOk Try.prog Nmm0 := memoC_ok (chkM_sound tab_ok Aw7_ok hNmm0) Aw7_ok
def eNm3 : Env := [((nat_lit 1), (.d (.int .i64 (.ofNat (nat_lit 4))))), ((nat_lit 2), (.d (.int .i64 (.ofNat (nat_lit 0))))), ((nat_lit 3), (.d (.sl false (nat_lit 2) [(.int .i64 (.ofNat (nat_lit 10))), (.int .i64 (.ofNat (nat_lit 0)))]))), ((nat_lit 5), (.d (.int .i64 (.ofNat (nat_lit 0)))))]
def pNm3 : Heap := []
def qNm3 : CCode := tlC qNm2
theorem sNm2 : chkS (callM tab Nmm0 (nat_lit 60)) (nat_lit 60) G14 (hdC qNm2) eNm2 pNm2 eNm3 pNm3 = true := by kernel_rfl
theorem wNm2 {n : Nat} {Q : CExit → Env → Heap → Prop} (hq : wpc Try.prog G14 n qNm3 Q eNm3 pNm3) : wpc Try.prog G14 n qNm2 Q eNm2 pNm2 := wpc_step (callM_sound tab_ok Nmm0_ok _) (by kernel_rfl) sNm2 hq
def aNmm1 : List V := [(.agg [(.d (.fn (.func (nat_lit 64))))]), (.agg [(.d (.int .i64 (.ofNat (nat_lit 2)))), (.d (.sl true (nat_lit 2) [(.int .i64 (.ofNat (nat_lit 10))), (.int .i64 (.ofNat (nat_lit 0)))])), (.d (.sl true (nat_lit 1) [(.int .i64 (.ofNat (nat_lit 0))), (.int .i64 (.ofNat (nat_lit 1))), (.int .i64 (.ofNat (nat_lit 4))), (.int .i64 (.ofNat (nat_lit 2))), (.int .i64 (.ofNat (nat_lit 3))), (.int .i64 (.ofNat (nat_lit 4))), (.int .i64 (.ofNat (nat_lit 5)))])), (.d (.sl true (nat_lit 1) [(.int .i64 (.ofNat (nat_lit 3))), (.int .i64 (.ofNat (nat_lit 4))), (.int .i64 (.ofNat (nat_lit 5)))])), (.d (.sl true (nat_lit 1) [(.int .i64 (.ofNat (nat_lit 4))), (.int .i64 (.ofNat (nat_lit 3))), (.int .i64 (.ofNat (nat_lit 2)))])), (.d (.sl true (nat_lit 1) [(.int .i64 (.ofNat (nat_lit 5))), (.int .i64 (.ofNat (nat_lit 6)))]))]), (.agg [(.d (.sl true (nat_lit 1) [(.int .i64 (.ofNat (nat_lit 2)))])), (.d (.sl true (nat_lit 1) [(.int .i64 (.ofNat (nat_lit 4)))]))]), (.d (.int .i64 (.ofNat (nat_lit 0))))]
def vNmm1 : V := (.tup [(.d (.sl false (nat_lit 2) [(.int .i64 (.ofNat (nat_lit 32400))), (.int .i64 (.ofNat (nat_lit 21600)))])), (.d (.int .i64 (.ofNat (nat_lit 0))))])
theorem hNmm1 : chkM tab Nmm0 (nat_lit 60) (nat_lit 65) aNmm1 vNmm1 = true := by kernel_rfl
def Nmm1 : MemoX := memoC (nat_lit 65) aNmm1 vNmm1 Nmm0
theorem Nmm1_ok : MemoOk Try.prog Nmm1 := memoC_ok (chkM_sound tab_ok Nmm0_ok hNmm1) Nmm0_ok
def eNm4 : Env := [((nat_lit 1), (.d (.int .i64 (.ofNat (nat_lit 4))))), ((nat_lit 2), (.d (.int .i64 (.ofNat (nat_lit 0))))), ((nat_lit 3), (.d (.sl false (nat_lit 2) [(.int .i64 (.ofNat (nat_lit 10))), (.int .i64 (.ofNat (nat_lit 0)))]))), ((nat_lit 5), (.d (.int .i64 (.ofNat (nat_lit 0))))), ((nat_lit 6), (.d (.sl false (nat_lit 2) [(.int .i64 (.ofNat (nat_lit 32400))), (.int .i64 (.ofNat (nat_lit 21600)))]))), ((nat_lit 7), (.d (.int .i64 (.ofNat (nat_lit 0)))))]
def pNm4 : Heap := []
def qNm4 : CCode := tlC qNm3
theorem sNm3 : chkS (callM tab Nmm1 (nat_lit 60)) (nat_lit 60) G14 (hdC qNm3) eNm3 pNm3 eNm4 pNm4 = true := by kernel_rfl
theorem wNm3 {n : Nat} {Q : CExit → Env → Heap → Prop} (hq : wpc Try.prog G14 n qNm4 Q eNm4 pNm4) : wpc Try.prog G14 n qNm3 Q eNm3 pNm3 := wpc_step (callM_sound tab_ok Nmm1_ok _) (by kernel_rfl) sNm3 hq
def aNmm2 : List V := [(.agg [(.d (.fn (.func (nat_lit 66))))]), (.agg [(.d (.int .i64 (.ofNat (nat_lit 2)))), (.d (.sl true (nat_lit 2) [(.int .i64 (.ofNat (nat_lit 10))), (.int .i64 (.ofNat (nat_lit 0)))])), (.d (.sl true (nat_lit 1) [(.int .i64 (.ofNat (nat_lit 0))), (.int .i64 (.ofNat (nat_lit 1))), (.int .i64 (.ofNat (nat_lit 4))), (.int .i64 (.ofNat (nat_lit 2))), (.int .i64 (.ofNat (nat_lit 3))), (.int .i64 (.ofNat (nat_lit 4))), (.int .i64 (.ofNat (nat_lit 5)))])), (.d (.sl true (nat_lit 1) [(.int .i64 (.ofNat (nat_lit 3))), (.int .i64 (.ofNat (nat_lit 4))), (.int .i64 (.ofNat (nat_lit 5)))])), (.d (.sl true (nat_lit 1) [(.int .i64 (.ofNat (nat_lit 4))), (.int .i64 (.ofNat (nat_lit 3))), (.int .i64 (.ofNat (nat_lit 2)))])), (.d (.sl true (nat_lit 1) [(.int .i64 (.ofNat (nat_lit 5))), (.int .i64 (.ofNat (nat_lit 6)))]))]), (.agg [(.d (.sl true (nat_lit 1) [(.int .i64 (.ofNat (nat_lit 2)))])), (.d (.sl true (nat_lit 1) [(.int .i64 (.ofNat (nat_lit 4)))]))]), (.d (.int .i64 (.ofNat (nat_lit 0))))]
def vNmm2 : V := (.tup [(.d (.sl false (nat_lit 1) [(.int .i64 (.ofNat (nat_lit 0)))])), (.d (.int .i64 (.ofNat (nat_lit 0))))])
theorem hNmm2 : chkM tab Nmm1 (nat_lit 60) (nat_lit 65) aNmm2 vNmm2 = true := by kernel_rfl
def Nmm2 : MemoX := memoC (nat_lit 65) aNmm2 vNmm2 Nmm1
theorem Nmm2_ok : MemoOk Try.prog Nmm2 := memoC_ok (chkM_sound tab_ok Nmm1_ok hNmm2) Nmm1_ok
def eNm5 : Env := [((nat_lit 1), (.d (.int .i64 (.ofNat (nat_lit 4))))), ((nat_lit 2), (.d (.int .i64 (.ofNat (nat_lit 0))))), ((nat_lit 3), (.d (.sl false (nat_lit 2) [(.int .i64 (.ofNat (nat_lit 10))), (.int .i64 (.ofNat (nat_lit 0)))]))), ((nat_lit 5), (.d (.int .i64 (.ofNat (nat_lit 0))))), ((nat_lit 6), (.d (.sl false (nat_lit 2) [(.int .i64 (.ofNat (nat_lit 32400))), (.int .i64 (.ofNat (nat_lit 21600)))]))), ((nat_lit 7), (.d (.int .i64 (.ofNat (nat_lit 0))))), ((nat_lit 8), (.d (.sl false (nat_lit 1) [(.int .i64 (.ofNat (nat_lit 0)))]))), ((nat_lit 9), (.d (.int .i64 (.ofNat (nat_lit 0)))))]
def pNm5 : Heap := []
def qNm5 : CCode := tlC qNm4
theorem sNm4 : chkS (callM tab Nmm2 (nat_lit 60)) (nat_lit 60) G14 (hdC qNm4) eNm4 pNm4 eNm5 pNm5 = true := by kernel_rfl
theorem wNm4 {n : Nat} {Q : CExit → Env → Heap → Prop} (hq : wpc Try.prog G14 n qNm5 Q eNm5 pNm5) : wpc Try.prog G14 n qNm4 Q eNm4 pNm4 := wpc_step (callM_sound tab_ok Nmm2_ok _) (by kernel_rfl) sNm4 hq
end
end Go.Proofs.Ytdnefcjbcieecaa
