import Derived.Test.YtdnefcjbcieecaaCoreY
import Derived.Test.YtdnefcjbcieecaaTab
import Derived.KernelRfl
namespace Go.Proofs.Ytdnefcjbcieecaa
noncomputable section
open Go Go.Proofs
set_option maxRecDepth 100000

def aAw0 : List V := [(.agg [(.d (.int .i64 (.ofNat (nat_lit 2)))), (.d (.sl true (nat_lit 2) [(.int .i64 (.ofNat (nat_lit 10))), (.int .i64 (.ofNat (nat_lit 0)))])), (.d (.sl true (nat_lit 1) [(.int .i64 (.ofNat (nat_lit 0))), (.int .i64 (.ofNat (nat_lit 1))), (.int .i64 (.ofNat (nat_lit 4))), (.int .i64 (.ofNat (nat_lit 2))), (.int .i64 (.ofNat (nat_lit 3))), (.int .i64 (.ofNat (nat_lit 4))), (.int .i64 (.ofNat (nat_lit 5)))])), (.d (.sl true (nat_lit 1) [(.int .i64 (.ofNat (nat_lit 3))), (.int .i64 (.ofNat (nat_lit 4))), (.int .i64 (.ofNat (nat_lit 5)))])), (.d (.sl true (nat_lit 1) [(.int .i64 (.ofNat (nat_lit 4))), (.int .i64 (.ofNat (nat_lit 3))), (.int .i64 (.ofNat (nat_lit 2)))])), (.d (.sl true (nat_lit 1) [(.int .i64 (.ofNat (nat_lit 5))), (.int .i64 (.ofNat (nat_lit 6)))]))]), (.agg [(.d (.sl true (nat_lit 1) [(.int .i64 (.ofNat (nat_lit 2)))])), (.d (.sl true (nat_lit 1) [(.int .i64 (.ofNat (nat_lit 4)))]))]), (.d (.int .i64 (.ofNat (nat_lit 4))))]
def vAw0 : V := (.tup [(.d (.sl false (nat_lit 2) [(.int .i64 (.ofNat (nat_lit 9))), (.int .i64 (.ofNat (nat_lit 6)))])), (.d (.sl false (nat_lit 2) [(.int .i64 (.ofNat (nat_lit 0))), (.int .i64 (.ofNat (nat_lit 0)))])), (.d (.int .i64 (.ofNat (nat_lit 0))))])
theorem hAw0 : chkM tab memo0 (nat_lit 60) (nat_lit 19) aAw0 vAw0 = true := by kernel_rfl
def Aw0 : MemoX := memoC (nat_lit 19) aAw0 vAw0 memo0
theorem Aw0_ok : MemoOk Try.prog Aw0 := memoC_ok (chkM_sound tab_ok memo0_ok hAw0) memo0_ok
def aAw1 : List V := [(.agg [(.d (.fn (.func (nat_lit 64))))]), (.agg [(.d (.int .i64 (.ofNat (nat_lit 2)))), (.d (.sl true (nat_lit 2) [(.int .i64 (.ofNat (nat_lit 10))), (.int .i64 (.ofNat (nat_lit 0)))])), (.d (.sl true (nat_lit 1) [(.int .i64 (.ofNat (nat_lit 0))), (.int .i64 (.ofNat (nat_lit 1))), (.int .i64 (.ofNat (nat_lit 4))), (.int .i64 (.ofNat (nat_lit 2))), (.int .i64 (.ofNat (nat_lit 3))), (.int .i64 (.ofNat (nat_lit 4))), (.int .i64 (.ofNat (nat_lit 5)))])), (.d (.sl true (nat_lit 1) [(.int .i64 (.ofNat (nat_lit 3))), (.int .i64 (.ofNat (nat_lit 4))), (.int .i64 (.ofNat (nat_lit 5)))])), (.d (.sl true (nat_lit 1) [(.int .i64 (.ofNat (nat_lit 4))), (.int .i64 (.ofNat (nat_lit 3))), (.int .i64 (.ofNat (nat_lit 2)))])), (.d (.sl true (nat_lit 1) [(.int .i64 (.ofNat (nat_lit 5))), (.int .i64 (.ofNat (nat_lit 6)))]))]), (.agg [(.d (.sl true (nat_lit 1) [(.int .i64 (.ofNat (nat_lit 2)))])), (.d (.sl true (nat_lit 1) [(.int .i64 (.ofNat (nat_lit 5)))]))]), (.d (.int .i64 (.ofNat (nat_lit 0))))]
def vAw1 : V := (.tup [(.d (.sl false (nat_lit 2) [(.int .i64 (.ofNat (nat_lit 54000))), (.int .i64 (.ofNat (nat_lit 0)))])), (.d (.int .i64 (.ofNat (nat_lit 0))))])
theorem hAw1 : chkM tab Aw0 (nat_lit 60) (nat_lit 65) aAw1 vAw1 = true := by kernel_rfl
def Aw1 : MemoX := memoC (nat_lit 65) aAw1 vAw1 Aw0
theorem Aw1_ok : MemoOk Try.prog Aw1 := memoC_ok (chkM_sound tab_ok Aw0_ok hAw1) Aw0_ok
def aAw2 : List V := [(.agg [(.d (.fn (.func (nat_lit 66))))]), (.agg [(.d (.int .i64 (.ofNat (nat_lit 2)))), (.d (.sl true (nat_lit 2) [(.int .i64 (.ofNat (nat_lit 10))), (.int .i64 (.ofNat (nat_lit 0)))])), (.d (.sl true (nat_lit 1) [(.int .i64 (.ofNat (nat_lit 0))), (.int .i64 (.ofNat (nat_lit 1))), (.int .i64 (.ofNat (nat_lit 4))), (.int .i64 (.ofNat (nat_lit 2))), (.int .i64 (.ofNat (nat_lit 3))), (.int .i64 (.ofNat (nat_lit 4))), (.int .i64 (.ofNat (nat_lit 5)))])), (.d (.sl true (nat_lit 1) [(.int .i64 (.ofNat (nat_lit 3))), (.int .i64 (.ofNat (nat_lit 4))), (.int .i64 (.ofNat (nat_lit 5)))])), (.d (.sl true (nat_lit 1) [(.int .i64 (.ofNat (nat_lit 4))), (.int .i64 (.ofNat (nat_lit 3))), (.int .i64 (.ofNat (nat_lit 2)))])), (.d (.sl true (nat_lit 1) [(.int .i64 (.ofNat (nat_lit 5))), (.int .i64 (.ofNat (nat_lit 6)))]))]), (.agg [(.d (.sl true (nat_lit 1) [(.int .i64 (.ofNat (nat_lit 3)))])), (.d (.sl true (nat_lit 1) [(.int .i64 (.ofNat (nat_lit 4)))]))]), (.d (.int .i64 (.ofNat (nat_lit 0))))]
def vAw2 : V := (.tup [(.d (.sl false (nat_lit 1) [(.int .i64 (.negSucc (nat_lit 21599)))])), (.d (.int .i64 (.ofNat (nat_lit 0))))])
theorem hAw2 : chkM tab Aw1 (nat_lit 60) (nat_lit 65) aAw2 vAw2 = true := by kernel_rfl
def Aw2 : MemoX := memoC (nat_lit 65) aAw2 vAw2 Aw1
theorem Aw2_ok : MemoOk Try.prog Aw2 := memoC_ok (chkM_sound tab_ok Aw1_ok hAw2) Aw1_ok
def aAw3 : List V := [(.agg [(.d (.fn (.func (nat_lit 67))))]), (.agg [(.d (.int .i64 (.ofNat (nat_lit 2)))), (.d (.sl true (nat_lit 2) [(.int .i64 (.ofNat (nat_lit 10))), (.int .i64 (.ofNat (nat_lit 0)))])), (.d (.sl true (nat_lit 1) [(.int .i64 (.ofNat (nat_lit 0))), (.int .i64 (.ofNat (nat_lit 1))), (.int .i64 (.ofNat (nat_lit 4))), (.int .i64 (.ofNat (nat_lit 2))), (.int .i64 (.ofNat (nat_lit 3))), (.int .i64 (.ofNat (nat_lit 4))), (.int .i64 (.ofNat (nat_lit 5)))])), (.d (.sl true (nat_lit 1) [(.int .i64 (.ofNat (nat_lit 3))), (.int .i64 (.ofNat (nat_lit 4))), (.int .i64 (.ofNat (nat_lit 5)))])), (.d (.sl true (nat_lit 1) [(.int .i64 (.ofNat (nat_lit 4))), (.int .i64 (.ofNat (nat_lit 3))), (.int .i64 (.ofNat (nat_lit 2)))])), (.d (.sl true (nat_lit 1) [(.int .i64 (.ofNat (nat_lit 5))), (.int .i64 (.ofNat (nat_lit 6)))]))]), (.agg [(.d (.sl true (nat_lit 1) [(.int .i64 (.ofNat (nat_lit 2)))])), (.d (.sl true (nat_lit 1) [(.int .i64 (.ofNat (nat_lit 5)))]))]), (.d (.int .i64 (.ofNat (nat_lit 0))))]
def vAw3 : V := (.tup [(.d (.sl false (nat_lit 2) [(.int .i64 (.ofNat (nat_lit 32400))), (.int .i64 (.ofNat (nat_lit 21600)))])), (.d (.int .i64 (.ofNat (nat_lit 0))))])
theorem hAw3 : chkM tab Aw2 (nat_lit 60) (nat_lit 65) aAw3 vAw3 = true := by kernel_rfl
def Aw3 : MemoX := memoC (nat_lit 65) aAw3 vAw3 Aw2
theorem Aw3_ok : MemoOk Try.prog Aw3 := memoC_ok (chkM_sound tab_ok Aw2_ok hAw3) Aw2_ok
end
end Go.Proofs.Ytdnefcjbcieecaa
