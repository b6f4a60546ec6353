import Derived.Test.YtdnefcjbcieecaaAw0
import Derived.Test.YtdnefcjbcieecaaTab
import Derived.KernelRfl
namespace Go.Proofs.Ytdnefcjbcieecaa
noncomputable section
open Go Go.Proofs
set_option maxRecDepth 100000

def aAw4 : List V := [(.agg [(.d (.int .i64 (.ofNat (nat_lit 2)))), (.d (.sl true (nat_lit 2) [(.int .i64 (.ofNat (nat_lit 10))), (.int .i64 (.ofNat (nat_lit 0)))])), (.d (.sl true (nat_lit 1) [(.int .i64 (.ofNat (nat_lit 0))), (.int .i64 (.ofNat (nat_lit 1))), (.int .i64 (.ofNat (nat_lit 4))), (.int .i64 (.ofNat (nat_lit 2))), (.int .i64 (.ofNat (nat_lit 3))), (.int .i64 (.ofNat (nat_lit 4))), (.int .i64 (.ofNat (nat_lit 5)))])), (.d (.sl true (nat_lit 1) [(.int .i64 (.ofNat (nat_lit 3))), (.int .i64 (.ofNat (nat_lit 4))), (.int .i64 (.ofNat (nat_lit 5)))])), (.d (.sl true (nat_lit 1) [(.int .i64 (.ofNat (nat_lit 4))), (.int .i64 (.ofNat (nat_lit 3))), (.int .i64 (.ofNat (nat_lit 2)))])), (.d (.sl true (nat_lit 1) [(.int .i64 (.ofNat (nat_lit 5))), (.int .i64 (.ofNat (nat_lit 6)))]))]), (.d (.int .i64 (.ofNat (nat_lit 0))))]
def vAw4 : V := (.tup [(.d (.sl false (nat_lit 2) [(.int .i64 (.ofNat (nat_lit 32400))), (.int .i64 (.ofNat (nat_lit 54000))), (.int .i64 (.ofNat (nat_lit 0))), (.int .i64 (.ofNat (nat_lit 21600)))])), (.d (.sl false (nat_lit 1) [(.int .i64 (.negSucc (nat_lit 21599))), (.int .i64 (.ofNat (nat_lit 21600)))])), (.d (.sl false (nat_lit 2) [(.int .i64 (.ofNat (nat_lit 32400))), (.int .i64 (.ofNat (nat_lit 54000))), (.int .i64 (.ofNat (nat_lit 0))), (.int .i64 (.ofNat (nat_lit 21600)))])), (.d (.int .i64 (.ofNat (nat_lit 0))))])
theorem hAw4 : chkM tab Aw3 (nat_lit 60) (nat_lit 33) aAw4 vAw4 = true := by kernel_rfl
def Aw4 : MemoX := memoC (nat_lit 33) aAw4 vAw4 Aw3
theorem Aw4_ok : MemoOk Try.prog Aw4 := memoC_ok (chkM_sound tab_ok Aw3_ok hAw4) Aw3_ok
end
end Go.Proofs.Ytdnefcjbcieecaa
