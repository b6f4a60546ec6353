import Derived.Test.YtdnefcjbcieecaaAw1
import Derived.Test.YtdnefcjbcieecaaTab
import Derived.KernelRfl
namespace Go.Proofs.Ytdnefcjbcieecaa
noncomputable section
open Go Go.Proofs
set_option maxRecDepth 100000

def aAw5 : List V := [(.agg [(.d (.int .i64 (.ofNat (nat_lit 2)))), (.d (.sl true (nat_lit 2) [(.int .i64 (.ofNat (nat_lit 10))), (.int .i64 (.ofNat (nat_lit 0)))])), (.d (.sl false (nat_lit 1) [(.int .i64 (.ofNat (nat_lit 0))), (.int .i64 (.ofNat (nat_lit 1))), (.int .i64 (.ofNat (nat_lit 11))), (.int .i64 (.ofNat (nat_lit 2))), (.int .i64 (.ofNat (nat_lit 3))), (.int .i64 (.ofNat (nat_lit 4))), (.int .i64 (.ofNat (nat_lit 5)))])), (.d (.sl true (nat_lit 1) [(.int .i64 (.ofNat (nat_lit 3))), (.int .i64 (.ofNat (nat_lit 4))), (.int .i64 (.ofNat (nat_lit 5)))])), (.d (.sl true (nat_lit 1) [(.int .i64 (.ofNat (nat_lit 4))), (.int .i64 (.ofNat (nat_lit 3))), (.int .i64 (.ofNat (nat_lit 2)))])), (.d (.sl true (nat_lit 1) [(.int .i64 (.ofNat (nat_lit 5))), (.int .i64 (.ofNat (nat_lit 6)))]))])]
def vAw5 : V := (.d (.bool false))
theorem hAw5 : chkM tab Aw4 (nat_lit 60) (nat_lit 77) aAw5 vAw5 = true := by kernel_rfl
def Aw5 : MemoX := memoC (nat_lit 77) aAw5 vAw5 Aw4
theorem Aw5_ok : MemoOk Try.prog Aw5 := memoC_ok (chkM_sound tab_ok Aw4_ok hAw5) Aw4_ok
def aAw6 : List V := [(.agg [(.d (.int .i64 (.ofNat (nat_lit 2)))), (.d (.sl true (nat_lit 2) [(.int .i64 (.ofNat (nat_lit 10))), (.int .i64 (.ofNat (nat_lit 0)))])), (.d .nils), (.d (.sl true (nat_lit 1) [(.int .i64 (.ofNat (nat_lit 3))), (.int .i64 (.ofNat (nat_lit 4))), (.int .i64 (.ofNat (nat_lit 5)))])), (.d (.sl true (nat_lit 1) [(.int .i64 (.ofNat (nat_lit 4))), (.int .i64 (.ofNat (nat_lit 3))), (.int .i64 (.ofNat (nat_lit 2)))])), (.d (.sl true (nat_lit 1) [(.int .i64 (.ofNat (nat_lit 5))), (.int .i64 (.ofNat (nat_lit 6)))]))])]
def vAw6 : V := (.d (.bool true))
theorem hAw6 : chkM tab Aw5 (nat_lit 60) (nat_lit 77) aAw6 vAw6 = true := by kernel_rfl
def Aw6 : MemoX := memoC (nat_lit 77) aAw6 vAw6 Aw5
theorem Aw6_ok : MemoOk Try.prog Aw6 := memoC_ok (chkM_sound tab_ok Aw5_ok hAw6) Aw5_ok
def aAw7 : List V := []
def vAw7 : V := (.d (.bool true))
theorem hAw7 : chkM tab Aw6 (nat_lit 60) (nat_lit 18) aAw7 vAw7 = true := by kernel_rfl
def Aw7 : MemoX := memoC (nat_lit 18) aAw7 vAw7 Aw6
theorem Aw7_ok : MemoOk Try.prog Aw7 := memoC_ok (chkM_sound tab_ok Aw6_ok hAw7) Aw6_ok
end
end Go.Proofs.Ytdnefcjbcieecaa
