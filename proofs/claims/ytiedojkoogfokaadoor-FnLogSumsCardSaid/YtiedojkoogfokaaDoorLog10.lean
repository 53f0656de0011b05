/-
  Logs: CheckLog, RecoverLog.
-/
import Derived.Test.YtiedojkoogfokaaDoorLog9
namespace Go.Proofs.YtiedojkoogfokaaDoor
open Go.ChangeShapes Go.WideShapes Go.ChangeAt Go.RowKit Go.Sort
set_option linter.unusedVariables false
set_option maxRecDepth 100000
attribute [local go_sem ↓] Go.wp_at_zero Go.wp_at_succ

theorem field_rd2 (A : Option Addr) (n c : Nat) (a b : Int) (w : World) : (Instr.field 54 (.agg #[.slice A n c, .int .i64 a, .int .i64 b]) 2).run Tryd.prog w = .ok (.int .i64 b) w := by kernel_rfl
attribute [local go_sem] field_rd2

def mCheckLog (s : ByteArray) : Int × Int := if 4000 < s.size then (0, 5) else ((rdLog s.data.toList).2.2, 0)
def mRecover (s : ByteArray) : ByteArray × Int × Int := if 4000 < s.size then (⟨#[]⟩, 0, 5) else (s.extract 0 (rdLog s.data.toList).2.2, (s.size : Int) - (rdLog s.data.toList).2.2, 0)

set_option maxHeartbeats 1600000 in
theorem impl_CheckLog (s : ByteArray) (w : World) (hs : s.size ≤ 1048576) (hE : Env w) :
    Calls Tryd.prog 17 #[.string s] w (Ret (.tuple #[.int .i64 (mCheckLog s).1, .int .i64 (mCheckLog s).2]) w) := by
  by_cases h4 : 4000 < s.size
  · skip
    have HF : Hid (mCheckLog s = (0, 5)) := Lib.hid (by unfold mCheckLog; rw [if_pos h4])
    have e1 : (4000 : Int) < s.size := by omega
    clear h4
    go_enter Tryd.func17, Tryd.ntmps17
    go_wp2_with fail
    go_ret2
    rw [HF.out]
    exact ⟨rfl, ext_refl _⟩
  · have HF : Hid (mCheckLog s = (((rdLog s.data.toList).2.2 : Int), 0)) := Lib.hid (by unfold mCheckLog; rw [if_neg h4])
    have e1 : ¬ (4000 : Int) < s.size := by omega
    have HC := Lib.hid (impl_readLog s hs w hE)
    clear h4 hE
    go_enter Tryd.func17, Tryd.ntmps17
    go_wp2_with fail
    refine (show Calls _ _ _ _ _ from HC.out).mono ?_
    rintro e w2 ⟨A, c, rfl, hO, hb⟩
    have HW := Lib.hid hb
    clear hO hb HC
    go_wp2_with fail
    go_ret2
    rw [HF.out]
    exact ⟨rfl, HW.out⟩
set_option maxHeartbeats 1600000 in
theorem impl_RecoverLog (s : ByteArray) (w : World) (hs : s.size ≤ 1048576) (hE : Env w) :
    Calls Tryd.prog 16 #[.string s] w (Ret (.tuple #[.string (mRecover s).1, .int .i64 (mRecover s).2.1, .int .i64 (mRecover s).2.2]) w) := by
  by_cases h4 : 4000 < s.size
  · skip
    have HF : Hid (mRecover s = (⟨#[]⟩, 0, 5)) := Lib.hid (by unfold mRecover; rw [if_pos h4])
    have e1 : (4000 : Int) < s.size := by omega
    clear h4
    go_enter Tryd.func16, Tryd.ntmps16
    go_wp2_with fail
    go_ret3
    rw [HF.out]
    exact ⟨rfl, ext_refl _⟩
  · have HF : Hid (mRecover s = (s.extract 0 (rdLog s.data.toList).2.2, (s.size : Int) - (rdLog s.data.toList).2.2, 0)) := Lib.hid (by unfold mRecover; rw [if_neg h4])
    have e1 : ¬ (4000 : Int) < s.size := by omega
    have HC := Lib.hid (impl_readLog s hs w hE)
    have hn := (rdLog_le s).2.1
    clear h4 hE
    go_enter Tryd.func16, Tryd.ntmps16
    go_wp2_with fail
    refine (show Calls _ _ _ _ _ from HC.out).mono ?_
    rintro e w2 ⟨A, c, rfl, hO, hb⟩
    have HW := Lib.hid hb
    clear hO hb HC
    obtain ⟨n, hnn⟩ : ∃ n, (rdLog s.data.toList).2.2 = n := ⟨_, rfl⟩
    rw [hnn] at hn HF ⊢
    clear hnn
    have e2 : (0 : Int) ≤ n := by omega
    have e3 : (n : Int) ≤ s.size := by omega
    go_wp2_with fail
    go_ret3
    rw [HF.out]
    exact ⟨rfl, HW.out⟩
end Go.Proofs.YtiedojkoogfokaaDoor
