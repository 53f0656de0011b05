/-
  The laws' own small functions: f6big, f6sum.
-/
import Derived.Test.YtikiomjgnpdldaaBase
import Derived.Test.YtikiomjgnpdldaaByt
namespace Go.Proofs.Ytikiomjgnpdldaa
open Go.ChangeShapes Go.WideShapes Go.ChangeAt Go.RowKit Go.Sort
set_option linter.unusedVariables false

theorem f6_big (v : Value) (bs : List UInt8) (w : World) (hR : RB w v bs) : Calls Try.prog 5 #[v] w (RetP (.bool (decide (4096 < bs.length))) w) := by
  obtain ⟨A, c, rfl, hc1, hc2, _⟩ := hR.open_
  clear hR
  unfold maxLen at hc2
  by_cases h : 4096 < bs.length
  · have HX : Hid (decide (4096 < bs.length) = true) := Lib.hid (decide_eq_true h)
    have e1 : (4096:Int) < bs.length := by omega
    go_enter Try.func5, Try.ntmps5
    go_wp2_with fail
    go_ret
    first | exact ⟨ret_bool HX.out.symm, rfl⟩ | exact ⟨rfl, rfl⟩
  · have HX : Hid (decide (4096 < bs.length) = false) := Lib.hid (decide_eq_false h)
    have e1 : ¬ (4096:Int) < bs.length := by omega
    go_enter Try.func5, Try.ntmps5
    go_wp2_with fail
    go_ret
    first | exact ⟨ret_bool HX.out.symm, rfl⟩ | exact ⟨rfl, rfl⟩

end Go.Proofs.Ytikiomjgnpdldaa
