/-
  The program's Decimal, by the shelf.
-/
import Derived.Test.YtoefoljhgnfoiaaGreatDoorEnv
import Derived.Test.YtoefoljhgnfoiaaGreatDoorShelf
import Derived.Lib.AppendIntMem
namespace Go.Proofs.YtoefoljhgnfoiaaGreatDoor
open Go.ChangeShapes Go.WideShapes Go.ChangeAt Go.RowKit Go.Sort
set_option linter.unusedVariables false
set_option maxRecDepth 8000

set_option maxHeartbeats 800000 in
theorem impl_Dec (n : Int) (h0 : -9223372036854775808 ≤ n) (h1 : n ≤ 9223372036854775807) (w : World) (hL : LayF w) :
    Calls Tryz.prog 26 #[.int .i64 n] w (Ret (.string (itb n)) w) := by
  have hc := Tryz.strconv_FormatInt_10 n h0 h1 w hL
  go_enter Tryz.func26, Tryz.ntmps26
  go_wp2_with fail
  refine hc.mono ?_
  rintro e w' ⟨rfl, k, os, rfl⟩
  go_wp2_with fail
  go_ret
  exact ⟨rfl, Lib.below_grow _ _ (Nat.le_refl _) _ _⟩

end Go.Proofs.YtoefoljhgnfoiaaGreatDoor
