/-
  The struct Course and slices of it: marks.
-/
import Derived.Test.YtoefoljhgnfoiaaGreatDoorCo
import Derived.Test.YtoefoljhgnfoiaaGreatDoorMtx
import Derived.Test.YtoefoljhgnfoiaaGreatDoorRegrown
import Derived.Test.YtoefoljhgnfoiaaGreatDoorRow
import Derived.Deep.RegionHeld3
import Derived.Deep.DrawnRows
namespace Go.Proofs.YtoefoljhgnfoiaaGreatDoor
open Go.ChangeShapes Go.WideShapes Go.ChangeAt Go.RowKit Go.Sort Go.Joins
set_option linter.unusedVariables false

/-- Marked structs. -/
def mkCO1 (j : Int) (i : Nat) : CO := ⟨mtx (j + 2 * (i : Int)), mtx (j + 2 * (i : Int) + 1)⟩
def mkCO (j : Int) (n : Nat) : List CO := (List.range n).map (mkCO1 j)
theorem mkCO_len (j : Int) (n : Nat) : (mkCO j n).length = n := by simp [mkCO]
theorem mkCO_gd {j : Int} {n i : Nat} (h : i < n) : gd (mkCO j n) i = mkCO1 j i := by rw [gd_eq (by rw [mkCO_len]; exact h)]; simp [mkCO]

end Go.Proofs.YtoefoljhgnfoiaaGreatDoor
