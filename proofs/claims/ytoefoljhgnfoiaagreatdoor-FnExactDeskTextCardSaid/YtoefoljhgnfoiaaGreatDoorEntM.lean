/-
  The struct Entry and slices of it: marks.
-/
import Derived.Test.YtoefoljhgnfoiaaGreatDoorEnt
import Derived.Test.YtoefoljhgnfoiaaGreatDoorMtx
import Derived.Test.YtoefoljhgnfoiaaGreatDoorRegrown
import Derived.Test.YtoefoljhgnfoiaaGreatDoorRow
import Derived.Deep.RegionHeld3
import Derived.Deep.DrawnRows
namespace Go.Proofs.YtoefoljhgnfoiaaGreatDoor
open Go.ChangeShapes Go.WideShapes Go.ChangeAt Go.RowKit Go.Sort Go.Joins
set_option linter.unusedVariables false

/-- Marked structs. -/
def mkEN1 (j : Int) (i : Nat) : EN := ⟨j + 3 * (i : Int), mtx (j + 3 * (i : Int) + 1), j + 3 * (i : Int) + 1 + 1⟩
def mkEN (j : Int) (n : Nat) : List EN := (List.range n).map (mkEN1 j)
theorem mkEN_len (j : Int) (n : Nat) : (mkEN j n).length = n := by simp [mkEN]
theorem mkEN_gd {j : Int} {n i : Nat} (h : i < n) : gd (mkEN j n) i = mkEN1 j i := by rw [gd_eq (by rw [mkEN_len]; exact h)]; simp [mkEN]

end Go.Proofs.YtoefoljhgnfoiaaGreatDoor
