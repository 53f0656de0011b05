/-
  The struct Order and slices of it: marks.
-/
import Derived.Test.YtlgmelkcokkcdaaDoorOrd
import Derived.Test.YtlgmelkcokkcdaaDoorMtx
import Derived.Test.YtlgmelkcokkcdaaDoorRegrown
import Derived.Test.YtlgmelkcokkcdaaDoorRow
import Derived.Deep.RegionHeld3
import Derived.Deep.DrawnRows
namespace Go.Proofs.YtlgmelkcokkcdaaDoor
open Go.ChangeShapes Go.WideShapes Go.ChangeAt Go.RowKit Go.Sort Go.Joins
set_option linter.unusedVariables false

/-- Marked structs. -/
def mkOD1 (j : Int) (i : Nat) : OD := ⟨j + 5 * (i : Int), mtx (j + 5 * (i : Int) + 1), j + 5 * (i : Int) + 1 + 1, j + 5 * (i : Int) + 1 + 1 + 1, j + 5 * (i : Int) + 1 + 1 + 1 + 1⟩
def mkOD (j : Int) (n : Nat) : List OD := (List.range n).map (mkOD1 j)
theorem mkOD_len (j : Int) (n : Nat) : (mkOD j n).length = n := by simp [mkOD]
theorem mkOD_gd {j : Int} {n i : Nat} (h : i < n) : gd (mkOD j n) i = mkOD1 j i := by rw [gd_eq (by rw [mkOD_len]; exact h)]; simp [mkOD]

end Go.Proofs.YtlgmelkcokkcdaaDoor
