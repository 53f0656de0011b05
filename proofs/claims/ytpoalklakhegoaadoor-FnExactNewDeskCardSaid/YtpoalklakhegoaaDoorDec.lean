/-
  Decimal numerals: the reference's walk (l01Dec), the program's (Decimal, by the shelf).
-/
import Derived.Test.YtpoalklakhegoaaDoorByt
import Derived.Test.YtpoalklakhegoaaDoorDecP
import Derived.IntWalk
import Derived.ChangeMaps5
import Derived.Deep.RegionHeld3
import Derived.Deep.DrawnRows
namespace Go.Proofs.YtpoalklakhegoaaDoor
open Go.ChangeShapes Go.WideShapes Go.ChangeAt Go.RowKit Go.Sort
set_option linter.unusedVariables false
set_option maxRecDepth 8000
attribute [local go_sem ↓] Go.wp_at_zero Go.wp_at_succ

/-- The text of a number. -/
def itb (n : Int) : ByteArray := ⟨(Lib.itoa n).toArray⟩


end Go.Proofs.YtpoalklakhegoaaDoor
