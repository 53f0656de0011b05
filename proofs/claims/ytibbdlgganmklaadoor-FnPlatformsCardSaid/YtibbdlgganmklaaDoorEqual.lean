/-
  slices.Equal of two slices of ints.
-/
import Derived.Test.YtibbdlgganmklaaDoorInts
namespace Go.Proofs.YtibbdlgganmklaaDoor
open Go.ChangeShapes Go.WideShapes Go.ChangeAt Go.RowKit Go.Sort


end Go.Proofs.YtibbdlgganmklaaDoor
