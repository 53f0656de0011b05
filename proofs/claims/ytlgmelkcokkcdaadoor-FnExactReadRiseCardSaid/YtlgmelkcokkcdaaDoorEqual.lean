/-
  slices.Equal of two slices of ints.
-/
import Derived.Test.YtlgmelkcokkcdaaDoorInts
namespace Go.Proofs.YtlgmelkcokkcdaaDoor
open Go.ChangeShapes Go.WideShapes Go.ChangeAt Go.RowKit Go.Sort


end Go.Proofs.YtlgmelkcokkcdaaDoor
