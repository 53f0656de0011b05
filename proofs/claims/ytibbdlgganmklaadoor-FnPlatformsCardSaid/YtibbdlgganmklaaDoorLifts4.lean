/-
  Lifts, fourth part: LiftCost.
-/
import Derived.Test.YtibbdlgganmklaaDoorLifts3
namespace Go.Proofs.YtibbdlgganmklaaDoor
open Go.ChangeShapes Go.WideShapes Go.ChangeAt Go.RowKit Go.Sort
set_option linter.unusedVariables false

def mLiftCost (r : RS) (a b : Int) : Int × Int := bif vRise r then (bif inB b 1 r.cs.length && inB a 0 (b - 1) then (bif fits r a.toNat b.toNat then (cost r a.toNat b.toNat, 0) else (0, 6)) else (0, 2)) else (0, 1)

end Go.Proofs.YtibbdlgganmklaaDoor
