/-
  Logs, third part: StampOf.
-/
import Derived.Test.YtiedojkoogfokaaDoorLog2
namespace Go.Proofs.YtiedojkoogfokaaDoor
open Go.ChangeShapes Go.WideShapes Go.ChangeAt Go.RowKit Go.Sort
set_option linter.unusedVariables false
set_option maxRecDepth 8000
attribute [local go_sem ↓] Go.wp_at_zero Go.wp_at_succ

theorem RetP.bool2 {P : Program} {f : FuncId} {args : Array Value} {w : World} {b c : Bool} (h : Calls P f args w (RetP (.bool b) w)) (e : b = c) : Calls P f args w (RetP (.bool c) w) := e ▸ h
def mStampOf (b : Int) (o : EN) : Int × Int := bif vEn o then (bif inB b 0 65518 then (stpb b (wrb o), 0) else (0, 2)) else (0, 1)

end Go.Proofs.YtiedojkoogfokaaDoor
