/-
  A quiet callee's contract behind draws and new blocks (for go_big_quiet_step).
-/
import Derived.Test.YtoefoljhgnfoiaaGreatDoorBase

namespace Go.Proofs.YtoefoljhgnfoiaaGreatDoor
open Go.ChangeShapes Go.WideShapes Go.ChangeAt Go.RowKit Go.Sort

theorem regrown_p {P : Program} {f : FuncId} {args : Array Value} {w : World} {d : Nat} {os : Array Obj} {v : Value} (h : Calls P f args (grow (redrawn w d) os) (RetP v (grow (redrawn w d) os))) :
    Calls P f args (grow (redrawn w d) os) fun e w'' => e = .returned v ∧ ∃ p : Regrown, w'' = grow (redrawn w p.d) p.os := Calls.regrown_of (RetP.ret h)
theorem regrown_r {P : Program} {f : FuncId} {args : Array Value} {w : World} {d : Nat} {os : Array Obj} {v : Value} (h : Calls P f args (grow (redrawn w d) os) (Ret v (grow (redrawn w d) os))) :
    Calls P f args (grow (redrawn w d) os) fun e w'' => e = .returned v ∧ ∃ p : Regrown, w'' = grow (redrawn w p.d) p.os := Calls.regrown_of h
theorem Ret.bool {P : Program} {f : FuncId} {args : Array Value} {w : World} {b c : Bool} (h : Calls P f args w (Ret (.bool b) w)) (e : b = c) : Calls P f args w (Ret (.bool c) w) := e ▸ h

end Go.Proofs.YtoefoljhgnfoiaaGreatDoor
