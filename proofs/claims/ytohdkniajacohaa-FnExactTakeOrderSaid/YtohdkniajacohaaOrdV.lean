/-
  An order as an argument, where a call gave it (the part of OrdT that wants no printer).
-/
import Derived.Test.YtohdkniajacohaaOrdM
namespace Go.Proofs.Ytohdkniajacohaa
open Go.ChangeShapes Go.WideShapes Go.ChangeAt Go.RowKit Go.Sort
set_option linter.unusedVariables false
/-- The same struct, where a call gave it. -/
def OOD (_ : World) (_ : Nat) (v : Value) (o : OD) : Prop := v = .agg #[.int .i64 o.id, .string o.cu, .int .i64 o.br, .int .i64 o.due, .int .i64 o.sent]
theorem OOD.rd {w : World} {b : Nat} {v : Value} {o : OD} (h : OOD w b v o) : ROD w v o := h
/-- It holds no memory. -/
def BOD (_ : Value) (_ : Nat) : Prop := False
theorem OOD.ge {w : World} {b : Nat} {v : Value} {o : OD} (_ : OOD w b v o) : ∀ k, BOD v k → b ≤ k ∧ k < w.heap.size := fun _ h => h.elim
theorem OOD.ext {w w' : World} {b : Nat} {v : Value} {o : OD} (h : OOD w b v o) (_ : Below w.heap.size w w') : OOD w' b v o := h
theorem to_ODv (v : Value) (o : OD) (w : World) (ha : ROD w v o) (hs : SmOD o) :
    Calls Try.prog 18 #[v] w fun e w' => ∃ v', e = .returned v' ∧ OOD w' w.heap.size v' o ∧ Below w.heap.size w w' := (to_OD v o w ha hs).mono fun e w' ⟨h1, h2⟩ => ⟨_, h1, rfl, h2⟩
end Go.Proofs.Ytohdkniajacohaa
