/-
  A slice of ints that came in, read.
-/
import Derived.Test.YtahcdofikfookaaRow
namespace Go.Proofs.Ytahcdofikfookaa
open Go.ChangeShapes Go.WideShapes Go.ChangeAt Go.RowKit Go.Sort Go.Joins

def LenI (xs : List Int) : Prop := xs.length ≤ maxLen
theorem open_IA {H : Type} {enc : TypeId × Value → H} {W : World} {sp : Nat → Bool} {r : Reach} {b0 : Nat} {v : Value} {d : DataW H} {p : List MemPlace}
    (hv : Value.okWide Try.prog W r b0 22 v) (h : DataW.Trod enc Try.prog W 0 sp true 22 v d p) :
    ∃ xs : List Int, RI W v xs ∧ LenI xs := by
  obtain ⟨a, n, c, rfl⟩ := okWide_slice Try.underlying22 hv
  obtain ⟨fuel, hf⟩ := h
  exact open_I hf

end Go.Proofs.Ytahcdofikfookaa
