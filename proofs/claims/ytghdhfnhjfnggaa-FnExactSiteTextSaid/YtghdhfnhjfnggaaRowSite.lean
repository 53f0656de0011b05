/-
  A Site that came in, read.
-/
import Derived.Test.YtghdhfnhjfnggaaRow
import Derived.Test.YtghdhfnhjfnggaaSite
namespace Go.Proofs.Ytghdhfnhjfnggaa
open Go.ChangeShapes Go.WideShapes Go.ChangeAt Go.RowKit Go.Sort Go.Joins

theorem open_ST {H : Type} {enc : TypeId × Value → H} {W : World} {sp : Nat → Bool} {r : Reach} {b0 : Nat} {v : Value} {d : DataW H} {p : List MemPlace}
    (hv : Value.okWide Try.prog W r b0 24 v) (h : DataW.Trod enc Try.prog W 0 sp true 24 v d p) :
    ∃ (s : ByteArray) (xs : List Int), ST W v s xs ∧ LenST s xs := by
  obtain ⟨v0, v1, y0, y1, n, rfl, _, _, h0, h1⟩ := open_agg2 Try.underlying24 (by kernel_rfl) (by kernel_rfl) hv h
  obtain ⟨s, e, _, hs⟩ := DataW.trod_string Try.underlying9 h0
  injection e with e
  obtain ⟨xs, hx, hl⟩ := open_I h1
  have hx' := hx
  obtain ⟨_, A, c, rfl, _⟩ := hx'
  exact ⟨s, xs, ⟨A, c, by rw [e], hx⟩, hs, hl⟩

end Go.Proofs.Ytghdhfnhjfnggaa
