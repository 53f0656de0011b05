/-
  A Rise that came in, read.
-/
import Derived.Test.YtlgmelkcokkcdaaDoorRow
import Derived.Test.YtlgmelkcokkcdaaDoorRise
namespace Go.Proofs.YtlgmelkcokkcdaaDoor
open Go.ChangeShapes Go.WideShapes Go.ChangeAt Go.RowKit Go.Sort Go.Joins
set_option maxRecDepth 100000

theorem open_SR {H : Type} {enc : TypeId × Value → H} {W : World} {sp : Nat → Bool} {r : Reach} {b0 : Nat} {v : Value} {d : DataW H} {p : List MemPlace}
    (hv : Value.okWide Tryd.prog W r b0 30 v) (h : DataW.Trod enc Tryd.prog W 0 sp true 30 v d p) :
    ∃ q : RS, SR W v q ∧ LenSR q := by
  obtain ⟨v0, v1, v2, v3, y0, y1, y2, y3, n, rfl, _, _, k0, k1, k2, k3⟩ := open_agg4 Tryd.underlying30 (by kernel_rfl) (by kernel_rfl) hv h
  obtain ⟨xs, hx, hl⟩ := open_I k0
  obtain ⟨i1, e1, _, _⟩ := DataW.trod_int Tryd.underlying2 k1
  obtain ⟨i2, e2, _, _⟩ := DataW.trod_int Tryd.underlying2 k2
  obtain ⟨i3, e3, _, _⟩ := DataW.trod_int Tryd.underlying2 k3
  injection e1 with e1
  injection e2 with e2
  injection e3 with e3
  subst e1 e2 e3
  have hx' := hx
  obtain ⟨_, A, c, rfl, _⟩ := hx'
  exact ⟨⟨xs, i1, i2, i3⟩, ⟨A, c, rfl, hx⟩, hl⟩

end Go.Proofs.YtlgmelkcokkcdaaDoor
