/-
  Bytes that came in, read.
-/
import Derived.Test.YtbggggaoljpfnaaGreatDoorRow
import Derived.Test.YtbggggaoljpfnaaGreatDoorSrc
namespace Go.Proofs.YtbggggaoljpfnaaGreatDoor
open Go.ChangeShapes Go.WideShapes Go.ChangeAt Go.RowKit Go.Sort Go.Joins

theorem u8_wf {z : Int} (h : (Lit.int .u8 z).wf = true) : ((UInt8.ofNat z.toNat).toNat : Int) = z := by
  have h2 : 0 ≤ z ∧ z < 256 := by
    have h1 : IntKind.u8.min = 0 := by decide
    have h3 : IntKind.u8.max = 255 := by decide
    simp [Lit.wf] at h
    omega
  rw [UInt8.toNat_ofNat_of_lt' (by show z.toNat < 256; omega)]
  omega
set_option maxRecDepth 100000 in
theorem open_bytes_arg {H : Type} {enc : TypeId × Value → H} {W : World} {sp : Nat → Bool} {r : Reach} {b0 : Nat} {v : Value} {d : DataW H} {p : List MemPlace}
    (hv : Value.okWide Tryz.prog W r b0 22 v) (h : DataW.Trod enc Tryz.prog W 0 sp true 22 v d p) :
    ∃ bs : List UInt8, RB W v bs := by
  obtain ⟨a0, n0, c0, rfl⟩ := okWide_slice Tryz.underlying22 hv
  obtain ⟨fuel, hf⟩ := h
  rcases open_ints Tryz.underlying22 Tryz.underlying5 (by kernel_rfl) hf with ⟨hv, _⟩ | ⟨a, len, cap, zs, hv, _, hl, hm, hz, _, hc, hwf⟩
  · injection hv with hv
    injection hv with e1 e2 e3
    subst e1 e2 e3
    exact ⟨[], by simp, none, 0, rfl, by simp, by simp [maxLen], fun h => by simp at h⟩
  · injection hv with hv
    injection hv with e1 e2 e3
    subst e1 e2 e3
    have hzl : n0 ≤ zs.length := by rw [hz]; split <;> omega
    have e : ((zs.take n0).map fun z => UInt8.ofNat z.toNat).length = n0 := by simp; omega
    refine ⟨(zs.take n0).map fun z => UInt8.ofNat z.toNat, by simp, some a, c0, by rw [e], by rw [e]; exact hl, hm, fun h0 => ⟨a, rfl, ?_, fun j u hu => ?_⟩⟩
    · have := block_lt_of_cell (hc 0 (by omega))
      rwa [block_of_add] at this
    · have hj : j < n0 := by
        rcases Nat.lt_or_ge j n0 with h | h
        · exact h
        · rw [List.getElem?_eq_none (by simp; omega)] at hu; cases hu
      rw [List.getElem?_map, List.getElem?_map, List.getElem?_take, if_pos hj, List.getElem?_eq_getElem (by omega)] at hu
      simp only [Option.map_some, Option.some.injEq] at hu
      rw [hc j (by omega), ← hu, u8_wf (hwf _ (List.getElem_mem _)), List.getD_eq_getElem?_getD, List.getElem?_eq_getElem (by omega)]
      rfl

end Go.Proofs.YtbggggaoljpfnaaGreatDoor
