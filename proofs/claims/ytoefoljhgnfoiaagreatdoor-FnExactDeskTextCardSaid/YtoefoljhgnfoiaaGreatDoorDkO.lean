/-
  The console's state as it comes in.
-/
import Derived.Test.YtoefoljhgnfoiaaGreatDoorDk
import Derived.Test.YtoefoljhgnfoiaaGreatDoorRow
namespace Go.Proofs.YtoefoljhgnfoiaaGreatDoor
open Go.ChangeShapes Go.WideShapes Go.ChangeAt Go.RowKit Go.Sort Go.Joins
set_option linter.unusedVariables false
set_option maxRecDepth 100000

theorem elem_COS {H : Type} {enc : TypeId × Value → H} {W : World} {sp : Nat → Bool} {fuel : Nat} {v : Value} {x : DataW H × List MemPlace} (hf : DataW.trod enc Tryz.prog W 0 sp true fuel 24 [v] = some x) :
    ∃ (A : Option Addr) (c : Nat) (l : List CO), v = .slice A l.length c ∧ RCOS W (.slice A l.length c) l ∧ LenCOS l := by
  rcases Go.Deep.open_slice Tryz.underlying24 hf with ⟨hcs, _⟩ | ⟨a, len, cap, m, n, D, Pl, hcs, _, hl, hm, hmm, _, hx⟩
  · injection hcs with hcs
    subst hcs
    exact ⟨none, 0, [], rfl, ⟨by simp, none, 0, rfl, by simp, by simp [maxLen], fun h => by simp at h⟩, by simp [LenCOS]⟩
  · injection hcs with hcs
    subst hcs
    have hlm : len ≤ m := by rw [hmm]; split <;> omega
    rw [cells_e_CO] at hx
    obtain ⟨f, hF⟩ := Go.Deep.choose_lt (α := CO) (p := fun i o => (∀ j, j < 2 → W.cell? ((a.add (i * 2)).add j) = (cCO o)[j]?) ∧ LenCO o) (n := len) (fun i hi => by
      obtain ⟨cs', h1, h2⟩ := hx i (by omega)
      obtain ⟨o, rfl, ho⟩ := elem_CO h2
      obtain ⟨_, _, hcell⟩ := World.cells?_some h1
      exact ⟨o, hcell, ho⟩)
    have hr : RCOS W (.slice (some a) len cap) ((List.range len).map f) := rd_open cCO_len (by omega) hl hm f (fun i hi => (hF i hi).1)
    refine ⟨some a, cap, (List.range len).map f, by simp, by simpa using hr, by simp; omega, fun o ho => ?_⟩
    obtain ⟨i, hi, rfl⟩ := List.mem_map.1 ho
    exact (hF i (by simpa using hi)).2
theorem elem_StrS {H : Type} {enc : TypeId × Value → H} {W : World} {sp : Nat → Bool} {fuel : Nat} {v : Value} {x : DataW H × List MemPlace} (hf : DataW.trod enc Tryz.prog W 0 sp true fuel 27 [v] = some x) :
    ∃ (A : Option Addr) (c : Nat) (l : List ByteArray), v = .slice A l.length c ∧ RStr W (.slice A l.length c) l ∧ LenStr l := by
  rcases Go.Deep.open_slice1 Tryz.underlying27 (by kernel_rfl) hf with ⟨hcs, _⟩ | ⟨a, len, cap, m, n, V, D, Pl, hcs, _, hl, hm, hmm, _, hx⟩
  · injection hcs with hcs
    subst hcs
    exact ⟨none, 0, [], rfl, ⟨by simp, none, 0, rfl, by simp, by simp [maxLen], fun h => by simp at h⟩, by simp [LenStr]⟩
  · injection hcs with hcs
    subst hcs
    have hlm : len ≤ m := by rw [hmm]; split <;> omega
    obtain ⟨f, hF⟩ := Go.Deep.choose_lt (α := ByteArray) (p := fun i o => W.cell? (a.add i) = some (.string o) ∧ o.size ≤ maxLen) (n := len) (fun i hi => by
      obtain ⟨h1, h2⟩ := hx i (by omega)
      obtain ⟨s, e, _, hs⟩ := DataW.trod_string Tryz.underlying9 h2
      injection e with e
      exact ⟨s, by rw [h1, e], hs⟩)
    have hr : RStr W (.slice (some a) len cap) ((List.range len).map f) := by
      have h0 := rd_open (c := fun s : ByteArray => [Value.string s]) (s := 1) (fun _ => rfl) (by omega) hl hm f (w := W) (a := a) (fun i hi j hj => by
        obtain rfl : j = 0 := by omega
        rw [Nat.mul_one, Addr.add_zero', (hF i hi).1]; rfl)
      unfold RStr
      have h1 : ((List.range len).map f).flatMap (fun s : ByteArray => [Value.string s]) = ((List.range len).map f).map Value.string := by
        induction ((List.range len).map f) with
        | nil => rfl
        | cons y ys ih => simp only [List.flatMap_cons, List.map_cons, ih]; rfl
      rw [← h1]; exact h0
    refine ⟨some a, cap, (List.range len).map f, by simp, by simpa using hr, by simp; omega, fun o ho => ?_⟩
    obtain ⟨i, hi, rfl⟩ := List.mem_map.1 ho
    exact (hF i (by simpa using hi)).2
theorem cells_DK : Tryz.prog.cellsOf 29 = 8 ∧ Tryz.prog.cellsOf 23 = 4 ∧ Tryz.prog.cellsOf 26 = 2 ∧ Tryz.prog.cellsOf 24 = 1 ∧ Tryz.prog.cellsOf 27 = 1 ∧ Tryz.prog.cellsOf 9 = 1 ∧ Tryz.prog.cellsOf 2 = 1 := by
  refine ⟨by kernel_rfl, by kernel_rfl, by kernel_rfl, by kernel_rfl, by kernel_rfl, by kernel_rfl, by kernel_rfl⟩
theorem open_DK {H : Type} {enc : TypeId × Value → H} {W : World} {sp : Nat → Bool} {r : Reach} {b0 : Nat} {v : Value} {d : DataW H} {p : List MemPlace}
    (hv : Value.okWide Tryz.prog W r b0 29 v) (h : DataW.Trod enc Tryz.prog W 0 sp true 29 v d p) :
    ∃ q : DK, RDK W v q ∧ LenDK q := by
  obtain ⟨cs, rfl, hsz⟩ := okWide_struct Tryz.underlying29 hv
  obtain ⟨cD, cF, cB, cC, cW, cS, cI⟩ := cells_DK
  obtain ⟨fuel, hf⟩ := h
  rw [cD] at hsz
  obtain ⟨ls⟩ := cs
  match ls, hsz with
  | [c0, c1, c2, c3, c4, c5, c6, c7], _ =>
  obtain ⟨y0, y1, y2, y3, n, hx, _, h0, h1, h2, h3⟩ := trod_struct4 Tryz.underlying29 hf
  obtain ⟨z0, z1, z2, z3, n', hx', _, f0, f1, f2, f3⟩ := trod_struct4 Tryz.underlying23 h0
  obtain ⟨u0, u1, n'', hx'', _, g0, g1⟩ := trod_struct2 Tryz.underlying26 h1
  simp only [cF, cB, cC, cW, cS, cI, Value.cells] at f0 f1 f2 f3 g0 g1 h2 h3
  obtain ⟨i0, e0, _, _⟩ := DataW.trod_int Tryz.underlying2 f0
  obtain ⟨i1, e1, _, _⟩ := DataW.trod_int Tryz.underlying2 f1
  obtain ⟨i2, e2, _, _⟩ := DataW.trod_int Tryz.underlying2 f2
  obtain ⟨i3, e3, _, _⟩ := DataW.trod_int Tryz.underlying2 f3
  obtain ⟨s4, e4, _, hs4⟩ := DataW.trod_string Tryz.underlying9 g0
  obtain ⟨A, ca, l, e5, hl, hll⟩ := elem_COS g1
  obtain ⟨B, cb, m, e6, hm, hml⟩ := elem_StrS h2
  obtain ⟨s7, e7, _, hs7⟩ := DataW.trod_string Tryz.underlying9 h3
  have q0 : c0 = .int .i64 i0 := by simpa using e0
  have q1 : c1 = .int .i64 i1 := by simpa using e1
  have q2 : c2 = .int .i64 i2 := by simpa using e2
  have q3 : c3 = .int .i64 i3 := by simpa using e3
  have q4 : c4 = .string s4 := by simpa using e4
  have q7 : c7 = .string s7 := by simpa using e7
  subst q0 q1 q2 q3 q4 q7 e5 e6
  exact ⟨⟨⟨i0, i1, i2, i3⟩, s4, l, m, s7⟩, ⟨A, ca, B, cb, rfl, hl, hm⟩, hs4, hll, hml, hs7⟩
end Go.Proofs.YtoefoljhgnfoiaaGreatDoor
