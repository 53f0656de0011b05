/-
  Lifts: the wall with a text (ReadRise), of the reference.
-/
import Derived.Test.YtibbdlgganmklaaDoorRdRP
import Derived.Test.YtibbdlgganmklaaDoorRdN
import Derived.Test.YtibbdlgganmklaaDoorDoor
import Derived.Deep.RegionHeld3
import Derived.IntWalk
namespace Go.Proofs.YtibbdlgganmklaaDoor
open Go.ChangeShapes Go.WideShapes Go.ChangeAt Go.RowKit Go.Sort
set_option linter.unusedVariables false
set_option maxRecDepth 100000
attribute [local go_sem ↓] Go.wp_at_zero Go.wp_at_succ

/-- A wall and whether there is one. -/
def RetOR (r : RS) (b : Bool) (w : World) : Ending → World → Prop := fun e w' => ∃ v, e = .returned (.tuple #[v, .bool b]) ∧ OSR w' w.heap.size v r ∧ SmSR r ∧ Below w.heap.size w w'
theorem RetOR.no {s : ByteArray} {w w' : World} (h : rdR s = none) (hb : Below w.heap.size w w') : RetOR (rdRv s) (rdRb s) w (.returned (.tuple #[.agg #[.slice none 0 0, .int .i64 0, .int .i64 0, .int .i64 0], .bool false])) w' := by
  rw [(rdR_no h).1, (rdR_no h).2]
  exact ⟨_, rfl, ⟨none, 0, rfl, World.ownsRow_nil _ _ _ _⟩, (show (0 : Nat) ≤ 1048576 by omega), hb⟩
theorem RetOR.yes {s : ByteArray} {r : RS} {w w' : World} {A : Option Addr} {c : Nat} (h : rdR s = some r) (hO : OI w' w.heap.size (.slice A r.cs.length c) r.cs) (hs : r.cs.length ≤ 1048576) (hb : Below w.heap.size w w') : RetOR (rdRv s) (rdRb s) w (.returned (.tuple #[.agg #[.slice A r.cs.length c, .int .i64 r.reach, .int .i64 r.setup, .int .i64 r.easy], .bool true])) w' := by
  rw [(rdR_is h).1, (rdR_is h).2]
  exact ⟨_, rfl, ⟨A, c, rfl, hO⟩, hs, hb⟩
/-- The result's box, still empty. -/
def Z4 (w : World) (g : Nat) : Prop := w.cell? ⟨g, 0, none⟩ = some (.slice none 0 0) ∧ w.cell? ⟨g, 1, none⟩ = some (.int .i64 0) ∧ w.cell? ⟨g, 2, none⟩ = some (.int .i64 0) ∧ w.cell? ⟨g, 3, none⟩ = some (.int .i64 0) ∧ ∀ j, w.frozen? ⟨g, j, none⟩ = false
theorem Z4.ext {w w' : World} {g : Nat} (h : Z4 w g) (hb : Below w.heap.size w w') : Z4 w' g :=
  ⟨cell_keep h.1 hb, cell_keep h.2.1 hb, cell_keep h.2.2.1 hb, cell_keep h.2.2.2.1 hb, fun j => by rw [hb.frozen (p := ⟨g, j, none⟩) (show g < w.heap.size from block_lt_of_cell h.1)]; exact h.2.2.2.2 j⟩
theorem Z4.chg {S : Nat → Prop} {w w' : World} {g : Nat} (h : Z4 w g) (hb : Chg S w w') (hS : ¬ S g) : Z4 w' g :=
  ⟨hb.cell h.1 hS, hb.cell h.2.1 hS, hb.cell h.2.2.1 hS, hb.cell h.2.2.2.1 hS, fun j => by rw [World.frozen?_of_block (hb.block g (block_lt_of_cell h.1) hS)]; exact h.2.2.2.2 j⟩
theorem Z4.new (w : World) (T : TypeId) : Z4 (w.alloc (.cells #[.slice none 0 0, .int .i64 0, .int .i64 0, .int .i64 0] T)) w.heap.size :=
  ⟨by simp [go_sem], by simp [go_sem], by simp [go_sem], by simp [go_sem], fun j => by unfold World.frozen?; simp only [heap_alloc_new]; simp⟩
theorem box4_set {w : World} {g : Nat} {a b c d x y z u : Value} (h0 : w.cell? ⟨g, 0, none⟩ = some a) (h1 : w.cell? ⟨g, 1, none⟩ = some b) (h2 : w.cell? ⟨g, 2, none⟩ = some c) (h3 : w.cell? ⟨g, 3, none⟩ = some d) :
    ((((w.setCell ⟨g, 0, none⟩ x).setCell ⟨g, 1, none⟩ y).setCell ⟨g, 2, none⟩ z).setCell ⟨g, 3, none⟩ u).cell? ⟨g, 0, none⟩ = some x ∧
    ((((w.setCell ⟨g, 0, none⟩ x).setCell ⟨g, 1, none⟩ y).setCell ⟨g, 2, none⟩ z).setCell ⟨g, 3, none⟩ u).cell? ⟨g, 1, none⟩ = some y ∧
    ((((w.setCell ⟨g, 0, none⟩ x).setCell ⟨g, 1, none⟩ y).setCell ⟨g, 2, none⟩ z).setCell ⟨g, 3, none⟩ u).cell? ⟨g, 2, none⟩ = some z ∧
    ((((w.setCell ⟨g, 0, none⟩ x).setCell ⟨g, 1, none⟩ y).setCell ⟨g, 2, none⟩ z).setCell ⟨g, 3, none⟩ u).cell? ⟨g, 3, none⟩ = some u := by
  have k : ∀ (w : World) (i j : Nat) (x : Value), i ≠ j → (w.setCell ⟨g, i, none⟩ x).cell? ⟨g, j, none⟩ = w.cell? ⟨g, j, none⟩ := fun w i j x hij => World.cell?_setCell_other _ _ _ _ (by simp only [ne_eq, Addr.mk.injEq, not_and]; intros; omega)
  refine ⟨?_, ?_, ?_, ?_⟩
  · rw [k _ 3 0 _ (by omega), k _ 2 0 _ (by omega), k _ 1 0 _ (by omega)]; exact World.cell?_setCell_same _ _ _ h0
  · rw [k _ 3 1 _ (by omega), k _ 2 1 _ (by omega)]; exact World.cell?_setCell_same _ _ _ (u := b) (by rw [k _ 0 1 _ (by omega)]; exact h1)
  · rw [k _ 3 2 _ (by omega)]; exact World.cell?_setCell_same _ _ _ (u := c) (by rw [k _ 1 2 _ (by omega), k _ 0 2 _ (by omega)]; exact h2)
  · exact World.cell?_setCell_same _ _ _ (u := d) (by rw [k _ 2 3 _ (by omega), k _ 1 3 _ (by omega), k _ 0 3 _ (by omega)]; exact h3)
theorem box4_chg (w : World) (g : Nat) (x y z u : Value) : Chg (fun k => k = g) w ((((w.setCell ⟨g, 0, none⟩ x).setCell ⟨g, 1, none⟩ y).setCell ⟨g, 2, none⟩ z).setCell ⟨g, 3, none⟩ u) :=
  (((Chg.setCell (S := fun k => k = g) w (p := ⟨g, 0, none⟩) rfl x).trans (Chg.setCell (S := fun k => k = g) _ (p := ⟨g, 1, none⟩) rfl y)).trans (Chg.setCell (S := fun k => k = g) _ (p := ⟨g, 2, none⟩) rfl z)).trans (Chg.setCell (S := fun k => k = g) _ (p := ⟨g, 3, none⟩) rfl u)
/-- A wall in block g, whose courses are the call's own from block B on. -/
structure RBx (w : World) (B g : Nat) (xs : List Int) (a b c : Int) (A : Option Addr) (n cp : Nat) : Prop where
  h0 : w.cell? ⟨g, 0, none⟩ = some (.slice A n cp)
  h1 : w.cell? ⟨g, 1, none⟩ = some (.int .i64 a)
  h2 : w.cell? ⟨g, 2, none⟩ = some (.int .i64 b)
  h3 : w.cell? ⟨g, 3, none⟩ = some (.int .i64 c)
  fz : ∀ j, w.frozen? ⟨g, j, none⟩ = false
  own : OI w B (.slice A n cp) xs
  len : xs.length = n
  hg : g < B
theorem RBx.ext {w w' : World} {B g : Nat} {xs : List Int} {a b c : Int} {A : Option Addr} {n cp : Nat} (h : RBx w B g xs a b c A n cp) (hb : Below w.heap.size w w') : RBx w' B g xs a b c A n cp :=
  ⟨cell_keep h.h0 hb, cell_keep h.h1 hb, cell_keep h.h2 hb, cell_keep h.h3 hb, fun j => by rw [hb.frozen (p := ⟨g, j, none⟩) (show g < w.heap.size from block_lt_of_cell h.h0)]; exact h.fz j, h.own.ext hb, h.len, h.hg⟩
theorem RBx.far {w : World} {B g : Nat} {xs : List Int} {a b c : Int} {A : Option Addr} {n cp : Nat} (h : RBx w B g xs a b c A n cp) {k : Nat} (hk : k < B) : ¬ BI (.slice A n cp) k := fun e => by
  have := (h.own.ge k e).1; omega
theorem RBx.mid {w w8 : World} {B g : Nat} {xs : List Int} {a b c : Int} {A : Option Addr} {n cp : Nat} (h : RBx w B g xs a b c A n cp) (hc : Chg (BI (.slice A n cp)) w w8) :
    w8.cell? ⟨g, 0, none⟩ = some (.slice A n cp) ∧ ∀ j, w8.frozen? ⟨g, j, none⟩ = false :=
  ⟨hc.cell h.h0 (h.far h.hg), fun j => by rw [World.frozen?_of_block (hc.block g (block_lt_of_cell h.h0) (h.far h.hg))]; exact h.fz j⟩
/-- One course more. -/
theorem RBx.step {w w8 : World} {B g : Nat} {xs : List Int} {a b c : Int} {A : Option Addr} {n cp : Nat} (h : RBx w B g xs a b c A n cp) (hc : Chg (BI (.slice A n cp)) w w8) {gg cap : Nat} {x : Int}
    (hO : OI w8 B (.slice (some ⟨gg, 0, none⟩) (n + 1) cap) (xs ++ [x])) :
    RBx (w8.setCell ⟨g, 0, none⟩ (.slice (some ⟨gg, 0, none⟩) (n + 1) cap)) B g (xs ++ [x]) a b c (some ⟨gg, 0, none⟩) (n + 1) cap ∧ Chg (fun k => k = g ∨ B ≤ k) w (w8.setCell ⟨g, 0, none⟩ (.slice (some ⟨gg, 0, none⟩) (n + 1) cap)) := by
  have hCh : Chg (fun k => k = g) w8 (w8.setCell ⟨g, 0, none⟩ (.slice (some ⟨gg, 0, none⟩) (n + 1) cap)) := Chg.setCell (S := fun k => k = g) w8 (p := ⟨g, 0, none⟩) rfl _
  have hm := h.mid hc
  have cl : ∀ j v, j ≠ 0 → w.cell? ⟨g, j, none⟩ = some v → (w8.setCell ⟨g, 0, none⟩ (.slice (some ⟨gg, 0, none⟩) (n + 1) cap)).cell? ⟨g, j, none⟩ = some v := fun j v hj hv => by
    rw [World.cell?_setCell_other _ _ _ _ (by simp only [ne_eq, Addr.mk.injEq, not_and]; intros; omega)]
    exact hc.cell hv (h.far h.hg)
  refine ⟨⟨World.cell?_setCell_same _ _ _ hm.1, cl 1 _ (by omega) h.h1, cl 2 _ (by omega) h.h2, cl 3 _ (by omega) h.h3, fun j => by simpa using hm.2 j, hO.chg hCh (fun k hk e => ?_), by simp [h.len], h.hg⟩, ?_⟩
  · have := (hO.ge k hk).1
    have := h.hg
    omega
  · exact (hc.mono fun k hk => Or.inr (h.own.ge k hk).1).trans (hCh.mono fun k hk => Or.inl hk)
theorem RBx.new (w : World) (a b c : Int) (T : TypeId) : RBx (w.alloc (.cells #[.slice none 0 0, .int .i64 a, .int .i64 b, .int .i64 c] T)) (w.heap.size + 1) w.heap.size [] a b c none 0 0 :=
  ⟨by simp [go_sem], by simp [go_sem], by simp [go_sem], by simp [go_sem], fun j => by unfold World.frozen?; simp only [heap_alloc_new]; simp, World.ownsRow_nil _ _ _ _, rfl, by omega⟩
theorem RBx.pr {w : World} {B g : Nat} {xs : List Int} {a b c : Int} {A : Option Addr} {n cp : Nat} (h : RBx w B g xs a b c A n cp) : PR w g ⟨xs, a, b, c⟩ := by
  have hl := h.len
  subst hl
  exact ⟨⟨A, cp, h.h0, h.own.rd⟩, h.h1, h.h2, h.h3⟩
theorem lit_ne {x : ByteArray} {l : List UInt8} (h : x ≠ ⟨l.toArray⟩) : ¬ x.toList = l ∧ (x.toList == l) = false := by
  have h2 : ¬ x.toList = l := fun e => h (WideShapes.bytes_inj (by rw [← ByteArray.toList_eq, e]))
  exact ⟨h2, by rw [beq_eq_false_iff_ne]; exact h2⟩
theorem OStr.cells6 {w : World} {base : Nat} {A : Option Addr} {n c : Nat} {l : List ByteArray} (h : OStr w base (.slice A n c) l) (h5 : 6 ≤ l.length) :
    ∃ g1, A = some ⟨g1, 0, none⟩ ∧ w.cell? ⟨g1, 0, none⟩ = some (.string (gd l 0)) ∧ w.cell? ⟨g1, 1, none⟩ = some (.string (gd l 1)) ∧ w.cell? ⟨g1, 2, none⟩ = some (.string (gd l 2)) ∧ w.cell? ⟨g1, 3, none⟩ = some (.string (gd l 3)) ∧ w.cell? ⟨g1, 4, none⟩ = some (.string (gd l 4)) ∧ w.cell? ⟨g1, 5, none⟩ = some (.string (gd l 5)) := by
  obtain ⟨ad, hA, hlt, hc⟩ := h.rd.at (show 0 < l.length by omega)
  rcases h.2 with ⟨hv, h1⟩ | ⟨g, cap, cur, hv, hg, _⟩
  · omega
  · injection hv with q1 q2 q3
    subst q1
    injection hA with hA
    subst hA
    refine ⟨g, rfl, ?_, ?_, ?_, ?_, ?_, ?_⟩
    · simpa [Addr.add] using hc 0 (by omega)
    · simpa [Addr.add] using hc 1 (by omega)
    · simpa [Addr.add] using hc 2 (by omega)
    · simpa [Addr.add] using hc 3 (by omega)
    · simpa [Addr.add] using hc 4 (by omega)
    · simpa [Addr.add] using hc 5 (by omega)
theorem part_le {b : UInt8} {s x : ByteArray} (h : x ∈ spb b s) : x.size ≤ s.size := by
  unfold spb at h
  obtain ⟨u, hu, rfl⟩ := List.mem_map.1 h
  rw [bsq_size]
  have := splL_part hu
  rwa [size_toList] at this

end Go.Proofs.YtibbdlgganmklaaDoor
