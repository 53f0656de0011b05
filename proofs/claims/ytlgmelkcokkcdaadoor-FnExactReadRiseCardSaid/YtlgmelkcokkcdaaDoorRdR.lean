/-
  Lifts: the wall with a text (ReadRise), of the reference.
-/
import Derived.Test.YtlgmelkcokkcdaaDoorRdRP
import Derived.Test.YtlgmelkcokkcdaaDoorRdN
import Derived.Test.YtlgmelkcokkcdaaDoorDoor
import Derived.Deep.RegionHeld3
import Derived.IntWalk
namespace Go.Proofs.YtlgmelkcokkcdaaDoor
open Go.ChangeShapes Go.WideShapes Go.ChangeAt Go.RowKit Go.Sort
set_option linter.unusedVariables false
set_option maxRecDepth 100000
attribute [local go_sem ↓] Go.wp_at_zero Go.wp_at_succ

/-- A wall and whether there is one. -/
def RetOR (r : RS) (b : Bool) (w : World) : Ending → World → Prop := fun e w' => ∃ v, e = .returned (.tuple #[v, .bool b]) ∧ OSR w' w.heap.size v r ∧ SmSR r ∧ Below w.heap.size w w'
theorem RetOR.no {s : ByteArray} {w w' : World} (h : rdR s = none) (hb : Below w.heap.size w w') : RetOR (rdRv s) (rdRb s) w (.returned (.tuple #[.agg #[.slice none 0 0, .int .i64 0, .int .i64 0, .int .i64 0], .bool false])) w' := by
  rw [(rdR_no h).1, (rdR_no h).2]
  exact ⟨_, rfl, ⟨none, 0, rfl, World.ownsRow_nil _ _ _ _⟩, (show (0 : Nat) ≤ 1048576 by omega), hb⟩
theorem RetOR.yes {s : ByteArray} {r : RS} {w w' : World} {A : Option Addr} {c : Nat} (h : rdR s = some r) (hO : OI w' w.heap.size (.slice A r.cs.length c) r.cs) (hs : r.cs.length ≤ 1048576) (hb : Below w.heap.size w w') : RetOR (rdRv s) (rdRb s) w (.returned (.tuple #[.agg #[.slice A r.cs.length c, .int .i64 r.reach, .int .i64 r.setup, .int .i64 r.easy], .bool true])) w' := by
  rw [(rdR_is h).1, (rdR_is h).2]
  exact ⟨_, rfl, ⟨A, c, rfl, hO⟩, hs, hb⟩
/-- The result's box, still empty. -/
def Z4 (w : World) (g : Nat) : Prop := w.cell? ⟨g, 0, none⟩ = some (.slice none 0 0) ∧ w.cell? ⟨g, 1, none⟩ = some (.int .i64 0) ∧ w.cell? ⟨g, 2, none⟩ = some (.int .i64 0) ∧ w.cell? ⟨g, 3, none⟩ = some (.int .i64 0) ∧ ∀ j, w.frozen? ⟨g, j, none⟩ = false
theorem Z4.ext {w w' : World} {g : Nat} (h : Z4 w g) (hb : Below w.heap.size w w') : Z4 w' g :=
  ⟨cell_keep h.1 hb, cell_keep h.2.1 hb, cell_keep h.2.2.1 hb, cell_keep h.2.2.2.1 hb, fun j => by rw [hb.frozen (p := ⟨g, j, none⟩) (show g < w.heap.size from block_lt_of_cell h.1)]; exact h.2.2.2.2 j⟩
theorem Z4.chg {S : Nat → Prop} {w w' : World} {g : Nat} (h : Z4 w g) (hb : Chg S w w') (hS : ¬ S g) : Z4 w' g :=
  ⟨hb.cell h.1 hS, hb.cell h.2.1 hS, hb.cell h.2.2.1 hS, hb.cell h.2.2.2.1 hS, fun j => by rw [World.frozen?_of_block (hb.block g (block_lt_of_cell h.1) hS)]; exact h.2.2.2.2 j⟩
theorem Z4.new (w : World) (T : TypeId) : Z4 (w.alloc (.cells #[.slice none 0 0, .int .i64 0, .int .i64 0, .int .i64 0] T)) w.heap.size :=
  ⟨by simp [go_sem], by simp [go_sem], by simp [go_sem], by simp [go_sem], fun j => by unfold World.frozen?; simp only [heap_alloc_new]; simp⟩
theorem box4_set {w : World} {g : Nat} {a b c d x y z u : Value} (h0 : w.cell? ⟨g, 0, none⟩ = some a) (h1 : w.cell? ⟨g, 1, none⟩ = some b) (h2 : w.cell? ⟨g, 2, none⟩ = some c) (h3 : w.cell? ⟨g, 3, none⟩ = some d) :
    ((((w.setCell ⟨g, 0, none⟩ x).setCell ⟨g, 1, none⟩ y).setCell ⟨g, 2, none⟩ z).setCell ⟨g, 3, none⟩ u).cell? ⟨g, 0, none⟩ = some x ∧
    ((((w.setCell ⟨g, 0, none⟩ x).setCell ⟨g, 1, none⟩ y).setCell ⟨g, 2, none⟩ z).setCell ⟨g, 3, none⟩ u).cell? ⟨g, 1, none⟩ = some y ∧
    ((((w.setCell ⟨g, 0, none⟩ x).setCell ⟨g, 1, none⟩ y).setCell ⟨g, 2, none⟩ z).setCell ⟨g, 3, none⟩ u).cell? ⟨g, 2, none⟩ = some z ∧
    ((((w.setCell ⟨g, 0, none⟩ x).setCell ⟨g, 1, none⟩ y).setCell ⟨g, 2, none⟩ z).setCell ⟨g, 3, none⟩ u).cell? ⟨g, 3, none⟩ = some u := by
  have k : ∀ (w : World) (i j : Nat) (x : Value), i ≠ j → (w.setCell ⟨g, i, none⟩ x).cell? ⟨g, j, none⟩ = w.cell? ⟨g, j, none⟩ := fun w i j x hij => World.cell?_setCell_other _ _ _ _ (by simp only [ne_eq, Addr.mk.injEq, not_and]; intros; omega)
  refine ⟨?_, ?_, ?_, ?_⟩
  · rw [k _ 3 0 _ (by omega), k _ 2 0 _ (by omega), k _ 1 0 _ (by omega)]; exact World.cell?_setCell_same _ _ _ h0
  · rw [k _ 3 1 _ (by omega), k _ 2 1 _ (by omega)]; exact World.cell?_setCell_same _ _ _ (u := b) (by rw [k _ 0 1 _ (by omega)]; exact h1)
  · rw [k _ 3 2 _ (by omega)]; exact World.cell?_setCell_same _ _ _ (u := c) (by rw [k _ 1 2 _ (by omega), k _ 0 2 _ (by omega)]; exact h2)
  · exact World.cell?_setCell_same _ _ _ (u := d) (by rw [k _ 2 3 _ (by omega), k _ 1 3 _ (by omega), k _ 0 3 _ (by omega)]; exact h3)
theorem box4_chg (w : World) (g : Nat) (x y z u : Value) : Chg (fun k => k = g) w ((((w.setCell ⟨g, 0, none⟩ x).setCell ⟨g, 1, none⟩ y).setCell ⟨g, 2, none⟩ z).setCell ⟨g, 3, none⟩ u) :=
  (((Chg.setCell (S := fun k => k = g) w (p := ⟨g, 0, none⟩) rfl x).trans (Chg.setCell (S := fun k => k = g) _ (p := ⟨g, 1, none⟩) rfl y)).trans (Chg.setCell (S := fun k => k = g) _ (p := ⟨g, 2, none⟩) rfl z)).trans (Chg.setCell (S := fun k => k = g) _ (p := ⟨g, 3, none⟩) rfl u)
/-- A wall in block g, whose courses are the call's own from block B on. -/
structure RBx (w : World) (B g : Nat) (xs : List Int) (a b c : Int) (A : Option Addr) (n cp : Nat) : Prop where
  h0 : w.cell? ⟨g, 0, none⟩ = some (.slice A n cp)
  h1 : w.cell? ⟨g, 1, none⟩ = some (.int .i64 a)
  h2 : w.cell? ⟨g, 2, none⟩ = some (.int .i64 b)
  h3 : w.cell? ⟨g, 3, none⟩ = some (.int .i64 c)
  fz : ∀ j, w.frozen? ⟨g, j, none⟩ = false
  own : OI w B (.slice A n cp) xs
  len : xs.length = n
  hg : g < B
theorem RBx.ext {w w' : World} {B g : Nat} {xs : List Int} {a b c : Int} {A : Option Addr} {n cp : Nat} (h : RBx w B g xs a b c A n cp) (hb : Below w.heap.size w w') : RBx w' B g xs a b c A n cp :=
  ⟨cell_keep h.h0 hb, cell_keep h.h1 hb, cell_keep h.h2 hb, cell_keep h.h3 hb, fun j => by rw [hb.frozen (p := ⟨g, j, none⟩) (show g < w.heap.size from block_lt_of_cell h.h0)]; exact h.fz j, h.own.ext hb, h.len, h.hg⟩
theorem RBx.far {w : World} {B g : Nat} {xs : List Int} {a b c : Int} {A : Option Addr} {n cp : Nat} (h : RBx w B g xs a b c A n cp) {k : Nat} (hk : k < B) : ¬ BI (.slice A n cp) k := fun e => by
  have := (h.own.ge k e).1; omega
theorem RBx.mid {w w8 : World} {B g : Nat} {xs : List Int} {a b c : Int} {A : Option Addr} {n cp : Nat} (h : RBx w B g xs a b c A n cp) (hc : Chg (BI (.slice A n cp)) w w8) :
    w8.cell? ⟨g, 0, none⟩ = some (.slice A n cp) ∧ ∀ j, w8.frozen? ⟨g, j, none⟩ = false :=
  ⟨hc.cell h.h0 (h.far h.hg), fun j => by rw [World.frozen?_of_block (hc.block g (block_lt_of_cell h.h0) (h.far h.hg))]; exact h.fz j⟩
/-- One course more. -/
theorem RBx.step {w w8 : World} {B g : Nat} {xs : List Int} {a b c : Int} {A : Option Addr} {n cp : Nat} (h : RBx w B g xs a b c A n cp) (hc : Chg (BI (.slice A n cp)) w w8) {gg cap : Nat} {x : Int}
    (hO : OI w8 B (.slice (some ⟨gg, 0, none⟩) (n + 1) cap) (xs ++ [x])) :
    RBx (w8.setCell ⟨g, 0, none⟩ (.slice (some ⟨gg, 0, none⟩) (n + 1) cap)) B g (xs ++ [x]) a b c (some ⟨gg, 0, none⟩) (n + 1) cap ∧ Chg (fun k => k = g ∨ B ≤ k) w (w8.setCell ⟨g, 0, none⟩ (.slice (some ⟨gg, 0, none⟩) (n + 1) cap)) := by
  have hCh : Chg (fun k => k = g) w8 (w8.setCell ⟨g, 0, none⟩ (.slice (some ⟨gg, 0, none⟩) (n + 1) cap)) := Chg.setCell (S := fun k => k = g) w8 (p := ⟨g, 0, none⟩) rfl _
  have hm := h.mid hc
  have cl : ∀ j v, j ≠ 0 → w.cell? ⟨g, j, none⟩ = some v → (w8.setCell ⟨g, 0, none⟩ (.slice (some ⟨gg, 0, none⟩) (n + 1) cap)).cell? ⟨g, j, none⟩ = some v := fun j v hj hv => by
    rw [World.cell?_setCell_other _ _ _ _ (by simp only [ne_eq, Addr.mk.injEq, not_and]; intros; omega)]
    exact hc.cell hv (h.far h.hg)
  refine ⟨⟨World.cell?_setCell_same _ _ _ hm.1, cl 1 _ (by omega) h.h1, cl 2 _ (by omega) h.h2, cl 3 _ (by omega) h.h3, fun j => by simpa using hm.2 j, hO.chg hCh (fun k hk e => ?_), by simp [h.len], h.hg⟩, ?_⟩
  · have := (hO.ge k hk).1
    have := h.hg
    omega
  · exact (hc.mono fun k hk => Or.inr (h.own.ge k hk).1).trans (hCh.mono fun k hk => Or.inl hk)
theorem RBx.new (w : World) (a b c : Int) (T : TypeId) : RBx (w.alloc (.cells #[.slice none 0 0, .int .i64 a, .int .i64 b, .int .i64 c] T)) (w.heap.size + 1) w.heap.size [] a b c none 0 0 :=
  ⟨by simp [go_sem], by simp [go_sem], by simp [go_sem], by simp [go_sem], fun j => by unfold World.frozen?; simp only [heap_alloc_new]; simp, World.ownsRow_nil _ _ _ _, rfl, by omega⟩
theorem RBx.pr {w : World} {B g : Nat} {xs : List Int} {a b c : Int} {A : Option Addr} {n cp : Nat} (h : RBx w B g xs a b c A n cp) : PR w g ⟨xs, a, b, c⟩ := by
  have hl := h.len
  subst hl
  exact ⟨⟨A, cp, h.h0, h.own.rd⟩, h.h1, h.h2, h.h3⟩
theorem lit_ne {x : ByteArray} {l : List UInt8} (h : x ≠ ⟨l.toArray⟩) : ¬ x.toList = l ∧ (x.toList == l) = false := by
  have h2 : ¬ x.toList = l := fun e => h (WideShapes.bytes_inj (by rw [← ByteArray.toList_eq, e]))
  exact ⟨h2, by rw [beq_eq_false_iff_ne]; exact h2⟩
theorem OStr.cells6 {w : World} {base : Nat} {A : Option Addr} {n c : Nat} {l : List ByteArray} (h : OStr w base (.slice A n c) l) (h5 : 6 ≤ l.length) :
    ∃ g1, A = some ⟨g1, 0, none⟩ ∧ w.cell? ⟨g1, 0, none⟩ = some (.string (gd l 0)) ∧ w.cell? ⟨g1, 1, none⟩ = some (.string (gd l 1)) ∧ w.cell? ⟨g1, 2, none⟩ = some (.string (gd l 2)) ∧ w.cell? ⟨g1, 3, none⟩ = some (.string (gd l 3)) ∧ w.cell? ⟨g1, 4, none⟩ = some (.string (gd l 4)) ∧ w.cell? ⟨g1, 5, none⟩ = some (.string (gd l 5)) := by
  obtain ⟨ad, hA, hlt, hc⟩ := h.rd.at (show 0 < l.length by omega)
  rcases h.2 with ⟨hv, h1⟩ | ⟨g, cap, cur, hv, hg, _⟩
  · omega
  · injection hv with q1 q2 q3
    subst q1
    injection hA with hA
    subst hA
    refine ⟨g, rfl, ?_, ?_, ?_, ?_, ?_, ?_⟩
    · simpa [Addr.add] using hc 0 (by omega)
    · simpa [Addr.add] using hc 1 (by omega)
    · simpa [Addr.add] using hc 2 (by omega)
    · simpa [Addr.add] using hc 3 (by omega)
    · simpa [Addr.add] using hc 4 (by omega)
    · simpa [Addr.add] using hc 5 (by omega)
theorem part_le {b : UInt8} {s x : ByteArray} (h : x ∈ spb b s) : x.size ≤ s.size := by
  unfold spb at h
  obtain ⟨u, hu, rfl⟩ := List.mem_map.1 h
  rw [bsq_size]
  have := splL_part hu
  rwa [size_toList] at this

set_option maxHeartbeats 6400000 in
theorem spec_ReadRise (s : ByteArray) (w : World) (hs : s.size ≤ 1048576) (_ : Env w) :
    Calls Tryd.prog 15 #[.string s] w (RetOR (rdRv s) (rdRb s) w) := by
  have HSP := Lib.hid (fun w => spec_Split s hs 32 32 rfl w)
  have HPT : Hid (∀ x ∈ spb 32 s, x.size ≤ 1048576) := Lib.hid fun x hx => Nat.le_trans (part_le hx) hs
  have hsl := spb_len 32 s
  go_enter Tryd.func15, Tryd.ntmps15
  go_wp2_with fail
  refine (show Calls _ _ _ _ _ from HSP.out _).mono ?_
  rintro e w1 ⟨A, cp, rfl, hO, hb1⟩
  have HZ : Hid (Z4 w1 w.heap.size) := Lib.hid ((Z4.new w _).ext hb1)
  have HW := Lib.hid (ext_trans (ext_alloc1 w _) hb1)
  have HA := Lib.hid hO
  clear hb1 hO HSP
  obtain ⟨l, hl⟩ : ∃ l, spb 32 s = l := ⟨_, rfl⟩
  have HL := Lib.hid hl
  have HRH : Hid (okH l = false → rdR s = none) := Lib.hid fun h => rdR_head (by rw [hl]; exact h)
  have HRN : Hid ((l.drop 6).all rdb = false → rdR s = none) := Lib.hid fun h => rdR_nums (by rw [hl]; exact h)
  have HRO : Hid (okN l = false → rdR s = none) := Lib.hid fun h => rdR_ok (by rw [hl]; exact h)
  have HRY : Hid (okH l = true → (l.drop 6).all rdb = true → okN l = true → rdR s = some (rW l)) := Lib.hid fun h1 h2 h3 => (rdR_yes (by rw [hl]; exact h1) (by rw [hl]; exact h2) (by rw [hl]; exact h3)).trans (by rw [hl])
  rw [hl] at HA HPT hsl ⊢
  clear hl
  obtain ⟨n, hn⟩ : ∃ n, l.length = n := ⟨_, rfl⟩
  rw [hn] at HA hsl ⊢
  have HN := Lib.hid hn
  clear hn
  by_cases h6 : n < 6
  · have e1 : decide ((n : Int) < 6) = true := decide_eq_true (by omega)
    have HF : Hid (rdR s = none) := Lib.hid (HRH.out (by unfold okH; rw [decide_eq_false (show ¬ 6 ≤ l.length by rw [HN.out]; omega)]; rfl))
    clear h6
    try simp only []
    go_wp2_with fail
    refine wp_region_quiet_below (by kernel_rfl) (by kernel_rfl) ?_
    repeat (go_big_quiet_step (fail))
    refine wpQuiet_nil ?_
    intro w' hw'
    obtain ⟨p, rfl⟩ := hw'
    replace HW := Lib.hid (ext_trans HW.out (below_regrown w1 p.d p.os))
    replace HZ := Lib.hid (HZ.out.ext (below_regrown w1 p.d p.os))
    replace HA := Lib.hid (HA.out.ext (below_regrown w1 p.d p.os))
    generalize grow (redrawn w1 p.d) p.os = w2 at *
    have hz0 := HZ.out.1
    have hz1 := HZ.out.2.1
    have hz2 := HZ.out.2.2.1
    have hz3 := HZ.out.2.2.2.1
    have hzf := HZ.out.2.2.2.2
    have hx := @box4_set w2 w.heap.size _ _ _ _ (.slice none 0 0) (.int .i64 0) (.int .i64 0) (.int .i64 0) hz0 hz1 hz2 hz3
    have hw0 := hx.1
    have hw1 := hx.2.1
    have hw2 := hx.2.2.1
    have hw3 := hx.2.2.2
    clear hx
    try simp only []
    go_wp2_with fail
    refine bodyPost_ret (v := .tuple #[.agg #[.slice none 0 0, .int .i64 0, .int .i64 0, .int .i64 0], .bool false]) (by simp [results, Tryd.results15, go_sem, hw0, hw1, hw2, hw3]) rfl (RetOR.no HF.out ?_)
    repeat (refine ext_set ?_ (by simp; try omega) _)
    exact HW.out
  have e1 : decide ((n : Int) < 6) = false := decide_eq_false (by omega)
  by_cases h46 : 46 < n
  · have e2 : decide ((n : Int) > 46) = true := decide_eq_true (by omega)
    have HF : Hid (rdR s = none) := Lib.hid (HRH.out (by unfold okH; rw [decide_eq_false (show ¬ l.length ≤ 46 by rw [HN.out]; omega)]; simp))
    try simp only []
    go_wp2_with fail
    refine wp_region_quiet_below (by kernel_rfl) (by kernel_rfl) ?_
    repeat (go_big_quiet_step (fail))
    refine wpQuiet_nil ?_
    intro w' hw'
    obtain ⟨p, rfl⟩ := hw'
    replace HW := Lib.hid (ext_trans HW.out (below_regrown w1 p.d p.os))
    replace HZ := Lib.hid (HZ.out.ext (below_regrown w1 p.d p.os))
    replace HA := Lib.hid (HA.out.ext (below_regrown w1 p.d p.os))
    generalize grow (redrawn w1 p.d) p.os = w2 at *
    have hz0 := HZ.out.1
    have hz1 := HZ.out.2.1
    have hz2 := HZ.out.2.2.1
    have hz3 := HZ.out.2.2.2.1
    have hzf := HZ.out.2.2.2.2
    have hx := @box4_set w2 w.heap.size _ _ _ _ (.slice none 0 0) (.int .i64 0) (.int .i64 0) (.int .i64 0) hz0 hz1 hz2 hz3
    have hw0 := hx.1
    have hw1 := hx.2.1
    have hw2 := hx.2.2.1
    have hw3 := hx.2.2.2
    clear hx
    try simp only []
    go_wp2_with fail
    refine bodyPost_ret (v := .tuple #[.agg #[.slice none 0 0, .int .i64 0, .int .i64 0, .int .i64 0], .bool false]) (by simp [results, Tryd.results15, go_sem, hw0, hw1, hw2, hw3]) rfl (RetOR.no HF.out ?_)
    repeat (refine ext_set ?_ (by simp; try omega) _)
    exact HW.out
  have e2 : decide ((n : Int) > 46) = false := decide_eq_false (by omega)
  have H6 : Hid (6 ≤ n) := Lib.hid (by omega)
  have hn6 : 6 ≤ l.length := by rw [HN.out]; exact H6.out
  obtain ⟨g1, rfl, k0, k1, k2, k3, k4, k5⟩ := HA.out.cells6 hn6
  have f0 : (0 : Int) < n := by omega
  have f2 : (2 : Int) < n := by omega
  have f4 : (4 : Int) < n := by omega
  have f5 : (5 : Int) < n := by omega
  have x0 := fun d os => cell_regrown k0 d os
  have x2 := fun d os => cell_regrown k2 d os
  have x4 := fun d os => cell_regrown k4 d os
  have x5 := fun d os => cell_regrown k5 d os
  clear k0 k1 k2 k3 k4 k5 h6
  rcases (Classical.em (gd l 0 = b_reach)).symm with c0 | c0
  · have HF : Hid (rdR s = none) := Lib.hid (HRH.out (by unfold okH; rw [decide_eq_false c0]; simp))
    obtain ⟨st1, st2⟩ := lit_ne (l := [114, 101, 97, 99, 104]) c0
    clear c0
    try simp only []
    go_wp2_with fail
    refine wp_region_quiet_below (by kernel_rfl) (by kernel_rfl) ?_
    repeat (go_big_quiet_step (fail))
    refine wpQuiet_nil ?_
    intro w' hw'
    obtain ⟨p, rfl⟩ := hw'
    replace HW := Lib.hid (ext_trans HW.out (below_regrown w1 p.d p.os))
    replace HZ := Lib.hid (HZ.out.ext (below_regrown w1 p.d p.os))
    replace HA := Lib.hid (HA.out.ext (below_regrown w1 p.d p.os))
    generalize grow (redrawn w1 p.d) p.os = w2 at *
    have hz0 := HZ.out.1
    have hz1 := HZ.out.2.1
    have hz2 := HZ.out.2.2.1
    have hz3 := HZ.out.2.2.2.1
    have hzf := HZ.out.2.2.2.2
    have hx := @box4_set w2 w.heap.size _ _ _ _ (.slice none 0 0) (.int .i64 0) (.int .i64 0) (.int .i64 0) hz0 hz1 hz2 hz3
    have hw0 := hx.1
    have hw1 := hx.2.1
    have hw2 := hx.2.2.1
    have hw3 := hx.2.2.2
    clear hx
    try simp only []
    go_wp2_with fail
    refine bodyPost_ret (v := .tuple #[.agg #[.slice none 0 0, .int .i64 0, .int .i64 0, .int .i64 0], .bool false]) (by simp [results, Tryd.results15, go_sem, hw0, hw1, hw2, hw3]) rfl (RetOR.no HF.out ?_)
    repeat (refine ext_set ?_ (by simp; try omega) _)
    exact HW.out
  rw [c0] at x0
  unfold b_reach at x0
  have C0 := Lib.hid c0
  clear c0
  rcases (Classical.em (gd l 2 = b_setup)).symm with c2 | c2
  · have HF : Hid (rdR s = none) := Lib.hid (HRH.out (by unfold okH; rw [decide_eq_false c2]; simp))
    obtain ⟨st1, st2⟩ := lit_ne (l := [115, 101, 116, 117, 112]) c2
    clear c2
    try simp only []
    go_wp2_with fail
    refine wp_region_quiet_below (by kernel_rfl) (by kernel_rfl) ?_
    repeat (go_big_quiet_step (fail))
    refine wpQuiet_nil ?_
    intro w' hw'
    obtain ⟨p, rfl⟩ := hw'
    replace HW := Lib.hid (ext_trans HW.out (below_regrown w1 p.d p.os))
    replace HZ := Lib.hid (HZ.out.ext (below_regrown w1 p.d p.os))
    replace HA := Lib.hid (HA.out.ext (below_regrown w1 p.d p.os))
    generalize grow (redrawn w1 p.d) p.os = w2 at *
    have hz0 := HZ.out.1
    have hz1 := HZ.out.2.1
    have hz2 := HZ.out.2.2.1
    have hz3 := HZ.out.2.2.2.1
    have hzf := HZ.out.2.2.2.2
    have hx := @box4_set w2 w.heap.size _ _ _ _ (.slice none 0 0) (.int .i64 0) (.int .i64 0) (.int .i64 0) hz0 hz1 hz2 hz3
    have hw0 := hx.1
    have hw1 := hx.2.1
    have hw2 := hx.2.2.1
    have hw3 := hx.2.2.2
    clear hx
    try simp only []
    go_wp2_with fail
    refine bodyPost_ret (v := .tuple #[.agg #[.slice none 0 0, .int .i64 0, .int .i64 0, .int .i64 0], .bool false]) (by simp [results, Tryd.results15, go_sem, hw0, hw1, hw2, hw3]) rfl (RetOR.no HF.out ?_)
    repeat (refine ext_set ?_ (by simp; try omega) _)
    exact HW.out
  rw [c2] at x2
  unfold b_setup at x2
  have C2 := Lib.hid c2
  clear c2
  rcases (Classical.em (gd l 4 = b_easy)).symm with c4 | c4
  · have HF : Hid (rdR s = none) := Lib.hid (HRH.out (by unfold okH; rw [decide_eq_false c4]; simp))
    obtain ⟨st1, st2⟩ := lit_ne (l := [101, 97, 115, 121]) c4
    clear c4
    try simp only []
    go_wp2_with fail
    refine wp_region_quiet_below (by kernel_rfl) (by kernel_rfl) ?_
    repeat (go_big_quiet_step (fail))
    refine wpQuiet_nil ?_
    intro w' hw'
    obtain ⟨p, rfl⟩ := hw'
    replace HW := Lib.hid (ext_trans HW.out (below_regrown w1 p.d p.os))
    replace HZ := Lib.hid (HZ.out.ext (below_regrown w1 p.d p.os))
    replace HA := Lib.hid (HA.out.ext (below_regrown w1 p.d p.os))
    generalize grow (redrawn w1 p.d) p.os = w2 at *
    have hz0 := HZ.out.1
    have hz1 := HZ.out.2.1
    have hz2 := HZ.out.2.2.1
    have hz3 := HZ.out.2.2.2.1
    have hzf := HZ.out.2.2.2.2
    have hx := @box4_set w2 w.heap.size _ _ _ _ (.slice none 0 0) (.int .i64 0) (.int .i64 0) (.int .i64 0) hz0 hz1 hz2 hz3
    have hw0 := hx.1
    have hw1 := hx.2.1
    have hw2 := hx.2.2.1
    have hw3 := hx.2.2.2
    clear hx
    try simp only []
    go_wp2_with fail
    refine bodyPost_ret (v := .tuple #[.agg #[.slice none 0 0, .int .i64 0, .int .i64 0, .int .i64 0], .bool false]) (by simp [results, Tryd.results15, go_sem, hw0, hw1, hw2, hw3]) rfl (RetOR.no HF.out ?_)
    repeat (refine ext_set ?_ (by simp; try omega) _)
    exact HW.out
  rw [c4] at x4
  unfold b_easy at x4
  have C4 := Lib.hid c4
  clear c4
  by_cases z5 : (gd l 5).size = 0
  · have HF : Hid (rdR s = none) := Lib.hid (HRH.out (by unfold okH; rw [decide_eq_false (show ¬ 1 ≤ (gd l 5).size by omega)]; simp))
    have e5 : gd l 5 = ⟨#[]⟩ := by
      cases hx : gd l 5 with
      | mk d => rw [hx] at z5; exact congrArg _ (Array.eq_empty_of_size_eq_zero z5)
    rw [e5] at x5
    clear e5 z5
    try simp only []
    go_wp2_with fail
    refine wp_region_quiet_below (by kernel_rfl) (by kernel_rfl) ?_
    repeat (go_big_quiet_step (fail))
    refine wpQuiet_nil ?_
    intro w' hw'
    obtain ⟨p, rfl⟩ := hw'
    replace HW := Lib.hid (ext_trans HW.out (below_regrown w1 p.d p.os))
    replace HZ := Lib.hid (HZ.out.ext (below_regrown w1 p.d p.os))
    replace HA := Lib.hid (HA.out.ext (below_regrown w1 p.d p.os))
    generalize grow (redrawn w1 p.d) p.os = w2 at *
    have hz0 := HZ.out.1
    have hz1 := HZ.out.2.1
    have hz2 := HZ.out.2.2.1
    have hz3 := HZ.out.2.2.2.1
    have hzf := HZ.out.2.2.2.2
    have hx := @box4_set w2 w.heap.size _ _ _ _ (.slice none 0 0) (.int .i64 0) (.int .i64 0) (.int .i64 0) hz0 hz1 hz2 hz3
    have hw0 := hx.1
    have hw1 := hx.2.1
    have hw2 := hx.2.2.1
    have hw3 := hx.2.2.2
    clear hx
    try simp only []
    go_wp2_with fail
    refine bodyPost_ret (v := .tuple #[.agg #[.slice none 0 0, .int .i64 0, .int .i64 0, .int .i64 0], .bool false]) (by simp [results, Tryd.results15, go_sem, hw0, hw1, hw2, hw3]) rfl (RetOR.no HF.out ?_)
    repeat (refine ext_set ?_ (by simp; try omega) _)
    exact HW.out
  obtain ⟨j, hj⟩ : ∃ j, (gd l 5).size = j + 1 := ⟨(gd l 5).size - 1, by omega⟩
  have HJ := Lib.hid hj
  have hne := (str_some (s := gd l 5) (by omega)).2
  have hne2 := (str_some (s := gd l 5) (by omega)).1
  have hltn : j < (gd l 5).size := by omega
  have hy := byt_eq (gd l 5) j hltn
  have hlt : (j : Int) < ((gd l 5).size : Int) := by omega
  have hj0 : (0 : Int) ≤ j := by omega
  have hsj : ((gd l 5).size : Int) - 1 = j := by omega
  have hwj : IntKind.i64.wrap (j : Int) = j := IntWalk.i64_in _ (by have := HPT.out _ (gd_mem (l := l) (k := 5) (by omega)); omega)
  have htj : (j : Int).toNat = j := by omega
  obtain ⟨y, hyy⟩ : ∃ y, byt (gd l 5) j = y := ⟨_, rfl⟩
  rw [hyy] at hy
  have HY := Lib.hid hyy
  clear hyy z5 hj
  rcases (Classical.em (y = 58)).symm with cy | cy
  · have HF : Hid (rdR s = none) := Lib.hid (HRH.out (by
      unfold okH
      rw [decide_eq_false (show ¬ byt (gd l 5) ((gd l 5).size - 1) = 58 by rw [HJ.out, Nat.add_sub_cancel, HY.out]; exact cy)]; simp))
    have e7 : (y != 58) = true := by simpa using cy
    try simp only []
    go_wp2_with fail
    refine wp_region_quiet_below (by kernel_rfl) (by kernel_rfl) ?_
    repeat (go_big_quiet_step (fail))
    refine wpQuiet_nil ?_
    intro w' hw'
    obtain ⟨p, rfl⟩ := hw'
    replace HW := Lib.hid (ext_trans HW.out (below_regrown w1 p.d p.os))
    replace HZ := Lib.hid (HZ.out.ext (below_regrown w1 p.d p.os))
    replace HA := Lib.hid (HA.out.ext (below_regrown w1 p.d p.os))
    generalize grow (redrawn w1 p.d) p.os = w2 at *
    have hz0 := HZ.out.1
    have hz1 := HZ.out.2.1
    have hz2 := HZ.out.2.2.1
    have hz3 := HZ.out.2.2.2.1
    have hzf := HZ.out.2.2.2.2
    have hx := @box4_set w2 w.heap.size _ _ _ _ (.slice none 0 0) (.int .i64 0) (.int .i64 0) (.int .i64 0) hz0 hz1 hz2 hz3
    have hw0 := hx.1
    have hw1 := hx.2.1
    have hw2 := hx.2.2.1
    have hw3 := hx.2.2.2
    clear hx
    try simp only []
    go_wp2_with fail
    refine bodyPost_ret (v := .tuple #[.agg #[.slice none 0 0, .int .i64 0, .int .i64 0, .int .i64 0], .bool false]) (by simp [results, Tryd.results15, go_sem, hw0, hw1, hw2, hw3]) rfl (RetOR.no HF.out ?_)
    repeat (refine ext_set ?_ (by simp; try omega) _)
    exact HW.out
  subst cy
  try simp only []
  go_wp2_with fail
  refine wp_region_quiet_below (by kernel_rfl) (by kernel_rfl) ?_
  repeat (go_big_quiet_step (fail))
  refine wpQuiet_nil ?_
  intro w' hw'
  obtain ⟨p, rfl⟩ := hw'
  replace HW := Lib.hid (ext_trans HW.out (below_regrown w1 p.d p.os))
  replace HZ := Lib.hid (HZ.out.ext (below_regrown w1 p.d p.os))
  replace HA := Lib.hid (HA.out.ext (below_regrown w1 p.d p.os))
  generalize grow (redrawn w1 p.d) p.os = w2 at *
  have HOKH : Hid (okH l = true) := Lib.hid (by
    unfold okH
    rw [decide_eq_true hn6, decide_eq_true (show l.length ≤ 46 by rw [HN.out]; omega), decide_eq_true C0.out, decide_eq_true C2.out, decide_eq_true C4.out, decide_eq_true (show 1 ≤ (gd l 5).size by rw [HJ.out]; omega), decide_eq_true (show byt (gd l 5) ((gd l 5).size - 1) = 58 by rw [HJ.out, Nat.add_sub_cancel]; exact HY.out)]
    rfl)
  have H46 : Hid (n ≤ 46) := Lib.hid (by omega)
  obtain ⟨_, hg, _, k1, _, k3, _, k5⟩ := HA.out.cells6 hn6
  cases hg
  have HN1 := Lib.hid (fun w => spec_Number (gd l 1) (by have := HPT.out _ (gd_mem (l := l) (k := 1) (by omega)); unfold maxLen; omega) w)
  have HN3 := Lib.hid (fun w => spec_Number (gd l 3) (by have := HPT.out _ (gd_mem (l := l) (k := 3) (by omega)); unfold maxLen; omega) w)
  have HN5 := Lib.hid (fun w => spec_Number ((gd l 5).extract 0 j) (by
    have := HPT.out _ (gd_mem (l := l) (k := 5) (by omega))
    rw [ext_bsq _ (Nat.zero_le _), bsq_size, List.length_take, List.length_drop, size_toList]; unfold maxLen; omega) w)
  have HNK : Hid (∀ q, q < n → ∀ w, Calls Tryd.prog 26 #[.string (gd l q)] w (Ret (.tuple #[.int .i64 (rdv (gd l q)), .bool (rdb (gd l q))]) w)) := Lib.hid fun q hq w => spec_Number (gd l q) (by have := HPT.out _ (gd_mem (l := l) (k := q) (by rw [HN.out]; exact hq)); unfold maxLen; omega) w
  have HOKN : Hid (okN l = (rdb (gd l 1) && rdb (gd l 3) && rdb ((gd l 5).extract 0 j) && vRise (rW l))) := Lib.hid (by unfold okN; rw [HJ.out, Nat.add_sub_cancel])
  have HRW : Hid (rW l = ⟨(l.drop 6).map rdv, rdv (gd l 1), rdv (gd l 3), rdv ((gd l 5).extract 0 j)⟩) := Lib.hid (by unfold rW; rw [HJ.out, Nat.add_sub_cancel])
  have f1 : (1 : Int) < n := by omega
  have f3 : (3 : Int) < n := by omega
  have hj1 : (j : Int) ≤ ((gd l 5).size : Int) := by omega
  clear x0 x2 x4 x5 hy hne hne2 HPT h46 e1 e2 hsl f0 f2 f4
  go_wp2_with fail
  refine (show Calls _ _ _ _ _ from HN1.out _).mono ?_
  rintro e w3 ⟨rfl, hb3⟩
  replace HW := Lib.hid (ext_trans HW.out hb3)
  replace HZ := Lib.hid (HZ.out.ext hb3)
  replace HA := Lib.hid (HA.out.ext hb3)
  replace k3 := cell_keep k3 hb3
  replace k5 := cell_keep k5 hb3
  clear hb3 HN1 k1
  go_wp2_with fail
  refine (show Calls _ _ _ _ _ from HN3.out _).mono ?_
  rintro e w4 ⟨rfl, hb3⟩
  replace HW := Lib.hid (ext_trans HW.out hb3)
  replace HZ := Lib.hid (HZ.out.ext hb3)
  replace HA := Lib.hid (HA.out.ext hb3)
  replace k5 := cell_keep k5 hb3
  clear hb3 HN3 k3
  have x5 := fun d os => cell_regrown k5 d os
  go_wp2_with fail
  refine wp_region_quiet_below (by kernel_rfl) (by kernel_rfl) ?_
  repeat (go_big_quiet_step ((go_at_call 26; exact regrown_r (HN5.out _))))
  refine wpQuiet_nil ?_
  intro w' hw'
  obtain ⟨p, rfl⟩ := hw'
  replace HW := Lib.hid (ext_trans HW.out (below_regrown w4 p.d p.os))
  replace HZ := Lib.hid (HZ.out.ext (below_regrown w4 p.d p.os))
  replace HA := Lib.hid (HA.out.ext (below_regrown w4 p.d p.os))
  generalize grow (redrawn w4 p.d) p.os = w5 at *
  clear x5 k5 HN5 hlt hj0 hsj hwj htj hltn hj1 f1 f3 f5
  obtain ⟨va, hva⟩ : ∃ v, rdv (gd l 1) = v := ⟨_, rfl⟩
  obtain ⟨vb, hvb⟩ : ∃ v, rdv (gd l 3) = v := ⟨_, rfl⟩
  obtain ⟨vc, hvc⟩ : ∃ v, rdv ((gd l 5).extract 0 j) = v := ⟨_, rfl⟩
  obtain ⟨b1, hb1⟩ : ∃ v, rdb (gd l 1) = v := ⟨_, rfl⟩
  obtain ⟨b3, hb3⟩ : ∃ v, rdb (gd l 3) = v := ⟨_, rfl⟩
  obtain ⟨b5, hb5⟩ : ∃ v, rdb ((gd l 5).extract 0 j) = v := ⟨_, rfl⟩
  rw [hva, hvb, hvc] at HRW ⊢
  rw [hb1, hb3, hb5] at HOKN ⊢
  clear hva hvb hvc hb1 hb3 hb5
  have HBX : Hid (RBx (w5.alloc (.cells #[.slice none 0 0, .int .i64 va, .int .i64 vb, .int .i64 vc] 33)) (w5.heap.size + 1) w5.heap.size [] va vb vc none 0 0) := Lib.hid (RBx.new _ _ _ _ _)
  have hgw : w.heap.size < w5.heap.size := block_lt_of_cell HZ.out.1
  have hg15 : g1 < w5.heap.size := (HA.out.ge g1 rfl).2
  have hb6 := ext_alloc1 w5 (.cells #[.slice none 0 0, .int .i64 va, .int .i64 vb, .int .i64 vc] 33)
  replace HW := Lib.hid (ext_trans HW.out hb6)
  replace HZ := Lib.hid (HZ.out.ext hb6)
  replace HA := Lib.hid (HA.out.ext hb6)
  clear hb6
  have HCL : Hid (∀ q, q < n → (w5.alloc (.cells #[.slice none 0 0, .int .i64 va, .int .i64 vb, .int .i64 vc] 33)).cell? ⟨g1, q, none⟩ = some (.string (gd l q))) := Lib.hid fun q hq => by
    have hql : q < l.length := by rw [HN.out]; exact hq
    obtain ⟨ad, hA, _, hc⟩ := HA.out.rd.at hql
    injection hA with hA
    subst hA
    have hc0 := hc q hql
    have ead : (⟨g1, 0, none⟩ : Addr).add q = ⟨g1, q, none⟩ := by unfold Addr.add; split <;> simp <;> omega
    rwa [ead] at hc0
  clear HA
  go_wp2_with fail
  generalize w5.heap.size = g5 at *
  generalize w5.alloc _ = w6 at *
  go_loopw [12] (fun i wr => ∃ (q : Nat) (A : Option Addr) (m cq : Nat), 6 ≤ q ∧ q ≤ n ∧ i = .int .i64 q ∧ Hid (((l.take q).drop 6).all rdb = true) ∧ Hid (RBx wr (g5 + 1) g5 (((l.take q).drop 6).map rdv) va vb vc A m cq) ∧ m ≤ q ∧ Hid (Z4 wr w.heap.size) ∧ Hid (Below g5 w6 wr)) (fun i _ => n - (intOf i).toNat)
  case atStart =>
    have e0 : (l.take 6).drop 6 = [] := List.drop_of_length_le (by rw [List.length_take]; omega)
    exact ⟨6, none, 0, 0, Nat.le_refl _, H6.out, rfl, Lib.hid (by rw [e0]; rfl), Lib.hid (by rw [e0]; exact HBX.out), by omega, HZ, Lib.hid ((ext_refl w6).mono (Nat.le_of_lt (block_lt_of_cell HBX.out.h0)))⟩
  case round =>
    obtain ⟨q, A, m, cq, hq6, hq, rfl, HT, HR, hmq, HZ2, HB⟩ := hrel
    have e1 : (0 : Int) ≤ q := by omega
    have h46 := H46.out
    have hg5 : g5 < wr.heap.size := block_lt_of_cell HR.out.h0
    by_cases hlt : q < n
    · have e2 : (q : Int) < n := by omega
      have hql : q < l.length := by rw [HN.out]; exact hlt
      have hc0 := (HB.out.cell (p := ⟨g1, q, none⟩) hg15).trans (HCL.out q hlt)
      have HC := Lib.hid (HNK.out q hlt)
      have hd6 : (l.take (q + 1)).drop 6 = (l.take q).drop 6 ++ [gd l q] := by rw [take_gd hql, List.drop_append_of_le_length (by rw [List.length_take]; omega)]
      have HTA : Hid (((l.take (q + 1)).drop 6).all rdb = rdb (gd l q)) := Lib.hid (by rw [hd6, List.all_append, HT.out]; simp)
      have HMA : Hid (((l.take (q + 1)).drop 6).map rdv = ((l.take q).drop 6).map rdv ++ [rdv (gd l q)]) := Lib.hid (by rw [hd6, List.map_append]; rfl)
      have HNO : Hid (rdb (gd l q) = false → rdR s = none) := Lib.hid fun h => HRN.out (by
        rw [List.all_eq_false]
        refine ⟨gd l q, ?_, by simp [h]⟩
        have : l.drop 6 = (l.take q).drop 6 ++ gd l q :: (l.drop (q + 1)) := by
          conv => lhs; rw [← List.take_append_drop q l]
          rw [List.drop_append_of_le_length (by rw [List.length_take]; omega), drop_gd hql]
        rw [this]; simp)
      clear hd6 hql
      obtain ⟨x, hx⟩ : ∃ x, gd l q = x := ⟨_, rfl⟩
      rw [hx] at hc0 HC HTA HMA HNO
      clear hx
      obtain ⟨v, hv⟩ : ∃ v, rdv x = v := ⟨_, rfl⟩
      obtain ⟨ok, hok⟩ : ∃ v, rdb x = v := ⟨_, rfl⟩
      rw [hv] at HC HMA
      rw [hok] at HC HTA HNO
      clear hv hok
      go_wp2_with fail
      refine (show Calls _ _ _ _ _ from HC.out _).mono ?_
      rintro e w8 ⟨rfl, hb8⟩
      replace HB := Lib.hid (HB.out.trans (hb8.mono (Nat.le_of_lt hg5)))
      replace HR := Lib.hid (HR.out.ext hb8)
      replace HZ2 := Lib.hid (HZ2.out.ext hb8)
      clear hb8 hc0 HC
      cases ok with
      | false =>
        have HF := Lib.hid (HNO.out rfl)
        have HZ := HZ2
        replace HW := Lib.hid (HW.out.trans (HB.out.mono (Nat.le_of_lt hgw)))
        have hz0 := HZ.out.1
        have hz1 := HZ.out.2.1
        have hz2 := HZ.out.2.2.1
        have hz3 := HZ.out.2.2.2.1
        have hzf := HZ.out.2.2.2.2
        have hx := @box4_set w8 w.heap.size _ _ _ _ (.slice none 0 0) (.int .i64 0) (.int .i64 0) (.int .i64 0) hz0 hz1 hz2 hz3
        have hw0 := hx.1
        have hw1 := hx.2.1
        have hw2 := hx.2.2.1
        have hw3 := hx.2.2.2
        clear hx
        try simp only []
        go_wp2_with fail
        refine bodyPost_ret (v := .tuple #[.agg #[.slice none 0 0, .int .i64 0, .int .i64 0, .int .i64 0], .bool false]) (by simp [results, Tryd.results15, go_sem, hw0, hw1, hw2, hw3]) rfl (RetOR.no HF.out ?_)
        repeat (refine ext_set ?_ (by simp; try omega) _)
        exact HW.out
      | true =>
      have r0 := HR.out.h0
      have hsz : g5 + 1 ≤ w8.heap.size := by have := block_lt_of_cell r0; simp only [] at this; omega
      obtain ⟨xs, hxs⟩ : ∃ xs, ((l.take q).drop 6).map rdv = xs := ⟨_, rfl⟩
      rw [hxs] at HR HMA
      have hxm : xs.length = m := HR.out.len
      have HXM := Lib.hid hxm
      clear hxs hxm
      go_wp2_with (at_builtin; refine wpList_append_i rfl _ _ rfl (g5 + 1) (.slice A m cq) xs v rfl rfl HR.out.own (by have := H46.out; rw [HXM.out]; omega) hsz ?_; intro gg cap w9 hO9 hg9 hlt9; (rw [HXM.out] at hO9); (obtain ⟨ha0, haf⟩ := HR.out.mid hg9); (have HS9 := Lib.hid (HR.out.step hg9 hO9)); rw [HXM.out]; clear r0)
      go_roundw
      case rel => exact ⟨q + 1, some ⟨gg, 0, none⟩, m + 1, cap, by omega, by omega, by go_num, HTA, Lib.hid (by rw [HMA.out]; exact HS9.out.1), by omega, Lib.hid (HZ2.out.chg HS9.out.2 (by omega)), Lib.hid (HB.out.trans (HS9.out.2.below (by omega) (fun b hb => by omega)))⟩
      case measure => simp [intOf]; omega
    · obtain rfl : q = n := by omega
      have hd6 : (l.take q).drop 6 = l.drop 6 := by rw [List.take_of_length_le (by rw [HN.out]; exact Nat.le_refl _)]
      rw [hd6] at HT HR
      clear hd6
      replace HW := Lib.hid (HW.out.trans (HB.out.mono (Nat.le_of_lt hgw)))
      have HZ := HZ2
      obtain ⟨xs, hxs⟩ : ∃ xs, (l.drop 6).map rdv = xs := ⟨_, rfl⟩
      rw [hxs] at HR HRW
      have hxm := HR.out.len
      subst hxm
      clear hxs HZ2
      have HRR : Hid (okN l = true → rdR s = some ⟨xs, va, vb, vc⟩) := Lib.hid fun h => (HRY.out HOKH.out HT.out h).trans (by rw [HRW.out])
      rw [HRW.out] at HOKN
      cases b1 with
      | false =>
        have HF : Hid (rdR s = none) := Lib.hid (HRO.out (by rw [HOKN.out]; rfl))
        have hz0 := HZ.out.1
        have hz1 := HZ.out.2.1
        have hz2 := HZ.out.2.2.1
        have hz3 := HZ.out.2.2.2.1
        have hzf := HZ.out.2.2.2.2
        have hx := @box4_set wr w.heap.size _ _ _ _ (.slice none 0 0) (.int .i64 0) (.int .i64 0) (.int .i64 0) hz0 hz1 hz2 hz3
        have hw0 := hx.1
        have hw1 := hx.2.1
        have hw2 := hx.2.2.1
        have hw3 := hx.2.2.2
        clear hx
        try simp only []
        go_wp2_with fail
        refine bodyPost_ret (v := .tuple #[.agg #[.slice none 0 0, .int .i64 0, .int .i64 0, .int .i64 0], .bool false]) (by simp [results, Tryd.results15, go_sem, hw0, hw1, hw2, hw3]) rfl (RetOR.no HF.out ?_)
        repeat (refine ext_set ?_ (by simp; try omega) _)
        exact HW.out
      | true =>
      cases b3 with
      | false =>
        have HF : Hid (rdR s = none) := Lib.hid (HRO.out (by rw [HOKN.out]; rfl))
        have hz0 := HZ.out.1
        have hz1 := HZ.out.2.1
        have hz2 := HZ.out.2.2.1
        have hz3 := HZ.out.2.2.2.1
        have hzf := HZ.out.2.2.2.2
        have hx := @box4_set wr w.heap.size _ _ _ _ (.slice none 0 0) (.int .i64 0) (.int .i64 0) (.int .i64 0) hz0 hz1 hz2 hz3
        have hw0 := hx.1
        have hw1 := hx.2.1
        have hw2 := hx.2.2.1
        have hw3 := hx.2.2.2
        clear hx
        try simp only []
        go_wp2_with fail
        refine bodyPost_ret (v := .tuple #[.agg #[.slice none 0 0, .int .i64 0, .int .i64 0, .int .i64 0], .bool false]) (by simp [results, Tryd.results15, go_sem, hw0, hw1, hw2, hw3]) rfl (RetOR.no HF.out ?_)
        repeat (refine ext_set ?_ (by simp; try omega) _)
        exact HW.out
      | true =>
      cases b5 with
      | false =>
        have HF : Hid (rdR s = none) := Lib.hid (HRO.out (by rw [HOKN.out]; rfl))
        have hz0 := HZ.out.1
        have hz1 := HZ.out.2.1
        have hz2 := HZ.out.2.2.1
        have hz3 := HZ.out.2.2.2.1
        have hzf := HZ.out.2.2.2.2
        have hx := @box4_set wr w.heap.size _ _ _ _ (.slice none 0 0) (.int .i64 0) (.int .i64 0) (.int .i64 0) hz0 hz1 hz2 hz3
        have hw0 := hx.1
        have hw1 := hx.2.1
        have hw2 := hx.2.2.1
        have hw3 := hx.2.2.2
        clear hx
        try simp only []
        go_wp2_with fail
        refine bodyPost_ret (v := .tuple #[.agg #[.slice none 0 0, .int .i64 0, .int .i64 0, .int .i64 0], .bool false]) (by simp [results, Tryd.results15, go_sem, hw0, hw1, hw2, hw3]) rfl (RetOR.no HF.out ?_)
        repeat (refine ext_set ?_ (by simp; try omega) _)
        exact HW.out
      | true =>
      have HC := Lib.hid (spec_okR g5 ⟨xs, va, vb, vc⟩ (show xs.length ≤ 1048576 by omega) wr HR.out.pr)
      go_wp2_with fail
      refine (show Calls _ _ _ _ _ from HC.out).mono ?_
      rintro e w8 ⟨rfl, rfl⟩
      cases hv : vRise ⟨xs, va, vb, vc⟩ with
      | false =>
        have HF : Hid (rdR s = none) := Lib.hid (HRO.out (by rw [HOKN.out, hv]; rfl))
        clear hv
        have hz0 := HZ.out.1
        have hz1 := HZ.out.2.1
        have hz2 := HZ.out.2.2.1
        have hz3 := HZ.out.2.2.2.1
        have hzf := HZ.out.2.2.2.2
        have hx := @box4_set wr w.heap.size _ _ _ _ (.slice none 0 0) (.int .i64 0) (.int .i64 0) (.int .i64 0) hz0 hz1 hz2 hz3
        have hw0 := hx.1
        have hw1 := hx.2.1
        have hw2 := hx.2.2.1
        have hw3 := hx.2.2.2
        clear hx
        try simp only []
        go_wp2_with fail
        refine bodyPost_ret (v := .tuple #[.agg #[.slice none 0 0, .int .i64 0, .int .i64 0, .int .i64 0], .bool false]) (by simp [results, Tryd.results15, go_sem, hw0, hw1, hw2, hw3]) rfl (RetOR.no HF.out ?_)
        repeat (refine ext_set ?_ (by simp; try omega) _)
        exact HW.out
      | true =>
        have HF : Hid (rdR s = some ⟨xs, va, vb, vc⟩) := Lib.hid (HRR.out (by rw [HOKN.out, hv]; rfl))
        clear hv
        have hz0 := HZ.out.1
        have hz1 := HZ.out.2.1
        have hz2 := HZ.out.2.2.1
        have hz3 := HZ.out.2.2.2.1
        have hzf := HZ.out.2.2.2.2
        have hx := @box4_set wr w.heap.size _ _ _ _ (.slice A xs.length cq) (.int .i64 va) (.int .i64 vb) (.int .i64 vc) hz0 hz1 hz2 hz3
        have HO8 := Lib.hid (HR.out.own.chg (box4_chg wr w.heap.size (.slice A xs.length cq) (.int .i64 va) (.int .i64 vb) (.int .i64 vc)) (fun k hk e => by have := (HR.out.own.ge k hk).1; omega))
        have hw0 := hx.1
        have hw1 := hx.2.1
        have hw2 := hx.2.2.1
        have hw3 := hx.2.2.2
        have r0 := HR.out.h0
        have r1 := HR.out.h1
        have r2 := HR.out.h2
        have r3 := HR.out.h3
        clear hx
        try simp only []
        go_wp2_with fail
        refine bodyPost_ret (v := .tuple #[.agg #[.slice A xs.length cq, .int .i64 va, .int .i64 vb, .int .i64 vc], .bool true]) (by simp [results, Tryd.results15, go_sem, hw0, hw1, hw2, hw3]) rfl (RetOR.yes (r := ⟨xs, va, vb, vc⟩) HF.out (HO8.out.mono (by omega)) (show xs.length ≤ 1048576 by omega) ?_)
        repeat (refine ext_set ?_ (by simp; try omega) _)
        exact HW.out
end Go.Proofs.YtlgmelkcokkcdaaDoor
