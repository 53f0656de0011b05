/-
  The law FnExactSameRise: the program answers as the reference, for all arguments; no condition. The walk and the row; printed by genlaw.py and genrow.py.
-/
import Derived.Test.YtahcdofikfookaaRise
import Derived.Test.YtahcdofikfookaaRowRise
import Derived.ChangeMaps5
import Derived.Deep.RegionHeld3
import Derived.Deep.DrawnRows
namespace Go.Proofs.Ytahcdofikfookaa
open Go.ChangeShapes Go.WideShapes Go.ChangeAt Go.RowKit Go.Sort
set_option linter.unusedVariables false
attribute [local go_sem ↓] Go.wp_at_zero Go.wp_at_succ

set_option maxHeartbeats 2000000 in
set_option maxRecDepth 100000 in
theorem law_FnExactSameRise (vA : Value) (rA : RS) (vB : Value) (rB : RS) (w : World) (hRA : SR w vA rA) (hlA : LenSR rA) (hRB : SR w vB rB) (hlB : LenSR rB) :
    Calls Try.prog 3 #[vA, vB] w (Ret (.bool true) w) := by
  obtain ⟨AA, cA, rfl, hOA⟩ := hRA
  have HRA : Hid (∀ W', Below w.heap.size w W' → SR W' (.agg #[.slice AA rA.cs.length cA, .int .i64 rA.reach, .int .i64 rA.setup, .int .i64 rA.easy]) rA) := Lib.hid fun W' h => SR.ext (show SR w (.agg #[.slice AA rA.cs.length cA, .int .i64 rA.reach, .int .i64 rA.setup, .int .i64 rA.easy]) rA from ⟨_, _, rfl, hOA⟩) h
  clear hOA
  have HlA := Lib.hid hlA; clear hlA
  obtain ⟨AB, cB, rfl, hOB⟩ := hRB
  have HRB : Hid (∀ W', Below w.heap.size w W' → SR W' (.agg #[.slice AB rB.cs.length cB, .int .i64 rB.reach, .int .i64 rB.setup, .int .i64 rB.easy]) rB) := Lib.hid fun W' h => SR.ext (show SR w (.agg #[.slice AB rB.cs.length cB, .int .i64 rB.reach, .int .i64 rB.setup, .int .i64 rB.easy]) rB from ⟨_, _, rfl, hOB⟩) h
  clear hOB
  have HlB := Lib.hid hlB; clear hlB
  have HW : Hid (Below w.heap.size w w) := Lib.hid (ext_refl w)
  go_enter Try.func3, Try.ntmps3
  have hp0 : (0 : Int) ≤ 1048576 := by omega
  have hq0 : (1048576 : Int) ≤ 1048576 := by omega
  go_wp2_with fail
  refine (sz_SR _ rA 1048576 hp0 hq0 _ HlA.out (HRA.out _ (ext_trans HW.out (ext_alloc (ext_alloc (ext_refl _) _) _)))).mono ?_
  rintro e w1 ⟨rfl, hbw1⟩
  have hcw1 : Below w.heap.size w w1 := ext_trans (ext_alloc (ext_alloc (ext_refl _) _) _) hbw1
  have HW_ : Hid (Below w.heap.size w w1) := Lib.hid (ext_trans HW.out hcw1)
  have zw1 := hcw1.size
  clear HW; have HW := HW_; clear HW_
  have yw1 := Below.size hbw1
  simp only [World.size_alloc] at yw1
  have k_aA_0 : ∀ W', Below w1.heap.size w1 W' → W'.cell? ⟨w.heap.size, 0, none⟩ = some (.slice AA rA.cs.length cA) := fun W' h => cell_keep (cell_keep (p := ⟨w.heap.size, 0, none⟩) (v := .slice AA rA.cs.length cA) (by simp [go_sem]) hbw1) h
  have k_aA_1 : ∀ W', Below w1.heap.size w1 W' → W'.cell? ⟨w.heap.size, 1, none⟩ = some (.int .i64 rA.reach) := fun W' h => cell_keep (cell_keep (p := ⟨w.heap.size, 1, none⟩) (v := .int .i64 rA.reach) (by simp [go_sem]) hbw1) h
  have k_aA_2 : ∀ W', Below w1.heap.size w1 W' → W'.cell? ⟨w.heap.size, 2, none⟩ = some (.int .i64 rA.setup) := fun W' h => cell_keep (cell_keep (p := ⟨w.heap.size, 2, none⟩) (v := .int .i64 rA.setup) (by simp [go_sem]) hbw1) h
  have k_aA_3 : ∀ W', Below w1.heap.size w1 W' → W'.cell? ⟨w.heap.size, 3, none⟩ = some (.int .i64 rA.easy) := fun W' h => cell_keep (cell_keep (p := ⟨w.heap.size, 3, none⟩) (v := .int .i64 rA.easy) (by simp [go_sem]) hbw1) h
  have k_aB_0 : ∀ W', Below w1.heap.size w1 W' → W'.cell? ⟨w.heap.size + 1, 0, none⟩ = some (.slice AB rB.cs.length cB) := fun W' h => cell_keep (cell_keep (p := ⟨w.heap.size + 1, 0, none⟩) (v := .slice AB rB.cs.length cB) (by simp [go_sem]) hbw1) h
  have k_aB_1 : ∀ W', Below w1.heap.size w1 W' → W'.cell? ⟨w.heap.size + 1, 1, none⟩ = some (.int .i64 rB.reach) := fun W' h => cell_keep (cell_keep (p := ⟨w.heap.size + 1, 1, none⟩) (v := .int .i64 rB.reach) (by simp [go_sem]) hbw1) h
  have k_aB_2 : ∀ W', Below w1.heap.size w1 W' → W'.cell? ⟨w.heap.size + 1, 2, none⟩ = some (.int .i64 rB.setup) := fun W' h => cell_keep (cell_keep (p := ⟨w.heap.size + 1, 2, none⟩) (v := .int .i64 rB.setup) (by simp [go_sem]) hbw1) h
  have k_aB_3 : ∀ W', Below w1.heap.size w1 W' → W'.cell? ⟨w.heap.size + 1, 3, none⟩ = some (.int .i64 rB.easy) := fun W' h => cell_keep (cell_keep (p := ⟨w.heap.size + 1, 3, none⟩) (v := .int .i64 rB.easy) (by simp [go_sem]) hbw1) h
  have hL : Below w1.heap.size w1 w1 := ext_refl _
  have haL : ∀ o, Below w1.heap.size w1 (w1.alloc o) := fun o => ext_alloc hL o
  clear hbw1 hcw1
  obtain ⟨hqw1, hrw1⟩ := szSR_le rA hq0
  go_wp2_with fail
  · go_ret
    exact ⟨rfl, ext_trans HW.out (ext_refl _)⟩
  have hpw1 : 0 ≤ szSR rA 1048576 := by assumption
  go_wp2_with fail
  refine (sz_SR _ rB (szSR rA 1048576) hpw1 hqw1 _ HlB.out (HRB.out _ (ext_trans HW.out (ext_refl _)))).mono ?_
  rintro e w2 ⟨rfl, hbw2⟩
  have hcw2 : Below w1.heap.size w1 w2 := ext_trans (ext_refl _) hbw2
  have HW_ : Hid (Below w.heap.size w w2) := Lib.hid (ext_trans HW.out hcw2)
  have zw2 := hcw2.size
  clear HW; have HW := HW_; clear HW_
  replace hL : Below w1.heap.size w1 w2 := ext_trans hL hcw2
  clear haL
  have haL : ∀ o, Below w1.heap.size w1 (w2.alloc o) := fun o => ext_alloc hL o
  clear hbw2 hcw2
  obtain ⟨hqw2, hrw2⟩ := szSR_le rB hqw1
  go_wp2_with fail
  · go_ret
    exact ⟨rfl, ext_trans HW.out (ext_refl _)⟩
  have hpw2 : 0 ≤ szSR rB (szSR rA 1048576) := by assumption
  obtain ⟨huB, hsmB⟩ := ok_SR hqw1 hpw2
  have SmB := Lib.hid hsmB; clear hsmB
  obtain ⟨huA, hsmA⟩ := ok_SR hq0 huB
  have SmA := Lib.hid hsmA; clear hsmA
  go_wp2_with fail
  go_region_held3 (fun w' => Below w1.heap.size w1 w') (first | exact ext_drew hL | exact ext_trans (by assumption) (by assumption) | assumption)
    (first
      | (go_at_call 15; (have ht := to_SR _ rA _ (HRA.out _ (ext_trans HW.out (ext_drew (ext_refl _)))) SmA.out); (with_reducible refine ht.mono ?_); clear ht; rintro e w3 ⟨vw3, rfl, hOw3, hbw3⟩)
      | (go_at_call 15; (have ht := to_SR _ rB _ (HRB.out _ (ext_trans HW.out (ext_trans (ext_drew (ext_refl _)) hbw3))) SmB.out); (with_reducible refine ht.mono ?_); clear ht; rintro e w4 ⟨vw4, rfl, hOw4, hbw4⟩)
      | (go_at_call 14; (have ht := spec_SameRise _ rA _ rB _ (hOw3.ext hbw4).rd SmA.out hOw4.rd SmB.out); (with_reducible refine ht.mono ?_); clear ht; rintro e w5 ⟨rfl, hbw5⟩)
      | fail)
  have hcw5 : Below w2.heap.size w2 w5 := (ext_trans (ext_trans (ext_trans (ext_drew (ext_refl _)) hbw3) hbw4) hbw5)
  have HW_ : Hid (Below w.heap.size w w5) := Lib.hid (ext_trans HW.out hcw5)
  have zw5 := hcw5.size
  clear HW; have HW := HW_; clear HW_
  replace hL : Below w1.heap.size w1 w5 := ext_trans hL hcw5
  clear haL
  have haL : ∀ o, Below w1.heap.size w1 (w5.alloc o) := fun o => ext_alloc hL o
  clear hcw5 hbw3 hbw4 hbw5
  clear hOw3 hOw4
  go_wp2_with fail
  refine (to_SR _ rA _ (HRA.out _ (ext_trans HW.out (ext_refl _))) SmA.out).mono ?_
  rintro e w6 ⟨vw6, rfl, ⟨Aw6, cw6, rfl, hOw6⟩, hbw6⟩
  have hOO : OSR w6 (w5.heap.size) (.agg #[.slice Aw6 rA.cs.length cw6, .int .i64 rA.reach, .int .i64 rA.setup, .int .i64 rA.easy]) rA := ⟨_, _, rfl, hOw6⟩
  have hcw6 : Below w5.heap.size w5 w6 := ext_trans (ext_refl _) hbw6
  have HW_ : Hid (Below w.heap.size w w6) := Lib.hid (ext_trans HW.out hcw6)
  have zw6 := hcw6.size
  clear HW; have HW := HW_; clear HW_
  replace hL : Below w1.heap.size w1 w6 := ext_trans hL hcw6
  clear haL
  have haL : ∀ o, Below w1.heap.size w1 (w6.alloc o) := fun o => ext_alloc hL o
  clear hbw6 hcw6
  have HB_x0 : Hid (∀ k, BSR (.agg #[.slice Aw6 rA.cs.length cw6, .int .i64 rA.reach, .int .i64 rA.setup, .int .i64 rA.easy]) k → w5.heap.size ≤ k ∧ k < w6.heap.size) := Lib.hid hOO.ge
  have HO_x0 := Lib.hid hOO; clear hOO
  go_wp2_with fail
  refine (to_SR _ rB _ (HRB.out _ (ext_trans HW.out (ext_alloc (ext_refl _) _))) SmB.out).mono ?_
  rintro e w7 ⟨vw7, rfl, ⟨Aw7, cw7, rfl, hOw7⟩, hbw7⟩
  have hOO : OSR w7 (w6.heap.size + 1) (.agg #[.slice Aw7 rB.cs.length cw7, .int .i64 rB.reach, .int .i64 rB.setup, .int .i64 rB.easy]) rB := by have h0 := hOw7; simp only [World.size_alloc] at h0; exact ⟨_, _, rfl, h0⟩
  have hcw7 : Below w6.heap.size w6 w7 := ext_trans (ext_alloc (ext_refl _) _) hbw7
  have HW_ : Hid (Below w.heap.size w w7) := Lib.hid (ext_trans HW.out hcw7)
  have zw7 := hcw7.size
  have HO_x0_ := Lib.hid (HO_x0.out.ext hcw7); clear HO_x0; have HO_x0 := HO_x0_; clear HO_x0_
  clear HW; have HW := HW_; clear HW_
  have yw7 := Below.size hbw7
  simp only [World.size_alloc] at yw7
  have k_x0_0 : ∀ W', Below w7.heap.size w7 W' → W'.cell? ⟨w6.heap.size, 0, none⟩ = some (.slice Aw6 rA.cs.length cw6) := fun W' h => cell_keep (cell_keep (p := ⟨w6.heap.size, 0, none⟩) (v := .slice Aw6 rA.cs.length cw6) (by simp [go_sem]) hbw7) h
  have k_x0_1 : ∀ W', Below w7.heap.size w7 W' → W'.cell? ⟨w6.heap.size, 1, none⟩ = some (.int .i64 rA.reach) := fun W' h => cell_keep (cell_keep (p := ⟨w6.heap.size, 1, none⟩) (v := .int .i64 rA.reach) (by simp [go_sem]) hbw7) h
  have k_x0_2 : ∀ W', Below w7.heap.size w7 W' → W'.cell? ⟨w6.heap.size, 2, none⟩ = some (.int .i64 rA.setup) := fun W' h => cell_keep (cell_keep (p := ⟨w6.heap.size, 2, none⟩) (v := .int .i64 rA.setup) (by simp [go_sem]) hbw7) h
  have k_x0_3 : ∀ W', Below w7.heap.size w7 W' → W'.cell? ⟨w6.heap.size, 3, none⟩ = some (.int .i64 rA.easy) := fun W' h => cell_keep (cell_keep (p := ⟨w6.heap.size, 3, none⟩) (v := .int .i64 rA.easy) (by simp [go_sem]) hbw7) h
  replace k_aA_0 : ∀ W', Below w7.heap.size w7 W' → W'.cell? ⟨w.heap.size, 0, none⟩ = some (.slice AA rA.cs.length cA) := fun W' h => k_aA_0 W' (ext_trans (ext_trans hL hcw7) h)
  replace k_aA_1 : ∀ W', Below w7.heap.size w7 W' → W'.cell? ⟨w.heap.size, 1, none⟩ = some (.int .i64 rA.reach) := fun W' h => k_aA_1 W' (ext_trans (ext_trans hL hcw7) h)
  replace k_aA_2 : ∀ W', Below w7.heap.size w7 W' → W'.cell? ⟨w.heap.size, 2, none⟩ = some (.int .i64 rA.setup) := fun W' h => k_aA_2 W' (ext_trans (ext_trans hL hcw7) h)
  replace k_aA_3 : ∀ W', Below w7.heap.size w7 W' → W'.cell? ⟨w.heap.size, 3, none⟩ = some (.int .i64 rA.easy) := fun W' h => k_aA_3 W' (ext_trans (ext_trans hL hcw7) h)
  replace k_aB_0 : ∀ W', Below w7.heap.size w7 W' → W'.cell? ⟨w.heap.size + 1, 0, none⟩ = some (.slice AB rB.cs.length cB) := fun W' h => k_aB_0 W' (ext_trans (ext_trans hL hcw7) h)
  replace k_aB_1 : ∀ W', Below w7.heap.size w7 W' → W'.cell? ⟨w.heap.size + 1, 1, none⟩ = some (.int .i64 rB.reach) := fun W' h => k_aB_1 W' (ext_trans (ext_trans hL hcw7) h)
  replace k_aB_2 : ∀ W', Below w7.heap.size w7 W' → W'.cell? ⟨w.heap.size + 1, 2, none⟩ = some (.int .i64 rB.setup) := fun W' h => k_aB_2 W' (ext_trans (ext_trans hL hcw7) h)
  replace k_aB_3 : ∀ W', Below w7.heap.size w7 W' → W'.cell? ⟨w.heap.size + 1, 3, none⟩ = some (.int .i64 rB.easy) := fun W' h => k_aB_3 W' (ext_trans (ext_trans hL hcw7) h)
  clear hL haL
  have hL : Below w7.heap.size w7 w7 := ext_refl _
  have haL : ∀ o, Below w7.heap.size w7 (w7.alloc o) := fun o => ext_alloc hL o
  clear hbw7 hcw7
  have HB_x1 : Hid (∀ k, BSR (.agg #[.slice Aw7 rB.cs.length cw7, .int .i64 rB.reach, .int .i64 rB.setup, .int .i64 rB.easy]) k → w6.heap.size + 1 ≤ k ∧ k < w7.heap.size) := Lib.hid hOO.ge
  have HO_x1 := Lib.hid hOO; clear hOO
  go_wp2_with fail
  refine (impl_SameRise _ rA _ rB _ ((HO_x0.out.ext (ext_alloc (ext_refl _) _)).rd) SmA.out ((HO_x1.out.ext (ext_alloc (ext_refl _) _)).rd) SmB.out).mono ?_
  rintro e w8 ⟨rfl, hbw8⟩
  have hcw8 : Below w7.heap.size w7 w8 := (ext_trans (ext_alloc (ext_refl _) _) hbw8)
  have HW_ : Hid (Below w.heap.size w w8) := Lib.hid (ext_trans HW.out hcw8)
  have zw8 := hcw8.size
  have HO_x0_ := Lib.hid (HO_x0.out.ext hcw8); clear HO_x0; have HO_x0 := HO_x0_; clear HO_x0_
  have HO_x1_ := Lib.hid (HO_x1.out.ext hcw8); clear HO_x1; have HO_x1 := HO_x1_; clear HO_x1_
  clear HW; have HW := HW_; clear HW_
  have yw8 := Below.size hbw8
  simp only [World.size_alloc] at yw8
  have k_x1_0 : ∀ W', Below w8.heap.size w8 W' → W'.cell? ⟨w7.heap.size, 0, none⟩ = some (.slice Aw7 rB.cs.length cw7) := fun W' h => cell_keep (cell_keep (p := ⟨w7.heap.size, 0, none⟩) (v := .slice Aw7 rB.cs.length cw7) (by simp [go_sem]) hbw8) h
  have k_x1_1 : ∀ W', Below w8.heap.size w8 W' → W'.cell? ⟨w7.heap.size, 1, none⟩ = some (.int .i64 rB.reach) := fun W' h => cell_keep (cell_keep (p := ⟨w7.heap.size, 1, none⟩) (v := .int .i64 rB.reach) (by simp [go_sem]) hbw8) h
  have k_x1_2 : ∀ W', Below w8.heap.size w8 W' → W'.cell? ⟨w7.heap.size, 2, none⟩ = some (.int .i64 rB.setup) := fun W' h => cell_keep (cell_keep (p := ⟨w7.heap.size, 2, none⟩) (v := .int .i64 rB.setup) (by simp [go_sem]) hbw8) h
  have k_x1_3 : ∀ W', Below w8.heap.size w8 W' → W'.cell? ⟨w7.heap.size, 3, none⟩ = some (.int .i64 rB.easy) := fun W' h => cell_keep (cell_keep (p := ⟨w7.heap.size, 3, none⟩) (v := .int .i64 rB.easy) (by simp [go_sem]) hbw8) h
  replace k_aA_0 : ∀ W', Below w8.heap.size w8 W' → W'.cell? ⟨w.heap.size, 0, none⟩ = some (.slice AA rA.cs.length cA) := fun W' h => k_aA_0 W' (ext_trans (ext_trans hL hcw8) h)
  replace k_aA_1 : ∀ W', Below w8.heap.size w8 W' → W'.cell? ⟨w.heap.size, 1, none⟩ = some (.int .i64 rA.reach) := fun W' h => k_aA_1 W' (ext_trans (ext_trans hL hcw8) h)
  replace k_aA_2 : ∀ W', Below w8.heap.size w8 W' → W'.cell? ⟨w.heap.size, 2, none⟩ = some (.int .i64 rA.setup) := fun W' h => k_aA_2 W' (ext_trans (ext_trans hL hcw8) h)
  replace k_aA_3 : ∀ W', Below w8.heap.size w8 W' → W'.cell? ⟨w.heap.size, 3, none⟩ = some (.int .i64 rA.easy) := fun W' h => k_aA_3 W' (ext_trans (ext_trans hL hcw8) h)
  replace k_aB_0 : ∀ W', Below w8.heap.size w8 W' → W'.cell? ⟨w.heap.size + 1, 0, none⟩ = some (.slice AB rB.cs.length cB) := fun W' h => k_aB_0 W' (ext_trans (ext_trans hL hcw8) h)
  replace k_aB_1 : ∀ W', Below w8.heap.size w8 W' → W'.cell? ⟨w.heap.size + 1, 1, none⟩ = some (.int .i64 rB.reach) := fun W' h => k_aB_1 W' (ext_trans (ext_trans hL hcw8) h)
  replace k_aB_2 : ∀ W', Below w8.heap.size w8 W' → W'.cell? ⟨w.heap.size + 1, 2, none⟩ = some (.int .i64 rB.setup) := fun W' h => k_aB_2 W' (ext_trans (ext_trans hL hcw8) h)
  replace k_aB_3 : ∀ W', Below w8.heap.size w8 W' → W'.cell? ⟨w.heap.size + 1, 3, none⟩ = some (.int .i64 rB.easy) := fun W' h => k_aB_3 W' (ext_trans (ext_trans hL hcw8) h)
  replace k_x0_0 : ∀ W', Below w8.heap.size w8 W' → W'.cell? ⟨w6.heap.size, 0, none⟩ = some (.slice Aw6 rA.cs.length cw6) := fun W' h => k_x0_0 W' (ext_trans (ext_trans hL hcw8) h)
  replace k_x0_1 : ∀ W', Below w8.heap.size w8 W' → W'.cell? ⟨w6.heap.size, 1, none⟩ = some (.int .i64 rA.reach) := fun W' h => k_x0_1 W' (ext_trans (ext_trans hL hcw8) h)
  replace k_x0_2 : ∀ W', Below w8.heap.size w8 W' → W'.cell? ⟨w6.heap.size, 2, none⟩ = some (.int .i64 rA.setup) := fun W' h => k_x0_2 W' (ext_trans (ext_trans hL hcw8) h)
  replace k_x0_3 : ∀ W', Below w8.heap.size w8 W' → W'.cell? ⟨w6.heap.size, 3, none⟩ = some (.int .i64 rA.easy) := fun W' h => k_x0_3 W' (ext_trans (ext_trans hL hcw8) h)
  clear hL haL
  have hL : Below w8.heap.size w8 w8 := ext_refl _
  have haL : ∀ o, Below w8.heap.size w8 (w8.alloc o) := fun o => ext_alloc hL o
  clear hcw8 hbw8
  go_wp2_with fail
  go_region_held3 (fun w' => Below w8.heap.size w8 w') (first | exact ext_drew hL | exact ext_trans (by assumption) (by assumption) | assumption)
    (first
      | (go_at_call 15; (have ht := to_SR _ rA _ (HRA.out _ (ext_trans HW.out (ext_drew (ext_refl _)))) SmA.out); (with_reducible refine ht.mono ?_); clear ht; rintro e w9 ⟨vw9, rfl, hOw9, hbw9⟩)
      | (go_at_call 17; (have ht := eq_SR _ _ rA _ ((HO_x0.out.ext (ext_trans (ext_drew (ext_refl _)) hbw9)).rd) hOw9.rd); (with_reducible refine ht.mono ?_); clear ht; rintro e w10 ⟨rfl, hbw10⟩)
      | fail)
  have hcw10 : Below w8.heap.size w8 w10 := (ext_trans (ext_trans (ext_drew (ext_refl _)) hbw9) hbw10)
  have HW_ : Hid (Below w.heap.size w w10) := Lib.hid (ext_trans HW.out hcw10)
  have zw10 := hcw10.size
  have HO_x0_ := Lib.hid (HO_x0.out.ext hcw10); clear HO_x0; have HO_x0 := HO_x0_; clear HO_x0_
  have HO_x1_ := Lib.hid (HO_x1.out.ext hcw10); clear HO_x1; have HO_x1 := HO_x1_; clear HO_x1_
  clear HW; have HW := HW_; clear HW_
  replace hL : Below w8.heap.size w8 w10 := ext_trans hL hcw10
  clear haL
  have haL : ∀ o, Below w8.heap.size w8 (w10.alloc o) := fun o => ext_alloc hL o
  clear hcw10 hbw9 hbw10
  clear hOw9
  go_wp2_with fail
  go_region_held3 (fun w' => Below w8.heap.size w8 w') (first | exact ext_drew hL | exact ext_trans (by assumption) (by assumption) | assumption)
    (first
      | (go_at_call 15; (have ht := to_SR _ rB _ (HRB.out _ (ext_trans HW.out (ext_drew (ext_refl _)))) SmB.out); (with_reducible refine ht.mono ?_); clear ht; rintro e w11 ⟨vw11, rfl, hOw11, hbw11⟩)
      | (go_at_call 17; (have ht := eq_SR _ _ rB _ ((HO_x1.out.ext (ext_trans (ext_drew (ext_refl _)) hbw11)).rd) hOw11.rd); (with_reducible refine ht.mono ?_); clear ht; rintro e w12 ⟨rfl, hbw12⟩)
      | fail)
  have hcw12 : Below w10.heap.size w10 w12 := (ext_trans (ext_trans (ext_drew (ext_refl _)) hbw11) hbw12)
  have HW_ : Hid (Below w.heap.size w w12) := Lib.hid (ext_trans HW.out hcw12)
  have zw12 := hcw12.size
  have HO_x0_ := Lib.hid (HO_x0.out.ext hcw12); clear HO_x0; have HO_x0 := HO_x0_; clear HO_x0_
  have HO_x1_ := Lib.hid (HO_x1.out.ext hcw12); clear HO_x1; have HO_x1 := HO_x1_; clear HO_x1_
  clear HW; have HW := HW_; clear HW_
  replace hL : Below w8.heap.size w8 w12 := ext_trans hL hcw12
  clear haL
  have haL : ∀ o, Below w8.heap.size w8 (w12.alloc o) := fun o => ext_alloc hL o
  clear hcw12 hbw11 hbw12
  clear hOw11
  go_wp2_with fail
  go_ret
  exact ⟨rfl, ext_trans HW.out (ext_refl _)⟩

theorem rd_FnExactSameRise : ∀ t ∈ Try.f3.params.toList, Try.prog.readableRec t = true ∧ t < Try.prog.types.size := by
  have h : Try.f3.params.toList.all (fun t => Try.prog.readableRec t && decide (t < Try.prog.types.size)) = true := by kernel_rfl
  intro t ht
  have := List.all_eq_true.1 h t ht
  simpa using this

set_option maxRecDepth 100000 in
theorem lifted_FnExactSameRise (os : Os) (started : os.Started) (H : Type) (enc : TypeId × Value → H) :
    ReturnsInHanded {} Try.checked os 3 .any (Rows.fnExactSameRiseSpec.pre6 enc Try.prog Try.f3 Rows.fnExactSameRiseRow.domain false) (Rows.fnExactSameRiseSpec.post enc Try.prog Try.f3 false true false false) := by
  refine returnsInHanded_of_change (C := Try.checked) own_knob started (by kernel_rfl) Try.func3
    (ChangeSpec.witness6 (enc := enc) (C := Try.checked) false ⟨#[], #[.agg #[.slice none 0 0, .int .i64 0, .int .i64 0, .int .i64 0], .agg #[.slice none 0 0, .int .i64 0, .int .i64 0, .int .i64 0]], []⟩ 8 (by kernel_rfl) (by kernel_rfl) (by kernel_rfl) (by kernel_rfl)) ?_
  intro W base args ds gs before hval0 hW hcnd _
  have hval : ∀ (j : Nat) t v, Try.f3.params[j]? = some t → args[j]? = some v → Value.okWide Try.prog W .any base t v := hval0
  have hW' : DataW.Whole enc Try.prog Try.f3.params.toList (Rows.fnExactSameRiseSpec).vars false W args.toList ds gs before := hW
  obtain ⟨p, q, hA0, hV, _, hfz, hnd⟩ := hW
  have hA : DataW.TrodAll enc Try.prog W 0 (fun _ => true) true Try.f3.params.toList args.toList ds p := hA0
  rw [Try.params3] at hA hval
  obtain ⟨v0, vs0, d0, ds0, p0, q0, ha0, hd0, hp0, h0, r0⟩ := trodAll_cons hA
  subst hd0 hp0
  obtain ⟨v1, vs1, d1, ds1, p1, q1, ha1, hd1, hp1, h1, r1⟩ := trodAll_cons r0
  subst ha1 hd1 hp1
  obtain ⟨e1, e2, e3⟩ := trodAll_nil r1
  subst e1 e2 e3
  obtain rfl : args = #[v0, v1] := by cases args; simp_all
  obtain ⟨rfl, rfl⟩ := trodVars_none hV
  obtain ⟨r0, hR0, hl0⟩ := open_SR (hval 0 24 v0 rfl rfl) h0
  obtain ⟨r1, hR1, hl1⟩ := open_SR (hval 1 24 v1 rfl rfl) h1
  clear hA0 hval0
  refine (law_FnExactSameRise v0 r0 v1 r1 W hR0 hl0 hR1 hl1).mono fun e W' ⟨he, hb⟩ => ?_
  subst he
  exact ⟨_, rfl, law_post rd_FnExactSameRise rfl rfl hW' rfl hb⟩

theorem holds_FnExactSameRise : Rows.FnExactSameRiseSaid :=
  OpenClaim.holds_of_wide 3 Try.f3 rfl rfl rfl rfl rfl rfl rfl ⟨rfl, rfl, rfl, rfl, rfl⟩ rfl rfl rfl rfl rfl (by kernel_rfl) Try.func3 (by kernel_rfl)
    (of_decide_eq_true (by kernel_rfl)) (by unfold Func.isWrapper; first | (rw [if_pos (by decide +kernel)]; kernel_rfl) | (rw [if_neg (by decide +kernel)]; exact ⟨rfl, rfl⟩))
    (fun os started H enc _ => lifted_FnExactSameRise os started H enc)


end Go.Proofs.Ytahcdofikfookaa
