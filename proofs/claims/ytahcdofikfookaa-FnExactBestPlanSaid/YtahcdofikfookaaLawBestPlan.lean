/-
  The law FnExactBestPlan: the program answers as the reference, for all arguments; no condition. The walk and the row; printed by genlaw.py and genrow.py.
-/
import Derived.Test.YtahcdofikfookaaLifts12
import Derived.Test.YtahcdofikfookaaRowRise
import Derived.Test.YtahcdofikfookaaRowI
import Derived.ChangeMaps5
import Derived.Deep.RegionHeld3
import Derived.Deep.DrawnRows
namespace Go.Proofs.Ytahcdofikfookaa
open Go.ChangeShapes Go.WideShapes Go.ChangeAt Go.RowKit Go.Sort
set_option linter.unusedVariables false
attribute [local go_sem ↓] Go.wp_at_zero Go.wp_at_succ

set_option maxHeartbeats 2000000 in
set_option maxRecDepth 100000 in
theorem law_FnExactBestPlan (vR : Value) (rR : RS) (w : World) (hRR : SR w vR rR) (hlR : LenSR rR) :
    Calls Try.prog 11 #[vR] w (Ret (.bool true) w) := by
  obtain ⟨AR, cR, rfl, hOR⟩ := hRR
  have HRR : Hid (∀ W', Below w.heap.size w W' → SR W' (.agg #[.slice AR rR.cs.length cR, .int .i64 rR.reach, .int .i64 rR.setup, .int .i64 rR.easy]) rR) := Lib.hid fun W' h => SR.ext (show SR w (.agg #[.slice AR rR.cs.length cR, .int .i64 rR.reach, .int .i64 rR.setup, .int .i64 rR.easy]) rR from ⟨_, _, rfl, hOR⟩) h
  clear hOR
  have HlR := Lib.hid hlR; clear hlR
  have HW : Hid (Below w.heap.size w w) := Lib.hid (ext_refl w)
  go_enter Try.func11, Try.ntmps11
  have hp0 : (0 : Int) ≤ 1048576 := by omega
  have hq0 : (1048576 : Int) ≤ 1048576 := by omega
  go_wp2_with fail
  refine (sz_SR _ rR 1048576 hp0 hq0 _ HlR.out (HRR.out _ (ext_trans HW.out (ext_alloc (ext_refl _) _)))).mono ?_
  rintro e w1 ⟨rfl, hbw1⟩
  have hcw1 : Below w.heap.size w w1 := ext_trans (ext_alloc (ext_refl _) _) hbw1
  have HW_ : Hid (Below w.heap.size w w1) := Lib.hid (ext_trans HW.out hcw1)
  have zw1 := hcw1.size
  clear HW; have HW := HW_; clear HW_
  have yw1 := Below.size hbw1
  simp only [World.size_alloc] at yw1
  have k_aR_0 : ∀ W', Below w1.heap.size w1 W' → W'.cell? ⟨w.heap.size, 0, none⟩ = some (.slice AR rR.cs.length cR) := fun W' h => cell_keep (cell_keep (p := ⟨w.heap.size, 0, none⟩) (v := .slice AR rR.cs.length cR) (by simp [go_sem]) hbw1) h
  have k_aR_1 : ∀ W', Below w1.heap.size w1 W' → W'.cell? ⟨w.heap.size, 1, none⟩ = some (.int .i64 rR.reach) := fun W' h => cell_keep (cell_keep (p := ⟨w.heap.size, 1, none⟩) (v := .int .i64 rR.reach) (by simp [go_sem]) hbw1) h
  have k_aR_2 : ∀ W', Below w1.heap.size w1 W' → W'.cell? ⟨w.heap.size, 2, none⟩ = some (.int .i64 rR.setup) := fun W' h => cell_keep (cell_keep (p := ⟨w.heap.size, 2, none⟩) (v := .int .i64 rR.setup) (by simp [go_sem]) hbw1) h
  have k_aR_3 : ∀ W', Below w1.heap.size w1 W' → W'.cell? ⟨w.heap.size, 3, none⟩ = some (.int .i64 rR.easy) := fun W' h => cell_keep (cell_keep (p := ⟨w.heap.size, 3, none⟩) (v := .int .i64 rR.easy) (by simp [go_sem]) hbw1) h
  have hL : Below w1.heap.size w1 w1 := ext_refl _
  have haL : ∀ o, Below w1.heap.size w1 (w1.alloc o) := fun o => ext_alloc hL o
  clear hbw1 hcw1
  obtain ⟨hqw1, hrw1⟩ := szSR_le rR hq0
  go_wp2_with fail
  · go_ret
    exact ⟨rfl, ext_trans HW.out (ext_refl _)⟩
  have hpw1 : 0 ≤ szSR rR 1048576 := by assumption
  obtain ⟨huR, hsmR⟩ := ok_SR hq0 hpw1
  have SmR := Lib.hid hsmR; clear hsmR
  go_wp2_with fail
  refine (to_SR _ rR _ (HRR.out _ (ext_trans HW.out (ext_refl _))) SmR.out).mono ?_
  rintro e w2 ⟨vw2, rfl, hOw2, hbw2⟩
  go_wp2_with fail
  refine (spec_BestPlan _ rR _ hOw2.rd SmR.out).mono ?_
  rintro e w3 ⟨vw3_0, rfl, hOw3_0, hsmw3_0, hbw3⟩
  have hcw3 : Below w1.heap.size w1 w3 := (ext_trans (ext_trans (ext_refl _) hbw2) hbw3)
  have HW_ : Hid (Below w.heap.size w w3) := Lib.hid (ext_trans HW.out hcw3)
  have zw3 := hcw3.size
  clear HW; have HW := HW_; clear HW_
  replace hL : Below w1.heap.size w1 w3 := ext_trans hL hcw3
  clear haL
  have haL : ∀ o, Below w1.heap.size w1 (w3.alloc o) := fun o => ext_alloc hL o
  clear hcw3 hbw2 hbw3
  clear hOw2
  have HB_w0 : Hid (∀ k, BI (vw3_0) k → w2.heap.size ≤ k ∧ k < w3.heap.size) := Lib.hid hOw3_0.ge
  have HO_w0 := Lib.hid hOw3_0; clear hOw3_0
  have SM_w0 := Lib.hid hsmw3_0; clear hsmw3_0
  go_wp2_with fail
  refine (to_SR _ rR _ (HRR.out _ (ext_trans HW.out (ext_refl _))) SmR.out).mono ?_
  rintro e w4 ⟨vw4, rfl, ⟨Aw4, cw4, rfl, hOw4⟩, hbw4⟩
  have hOO : OSR w4 (w3.heap.size) (.agg #[.slice Aw4 rR.cs.length cw4, .int .i64 rR.reach, .int .i64 rR.setup, .int .i64 rR.easy]) rR := ⟨_, _, rfl, hOw4⟩
  have hcw4 : Below w3.heap.size w3 w4 := ext_trans (ext_refl _) hbw4
  have HW_ : Hid (Below w.heap.size w w4) := Lib.hid (ext_trans HW.out hcw4)
  have zw4 := hcw4.size
  have HO_w0_ := Lib.hid (HO_w0.out.ext hcw4); clear HO_w0; have HO_w0 := HO_w0_; clear HO_w0_
  clear HW; have HW := HW_; clear HW_
  replace hL : Below w1.heap.size w1 w4 := ext_trans hL hcw4
  clear haL
  have haL : ∀ o, Below w1.heap.size w1 (w4.alloc o) := fun o => ext_alloc hL o
  clear hbw4 hcw4
  have HB_x0 : Hid (∀ k, BSR (.agg #[.slice Aw4 rR.cs.length cw4, .int .i64 rR.reach, .int .i64 rR.setup, .int .i64 rR.easy]) k → w3.heap.size ≤ k ∧ k < w4.heap.size) := Lib.hid hOO.ge
  have HO_x0 := Lib.hid hOO; clear hOO
  go_wp2_with fail
  refine (impl_BestPlan _ rR _ ((HO_x0.out.ext (ext_alloc (ext_refl _) _)).rd) SmR.out).mono ?_
  rintro e w5 ⟨vw5_0, rfl, hOw5_0, hsmw5_0, hbw5⟩
  have hcw5 : Below w4.heap.size w4 w5 := (ext_trans (ext_alloc (ext_refl _) _) hbw5)
  have HW_ : Hid (Below w.heap.size w w5) := Lib.hid (ext_trans HW.out hcw5)
  have zw5 := hcw5.size
  have HO_w0_ := Lib.hid (HO_w0.out.ext hcw5); clear HO_w0; have HO_w0 := HO_w0_; clear HO_w0_
  have HO_x0_ := Lib.hid (HO_x0.out.ext hcw5); clear HO_x0; have HO_x0 := HO_x0_; clear HO_x0_
  clear HW; have HW := HW_; clear HW_
  have yw5 := Below.size hbw5
  simp only [World.size_alloc] at yw5
  have k_x0_0 : ∀ W', Below w5.heap.size w5 W' → W'.cell? ⟨w4.heap.size, 0, none⟩ = some (.slice Aw4 rR.cs.length cw4) := fun W' h => cell_keep (cell_keep (p := ⟨w4.heap.size, 0, none⟩) (v := .slice Aw4 rR.cs.length cw4) (by simp [go_sem]) hbw5) h
  have k_x0_1 : ∀ W', Below w5.heap.size w5 W' → W'.cell? ⟨w4.heap.size, 1, none⟩ = some (.int .i64 rR.reach) := fun W' h => cell_keep (cell_keep (p := ⟨w4.heap.size, 1, none⟩) (v := .int .i64 rR.reach) (by simp [go_sem]) hbw5) h
  have k_x0_2 : ∀ W', Below w5.heap.size w5 W' → W'.cell? ⟨w4.heap.size, 2, none⟩ = some (.int .i64 rR.setup) := fun W' h => cell_keep (cell_keep (p := ⟨w4.heap.size, 2, none⟩) (v := .int .i64 rR.setup) (by simp [go_sem]) hbw5) h
  have k_x0_3 : ∀ W', Below w5.heap.size w5 W' → W'.cell? ⟨w4.heap.size, 3, none⟩ = some (.int .i64 rR.easy) := fun W' h => cell_keep (cell_keep (p := ⟨w4.heap.size, 3, none⟩) (v := .int .i64 rR.easy) (by simp [go_sem]) hbw5) h
  replace k_aR_0 : ∀ W', Below w5.heap.size w5 W' → W'.cell? ⟨w.heap.size, 0, none⟩ = some (.slice AR rR.cs.length cR) := fun W' h => k_aR_0 W' (ext_trans (ext_trans hL hcw5) h)
  replace k_aR_1 : ∀ W', Below w5.heap.size w5 W' → W'.cell? ⟨w.heap.size, 1, none⟩ = some (.int .i64 rR.reach) := fun W' h => k_aR_1 W' (ext_trans (ext_trans hL hcw5) h)
  replace k_aR_2 : ∀ W', Below w5.heap.size w5 W' → W'.cell? ⟨w.heap.size, 2, none⟩ = some (.int .i64 rR.setup) := fun W' h => k_aR_2 W' (ext_trans (ext_trans hL hcw5) h)
  replace k_aR_3 : ∀ W', Below w5.heap.size w5 W' → W'.cell? ⟨w.heap.size, 3, none⟩ = some (.int .i64 rR.easy) := fun W' h => k_aR_3 W' (ext_trans (ext_trans hL hcw5) h)
  clear hL haL
  have hL : Below w5.heap.size w5 w5 := ext_refl _
  have haL : ∀ o, Below w5.heap.size w5 (w5.alloc o) := fun o => ext_alloc hL o
  clear hcw5 hbw5
  simp only [World.size_alloc] at hOw5_0
  have HB_g0 : Hid (∀ k, BI (vw5_0) k → w4.heap.size + 1 ≤ k ∧ k < w5.heap.size) := Lib.hid hOw5_0.ge
  have HO_g0 := Lib.hid hOw5_0; clear hOw5_0
  have SM_g0 := Lib.hid hsmw5_0; clear hsmw5_0
  go_wp2_with fail
  refine (eq_I _ _ ((mBestPlan rR).1) _ ((HO_g0.out.ext (ext_refl _)).rd) ((HO_w0.out.ext (ext_refl _)).rd)).mono ?_
  rintro e w6 ⟨rfl, hbw6⟩
  have hcw6 : Below w5.heap.size w5 w6 := ext_trans (ext_refl _) hbw6
  have HW_ : Hid (Below w.heap.size w w6) := Lib.hid (ext_trans HW.out hcw6)
  have zw6 := hcw6.size
  have HO_w0_ := Lib.hid (HO_w0.out.ext hcw6); clear HO_w0; have HO_w0 := HO_w0_; clear HO_w0_
  have HO_x0_ := Lib.hid (HO_x0.out.ext hcw6); clear HO_x0; have HO_x0 := HO_x0_; clear HO_x0_
  have HO_g0_ := Lib.hid (HO_g0.out.ext hcw6); clear HO_g0; have HO_g0 := HO_g0_; clear HO_g0_
  clear HW; have HW := HW_; clear HW_
  replace hL : Below w5.heap.size w5 w6 := ext_trans hL hcw6
  clear haL
  have haL : ∀ o, Below w5.heap.size w5 (w6.alloc o) := fun o => ext_alloc hL o
  clear hbw6 hcw6
  go_wp2_with fail
  go_region_held3 (fun w' => Below w5.heap.size w5 w') (first | exact ext_drew hL | exact ext_trans (by assumption) (by assumption) | assumption)
    (first
      | (go_at_call 15; (have ht := to_SR _ rR _ (HRR.out _ (ext_trans HW.out (ext_drew (ext_refl _)))) SmR.out); (with_reducible refine ht.mono ?_); clear ht; rintro e w7 ⟨vw7, rfl, hOw7, hbw7⟩)
      | (go_at_call 17; (have ht := eq_SR _ _ rR _ ((HO_x0.out.ext (ext_trans (ext_drew (ext_refl _)) hbw7)).rd) hOw7.rd); (with_reducible refine ht.mono ?_); clear ht; rintro e w8 ⟨rfl, hbw8⟩)
      | fail)
  have hcw8 : Below w6.heap.size w6 w8 := (ext_trans (ext_trans (ext_drew (ext_refl _)) hbw7) hbw8)
  have HW_ : Hid (Below w.heap.size w w8) := Lib.hid (ext_trans HW.out hcw8)
  have zw8 := hcw8.size
  have HO_w0_ := Lib.hid (HO_w0.out.ext hcw8); clear HO_w0; have HO_w0 := HO_w0_; clear HO_w0_
  have HO_x0_ := Lib.hid (HO_x0.out.ext hcw8); clear HO_x0; have HO_x0 := HO_x0_; clear HO_x0_
  have HO_g0_ := Lib.hid (HO_g0.out.ext hcw8); clear HO_g0; have HO_g0 := HO_g0_; clear HO_g0_
  clear HW; have HW := HW_; clear HW_
  replace hL : Below w5.heap.size w5 w8 := ext_trans hL hcw8
  clear haL
  have haL : ∀ o, Below w5.heap.size w5 (w8.alloc o) := fun o => ext_alloc hL o
  clear hcw8 hbw7 hbw8
  clear hOw7
  go_wp2_with fail
  refine (mark_SR _ _ rR 1 (by omega) (by first | omega | (have q_R := SmR.out; unfold SmSR at q_R; have q_w0 := SM_w0.out; unfold SmI at q_w0; have q_g0 := SM_g0.out; unfold SmI at q_g0; omega)) _ SmR.out (HO_x0.out.ext (ext_refl _))).mono ?_
  rintro e w9 ⟨rfl, hOw9, hgw9⟩
  have zw9 := hgw9.size
  have HW_ : Hid (Below w.heap.size w w9) := Lib.hid (Chg.ext (ext_trans HW.out (ext_refl _)) hgw9 (fun k hk => by have := HB_x0.out k hk; omega)); clear HW; have HW := HW_; clear HW_
  have HO_w0_ := Lib.hid ((HO_w0.out.ext (ext_refl _)).chg hgw9 (fun k hk hs => by have h1 := HB_w0.out k hk; have h2 := HB_x0.out k hs; omega)); clear HO_w0; have HO_w0 := HO_w0_; clear HO_w0_
  have HO_g0_ := Lib.hid ((HO_g0.out.ext (ext_refl _)).chg hgw9 (fun k hk hs => by have h1 := HB_g0.out k hk; have h2 := HB_x0.out k hs; omega)); clear HO_g0; have HO_g0 := HO_g0_; clear HO_g0_
  clear HO_x0; have HO_x0 := Lib.hid hOw9; clear hOw9
  replace k_aR_0 : ∀ W', Below w9.heap.size w9 W' → W'.cell? ⟨w.heap.size, 0, none⟩ = some (.slice AR rR.cs.length cR) := fun W' h => cell_keep (hgw9.cell (p := ⟨w.heap.size, 0, none⟩) (k_aR_0 _ hL) (fun hs => by have h2 := HB_x0.out (w.heap.size) hs; omega)) h
  replace k_aR_1 : ∀ W', Below w9.heap.size w9 W' → W'.cell? ⟨w.heap.size, 1, none⟩ = some (.int .i64 rR.reach) := fun W' h => cell_keep (hgw9.cell (p := ⟨w.heap.size, 1, none⟩) (k_aR_1 _ hL) (fun hs => by have h2 := HB_x0.out (w.heap.size) hs; omega)) h
  replace k_aR_2 : ∀ W', Below w9.heap.size w9 W' → W'.cell? ⟨w.heap.size, 2, none⟩ = some (.int .i64 rR.setup) := fun W' h => cell_keep (hgw9.cell (p := ⟨w.heap.size, 2, none⟩) (k_aR_2 _ hL) (fun hs => by have h2 := HB_x0.out (w.heap.size) hs; omega)) h
  replace k_aR_3 : ∀ W', Below w9.heap.size w9 W' → W'.cell? ⟨w.heap.size, 3, none⟩ = some (.int .i64 rR.easy) := fun W' h => cell_keep (hgw9.cell (p := ⟨w.heap.size, 3, none⟩) (k_aR_3 _ hL) (fun hs => by have h2 := HB_x0.out (w.heap.size) hs; omega)) h
  replace k_x0_0 : ∀ W', Below w9.heap.size w9 W' → W'.cell? ⟨w4.heap.size, 0, none⟩ = some (.slice Aw4 rR.cs.length cw4) := fun W' h => cell_keep (hgw9.cell (p := ⟨w4.heap.size, 0, none⟩) (k_x0_0 _ hL) (fun hs => by have h2 := HB_x0.out (w4.heap.size) hs; omega)) h
  replace k_x0_1 : ∀ W', Below w9.heap.size w9 W' → W'.cell? ⟨w4.heap.size, 1, none⟩ = some (.int .i64 rR.reach) := fun W' h => cell_keep (hgw9.cell (p := ⟨w4.heap.size, 1, none⟩) (k_x0_1 _ hL) (fun hs => by have h2 := HB_x0.out (w4.heap.size) hs; omega)) h
  replace k_x0_2 : ∀ W', Below w9.heap.size w9 W' → W'.cell? ⟨w4.heap.size, 2, none⟩ = some (.int .i64 rR.setup) := fun W' h => cell_keep (hgw9.cell (p := ⟨w4.heap.size, 2, none⟩) (k_x0_2 _ hL) (fun hs => by have h2 := HB_x0.out (w4.heap.size) hs; omega)) h
  replace k_x0_3 : ∀ W', Below w9.heap.size w9 W' → W'.cell? ⟨w4.heap.size, 3, none⟩ = some (.int .i64 rR.easy) := fun W' h => cell_keep (hgw9.cell (p := ⟨w4.heap.size, 3, none⟩) (k_x0_3 _ hL) (fun hs => by have h2 := HB_x0.out (w4.heap.size) hs; omega)) h
  clear hL haL
  have hL : Below w9.heap.size w9 w9 := ext_refl _
  have haL : ∀ o, Below w9.heap.size w9 (w9.alloc o) := fun o => ext_alloc hL o
  clear hgw9
  go_wp2_with fail
  refine (eq_I _ _ ((mBestPlan rR).1) _ ((HO_g0.out.ext (ext_refl _)).rd) ((HO_w0.out.ext (ext_refl _)).rd)).mono ?_
  rintro e w10 ⟨rfl, hbw10⟩
  have hcw10 : Below w9.heap.size w9 w10 := ext_trans (ext_refl _) hbw10
  have HW_ : Hid (Below w.heap.size w w10) := Lib.hid (ext_trans HW.out hcw10)
  have zw10 := hcw10.size
  have HO_w0_ := Lib.hid (HO_w0.out.ext hcw10); clear HO_w0; have HO_w0 := HO_w0_; clear HO_w0_
  have HO_x0_ := Lib.hid (HO_x0.out.ext hcw10); clear HO_x0; have HO_x0 := HO_x0_; clear HO_x0_
  have HO_g0_ := Lib.hid (HO_g0.out.ext hcw10); clear HO_g0; have HO_g0 := HO_g0_; clear HO_g0_
  clear HW; have HW := HW_; clear HW_
  replace hL : Below w9.heap.size w9 w10 := ext_trans hL hcw10
  clear haL
  have haL : ∀ o, Below w9.heap.size w9 (w10.alloc o) := fun o => ext_alloc hL o
  clear hbw10 hcw10
  go_wp2_with fail
  refine (mark_I _ _ ((mBestPlan rR).1) 1 (by omega) (by first | omega | (have q_R := SmR.out; unfold SmSR at q_R; have q_w0 := SM_w0.out; unfold SmI at q_w0; have q_g0 := SM_g0.out; unfold SmI at q_g0; omega)) _ SM_g0.out (HO_g0.out.ext (ext_refl _))).mono ?_
  rintro e w11 ⟨rfl, hOw11, hgw11⟩
  have zw11 := hgw11.size
  have HW_ : Hid (Below w.heap.size w w11) := Lib.hid (Chg.ext (ext_trans HW.out (ext_refl _)) hgw11 (fun k hk => by have := HB_g0.out k hk; omega)); clear HW; have HW := HW_; clear HW_
  have HO_w0_ := Lib.hid ((HO_w0.out.ext (ext_refl _)).chg hgw11 (fun k hk hs => by have h1 := HB_w0.out k hk; have h2 := HB_g0.out k hs; omega)); clear HO_w0; have HO_w0 := HO_w0_; clear HO_w0_
  have HO_x0_ := Lib.hid ((HO_x0.out.ext (ext_refl _)).chg hgw11 (fun k hk hs => by have h1 := HB_x0.out k hk; have h2 := HB_g0.out k hs; omega)); clear HO_x0; have HO_x0 := HO_x0_; clear HO_x0_
  clear HO_g0; have HO_g0 := Lib.hid hOw11; clear hOw11
  replace k_aR_0 : ∀ W', Below w11.heap.size w11 W' → W'.cell? ⟨w.heap.size, 0, none⟩ = some (.slice AR rR.cs.length cR) := fun W' h => cell_keep (hgw11.cell (p := ⟨w.heap.size, 0, none⟩) (k_aR_0 _ hL) (fun hs => by have h2 := HB_g0.out (w.heap.size) hs; omega)) h
  replace k_aR_1 : ∀ W', Below w11.heap.size w11 W' → W'.cell? ⟨w.heap.size, 1, none⟩ = some (.int .i64 rR.reach) := fun W' h => cell_keep (hgw11.cell (p := ⟨w.heap.size, 1, none⟩) (k_aR_1 _ hL) (fun hs => by have h2 := HB_g0.out (w.heap.size) hs; omega)) h
  replace k_aR_2 : ∀ W', Below w11.heap.size w11 W' → W'.cell? ⟨w.heap.size, 2, none⟩ = some (.int .i64 rR.setup) := fun W' h => cell_keep (hgw11.cell (p := ⟨w.heap.size, 2, none⟩) (k_aR_2 _ hL) (fun hs => by have h2 := HB_g0.out (w.heap.size) hs; omega)) h
  replace k_aR_3 : ∀ W', Below w11.heap.size w11 W' → W'.cell? ⟨w.heap.size, 3, none⟩ = some (.int .i64 rR.easy) := fun W' h => cell_keep (hgw11.cell (p := ⟨w.heap.size, 3, none⟩) (k_aR_3 _ hL) (fun hs => by have h2 := HB_g0.out (w.heap.size) hs; omega)) h
  replace k_x0_0 : ∀ W', Below w11.heap.size w11 W' → W'.cell? ⟨w4.heap.size, 0, none⟩ = some (.slice Aw4 rR.cs.length cw4) := fun W' h => cell_keep (hgw11.cell (p := ⟨w4.heap.size, 0, none⟩) (k_x0_0 _ hL) (fun hs => by have h2 := HB_g0.out (w4.heap.size) hs; omega)) h
  replace k_x0_1 : ∀ W', Below w11.heap.size w11 W' → W'.cell? ⟨w4.heap.size, 1, none⟩ = some (.int .i64 rR.reach) := fun W' h => cell_keep (hgw11.cell (p := ⟨w4.heap.size, 1, none⟩) (k_x0_1 _ hL) (fun hs => by have h2 := HB_g0.out (w4.heap.size) hs; omega)) h
  replace k_x0_2 : ∀ W', Below w11.heap.size w11 W' → W'.cell? ⟨w4.heap.size, 2, none⟩ = some (.int .i64 rR.setup) := fun W' h => cell_keep (hgw11.cell (p := ⟨w4.heap.size, 2, none⟩) (k_x0_2 _ hL) (fun hs => by have h2 := HB_g0.out (w4.heap.size) hs; omega)) h
  replace k_x0_3 : ∀ W', Below w11.heap.size w11 W' → W'.cell? ⟨w4.heap.size, 3, none⟩ = some (.int .i64 rR.easy) := fun W' h => cell_keep (hgw11.cell (p := ⟨w4.heap.size, 3, none⟩) (k_x0_3 _ hL) (fun hs => by have h2 := HB_g0.out (w4.heap.size) hs; omega)) h
  clear hL haL
  have hL : Below w11.heap.size w11 w11 := ext_refl _
  have haL : ∀ o, Below w11.heap.size w11 (w11.alloc o) := fun o => ext_alloc hL o
  clear hgw11
  go_wp2_with fail
  refine (held_I _ ((mBestPlan rR).1) 1 (by omega) (by first | omega | (have q_R := SmR.out; unfold SmSR at q_R; have q_w0 := SM_w0.out; unfold SmI at q_w0; have q_g0 := SM_g0.out; unfold SmI at q_g0; omega)) _ SM_g0.out ((HO_g0.out.ext (ext_refl _)).rd)).mono ?_
  rintro e w12 ⟨rfl, hbw12⟩
  have hcw12 : Below w11.heap.size w11 w12 := ext_trans (ext_refl _) hbw12
  have HW_ : Hid (Below w.heap.size w w12) := Lib.hid (ext_trans HW.out hcw12)
  have zw12 := hcw12.size
  have HO_w0_ := Lib.hid (HO_w0.out.ext hcw12); clear HO_w0; have HO_w0 := HO_w0_; clear HO_w0_
  have HO_x0_ := Lib.hid (HO_x0.out.ext hcw12); clear HO_x0; have HO_x0 := HO_x0_; clear HO_x0_
  have HO_g0_ := Lib.hid (HO_g0.out.ext hcw12); clear HO_g0; have HO_g0 := HO_g0_; clear HO_g0_
  clear HW; have HW := HW_; clear HW_
  replace hL : Below w11.heap.size w11 w12 := ext_trans hL hcw12
  clear haL
  have haL : ∀ o, Below w11.heap.size w11 (w12.alloc o) := fun o => ext_alloc hL o
  clear hbw12 hcw12
  go_wp2_with fail
  refine (to_SR _ rR _ (HRR.out _ (ext_trans HW.out (ext_refl _))) SmR.out).mono ?_
  rintro e w13 ⟨vw13, rfl, hOw13, hbw13⟩
  go_wp2_with fail
  refine (impl_BestPlan _ rR _ hOw13.rd SmR.out).mono ?_
  rintro e w14 ⟨vw14_0, rfl, hOw14_0, hsmw14_0, hbw14⟩
  have hcw14 : Below w12.heap.size w12 w14 := (ext_trans (ext_trans (ext_refl _) hbw13) hbw14)
  have HW_ : Hid (Below w.heap.size w w14) := Lib.hid (ext_trans HW.out hcw14)
  have zw14 := hcw14.size
  have HO_w0_ := Lib.hid (HO_w0.out.ext hcw14); clear HO_w0; have HO_w0 := HO_w0_; clear HO_w0_
  have HO_x0_ := Lib.hid (HO_x0.out.ext hcw14); clear HO_x0; have HO_x0 := HO_x0_; clear HO_x0_
  have HO_g0_ := Lib.hid (HO_g0.out.ext hcw14); clear HO_g0; have HO_g0 := HO_g0_; clear HO_g0_
  clear HW; have HW := HW_; clear HW_
  replace hL : Below w11.heap.size w11 w14 := ext_trans hL hcw14
  clear haL
  have haL : ∀ o, Below w11.heap.size w11 (w14.alloc o) := fun o => ext_alloc hL o
  clear hcw14 hbw13 hbw14
  clear hOw13
  have HB_h0 : Hid (∀ k, BI (vw14_0) k → w13.heap.size ≤ k ∧ k < w14.heap.size) := Lib.hid hOw14_0.ge
  have HO_h0 := Lib.hid hOw14_0; clear hOw14_0
  have SM_h0 := Lib.hid hsmw14_0; clear hsmw14_0
  go_wp2_with fail
  refine (eq_I _ _ ((mBestPlan rR).1) _ ((HO_h0.out.ext (ext_refl _)).rd) ((HO_w0.out.ext (ext_refl _)).rd)).mono ?_
  rintro e w15 ⟨rfl, hbw15⟩
  have hcw15 : Below w14.heap.size w14 w15 := ext_trans (ext_refl _) hbw15
  have HW_ : Hid (Below w.heap.size w w15) := Lib.hid (ext_trans HW.out hcw15)
  have zw15 := hcw15.size
  have HO_w0_ := Lib.hid (HO_w0.out.ext hcw15); clear HO_w0; have HO_w0 := HO_w0_; clear HO_w0_
  have HO_x0_ := Lib.hid (HO_x0.out.ext hcw15); clear HO_x0; have HO_x0 := HO_x0_; clear HO_x0_
  have HO_g0_ := Lib.hid (HO_g0.out.ext hcw15); clear HO_g0; have HO_g0 := HO_g0_; clear HO_g0_
  have HO_h0_ := Lib.hid (HO_h0.out.ext hcw15); clear HO_h0; have HO_h0 := HO_h0_; clear HO_h0_
  clear HW; have HW := HW_; clear HW_
  replace hL : Below w11.heap.size w11 w15 := ext_trans hL hcw15
  clear haL
  have haL : ∀ o, Below w11.heap.size w11 (w15.alloc o) := fun o => ext_alloc hL o
  clear hbw15 hcw15
  go_wp2_with fail
  refine (held_I _ ((mBestPlan rR).1) 1 (by omega) (by first | omega | (have q_R := SmR.out; unfold SmSR at q_R; have q_w0 := SM_w0.out; unfold SmI at q_w0; have q_g0 := SM_g0.out; unfold SmI at q_g0; have q_h0 := SM_h0.out; unfold SmI at q_h0; omega)) _ SM_g0.out ((HO_g0.out.ext (ext_refl _)).rd)).mono ?_
  rintro e w16 ⟨rfl, hbw16⟩
  have hcw16 : Below w15.heap.size w15 w16 := ext_trans (ext_refl _) hbw16
  have HW_ : Hid (Below w.heap.size w w16) := Lib.hid (ext_trans HW.out hcw16)
  have zw16 := hcw16.size
  have HO_w0_ := Lib.hid (HO_w0.out.ext hcw16); clear HO_w0; have HO_w0 := HO_w0_; clear HO_w0_
  have HO_x0_ := Lib.hid (HO_x0.out.ext hcw16); clear HO_x0; have HO_x0 := HO_x0_; clear HO_x0_
  have HO_g0_ := Lib.hid (HO_g0.out.ext hcw16); clear HO_g0; have HO_g0 := HO_g0_; clear HO_g0_
  have HO_h0_ := Lib.hid (HO_h0.out.ext hcw16); clear HO_h0; have HO_h0 := HO_h0_; clear HO_h0_
  clear HW; have HW := HW_; clear HW_
  replace hL : Below w11.heap.size w11 w16 := ext_trans hL hcw16
  clear haL
  have haL : ∀ o, Below w11.heap.size w11 (w16.alloc o) := fun o => ext_alloc hL o
  clear hbw16 hcw16
  go_wp2_with fail
  go_ret
  exact ⟨rfl, ext_trans HW.out (ext_refl _)⟩

theorem rd_FnExactBestPlan : ∀ t ∈ Try.f11.params.toList, Try.prog.readableRec t = true ∧ t < Try.prog.types.size := by
  have h : Try.f11.params.toList.all (fun t => Try.prog.readableRec t && decide (t < Try.prog.types.size)) = true := by kernel_rfl
  intro t ht
  have := List.all_eq_true.1 h t ht
  simpa using this

set_option maxRecDepth 100000 in
theorem lifted_FnExactBestPlan (os : Os) (started : os.Started) (H : Type) (enc : TypeId × Value → H) :
    ReturnsInHanded {} Try.checked os 11 .any (Rows.fnExactBestPlanSpec.pre6 enc Try.prog Try.f11 Rows.fnExactBestPlanRow.domain false) (Rows.fnExactBestPlanSpec.post enc Try.prog Try.f11 false true false false) := by
  refine returnsInHanded_of_change (C := Try.checked) own_knob started (by kernel_rfl) Try.func11
    (ChangeSpec.witness6 (enc := enc) (C := Try.checked) false ⟨#[], #[.agg #[.slice none 0 0, .int .i64 0, .int .i64 0, .int .i64 0]], []⟩ 8 (by kernel_rfl) (by kernel_rfl) (by kernel_rfl) (by kernel_rfl)) ?_
  intro W base args ds gs before hval0 hW hcnd _
  have hval : ∀ (j : Nat) t v, Try.f11.params[j]? = some t → args[j]? = some v → Value.okWide Try.prog W .any base t v := hval0
  have hW' : DataW.Whole enc Try.prog Try.f11.params.toList (Rows.fnExactBestPlanSpec).vars false W args.toList ds gs before := hW
  obtain ⟨p, q, hA0, hV, _, hfz, hnd⟩ := hW
  have hA : DataW.TrodAll enc Try.prog W 0 (fun _ => true) true Try.f11.params.toList args.toList ds p := hA0
  rw [Try.params11] at hA hval
  obtain ⟨v0, vs0, d0, ds0, p0, q0, ha0, hd0, hp0, h0, rr0⟩ := trodAll_cons hA
  subst hd0 hp0
  obtain ⟨e1, e2, e3⟩ := trodAll_nil rr0
  subst e1 e2 e3
  obtain rfl : args = #[v0] := by cases args; simp_all
  obtain ⟨rfl, rfl⟩ := trodVars_none hV
  obtain ⟨r0, hR0, hl0⟩ := open_SR (hval 0 24 v0 rfl rfl) h0
  clear hA0 hval0
  refine (law_FnExactBestPlan v0 r0 W hR0 hl0).mono fun e W' ⟨he, hb⟩ => ?_
  subst he
  exact ⟨_, rfl, law_post rd_FnExactBestPlan rfl rfl hW' rfl hb⟩

theorem holds_FnExactBestPlan : Rows.FnExactBestPlanSaid :=
  OpenClaim.holds_of_wide 11 Try.f11 rfl rfl rfl rfl rfl rfl rfl ⟨rfl, rfl, rfl, rfl, rfl⟩ rfl rfl rfl rfl rfl (by kernel_rfl) Try.func11 (by kernel_rfl)
    (of_decide_eq_true (by kernel_rfl)) (by unfold Func.isWrapper; first | (rw [if_pos (by decide +kernel)]; kernel_rfl) | (rw [if_neg (by decide +kernel)]; exact ⟨rfl, rfl⟩))
    (fun os started H enc _ => lifted_FnExactBestPlan os started H enc)


end Go.Proofs.Ytahcdofikfookaa
