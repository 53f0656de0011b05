/-
  The law FnExactPlatformHeights: the program answers as the reference, for all arguments; no condition. The walk and the row; printed by genlaw.py and genrow.py.
-/
import Derived.Test.YtahcdofikfookaaLifts7
import Derived.Test.YtahcdofikfookaaRowRise
import Derived.Test.YtahcdofikfookaaRowI
import Derived.ChangeMaps5
import Derived.Deep.RegionHeld3
import Derived.Deep.DrawnRows
namespace Go.Proofs.Ytahcdofikfookaa
open Go.ChangeShapes Go.WideShapes Go.ChangeAt Go.RowKit Go.Sort
set_option linter.unusedVariables false
attribute [local go_sem ↓] Go.wp_at_zero Go.wp_at_succ

set_option maxHeartbeats 2000000 in
set_option maxRecDepth 100000 in
theorem law_FnExactPlatformHeights (vR : Value) (rR : RS) (vPlan : Value) (xPlan : List Int) (w : World) (hRR : SR w vR rR) (hlR : LenSR rR) (hRPlan : RI w vPlan xPlan) (hlPlan : LenI xPlan) :
    Calls Try.prog 12 #[vR, vPlan] w (Ret (.bool true) w) := by
  obtain ⟨AR, cR, rfl, hOR⟩ := hRR
  have HRR : Hid (∀ W', Below w.heap.size w W' → SR W' (.agg #[.slice AR rR.cs.length cR, .int .i64 rR.reach, .int .i64 rR.setup, .int .i64 rR.easy]) rR) := Lib.hid fun W' h => SR.ext (show SR w (.agg #[.slice AR rR.cs.length cR, .int .i64 rR.reach, .int .i64 rR.setup, .int .i64 rR.easy]) rR from ⟨_, _, rfl, hOR⟩) h
  clear hOR
  have HlR := Lib.hid hlR; clear hlR
  obtain ⟨APlan, cPlan, hvPlan⟩ : ∃ A c, vPlan = .slice A xPlan.length c := by obtain ⟨_, A, c, h, _⟩ := hRPlan; exact ⟨A, c, h⟩
  subst hvPlan
  have HRPlan : Hid (∀ W', Below w.heap.size w W' → RI W' (.slice APlan xPlan.length cPlan) xPlan) := Lib.hid fun W' h => hRPlan.ext h; clear hRPlan
  have HlPlan := Lib.hid hlPlan; clear hlPlan
  have HW : Hid (Below w.heap.size w w) := Lib.hid (ext_refl w)
  go_enter Try.func12, Try.ntmps12
  go_wp2_with fail
  · go_ret
    exact ⟨rfl, ext_trans HW.out (ext_alloc (ext_refl _) _)⟩
  have hlenPlan : (xPlan.length : Int) ≤ 1048576 := by first | assumption | omega
  have SmPlan : Hid (SmI xPlan) := Lib.hid (by unfold SmI; omega)
  have hp0 : (0 : Int) ≤ 1048576 := by omega
  have hq0 : (1048576 : Int) ≤ 1048576 := by omega
  go_wp2_with fail
  refine (sz_SR _ rR 1048576 hp0 hq0 _ HlR.out (HRR.out _ (ext_trans HW.out (ext_alloc (ext_refl _) _)))).mono ?_
  rintro e w1 ⟨rfl, hbw1⟩
  have hcw1 : Below w.heap.size w w1 := ext_trans (ext_alloc (ext_refl _) _) hbw1
  have HW_ : Hid (Below w.heap.size w w1) := Lib.hid (ext_trans HW.out hcw1)
  have zw1 := hcw1.size
  clear HW; have HW := HW_; clear HW_
  have yw1 := Below.size hbw1
  simp only [World.size_alloc] at yw1
  have k_aR_0 : ∀ W', Below w1.heap.size w1 W' → W'.cell? ⟨w.heap.size, 0, none⟩ = some (.slice AR rR.cs.length cR) := fun W' h => cell_keep (cell_keep (p := ⟨w.heap.size, 0, none⟩) (v := .slice AR rR.cs.length cR) (by simp [go_sem]) hbw1) h
  have k_aR_1 : ∀ W', Below w1.heap.size w1 W' → W'.cell? ⟨w.heap.size, 1, none⟩ = some (.int .i64 rR.reach) := fun W' h => cell_keep (cell_keep (p := ⟨w.heap.size, 1, none⟩) (v := .int .i64 rR.reach) (by simp [go_sem]) hbw1) h
  have k_aR_2 : ∀ W', Below w1.heap.size w1 W' → W'.cell? ⟨w.heap.size, 2, none⟩ = some (.int .i64 rR.setup) := fun W' h => cell_keep (cell_keep (p := ⟨w.heap.size, 2, none⟩) (v := .int .i64 rR.setup) (by simp [go_sem]) hbw1) h
  have k_aR_3 : ∀ W', Below w1.heap.size w1 W' → W'.cell? ⟨w.heap.size, 3, none⟩ = some (.int .i64 rR.easy) := fun W' h => cell_keep (cell_keep (p := ⟨w.heap.size, 3, none⟩) (v := .int .i64 rR.easy) (by simp [go_sem]) hbw1) h
  have hL : Below w1.heap.size w1 w1 := ext_refl _
  have haL : ∀ o, Below w1.heap.size w1 (w1.alloc o) := fun o => ext_alloc hL o
  clear hbw1 hcw1
  obtain ⟨hqw1, hrw1⟩ := szSR_le rR hq0
  go_wp2_with fail
  · go_ret
    exact ⟨rfl, ext_trans HW.out (ext_refl _)⟩
  have hpw1 : 0 ≤ szSR rR 1048576 := by assumption
  obtain ⟨huR, hsmR⟩ := ok_SR hq0 hpw1
  have SmR := Lib.hid hsmR; clear hsmR
  go_wp2_with fail
  refine (to_SR _ rR _ (HRR.out _ (ext_trans HW.out (ext_refl _))) SmR.out).mono ?_
  rintro e w2 ⟨vw2, rfl, hOw2, hbw2⟩
  go_wp2_with fail
  refine (to_I _ xPlan _ (HRPlan.out _ (ext_trans HW.out (ext_trans (ext_refl _) hbw2))) SmPlan.out).mono ?_
  rintro e w3 ⟨Aw3, cw3, rfl, hOw3, hbw3⟩
  go_wp2_with fail
  refine (spec_PlatformHeights _ rR _ xPlan _ (hOw2.ext hbw3).rd SmR.out hOw3.rd SmPlan.out).mono ?_
  rintro e w4 ⟨vw4_0, rfl, hOw4_0, hsmw4_0, hbw4⟩
  have hcw4 : Below w1.heap.size w1 w4 := (ext_trans (ext_trans (ext_trans (ext_refl _) hbw2) hbw3) hbw4)
  have HW_ : Hid (Below w.heap.size w w4) := Lib.hid (ext_trans HW.out hcw4)
  have zw4 := hcw4.size
  clear HW; have HW := HW_; clear HW_
  replace hL : Below w1.heap.size w1 w4 := ext_trans hL hcw4
  clear haL
  have haL : ∀ o, Below w1.heap.size w1 (w4.alloc o) := fun o => ext_alloc hL o
  clear hcw4 hbw2 hbw3 hbw4
  clear hOw2 hOw3
  have HB_w0 : Hid (∀ k, BI (vw4_0) k → w3.heap.size ≤ k ∧ k < w4.heap.size) := Lib.hid hOw4_0.ge
  have HO_w0 := Lib.hid hOw4_0; clear hOw4_0
  have SM_w0 := Lib.hid hsmw4_0; clear hsmw4_0
  go_wp2_with fail
  refine (to_SR _ rR _ (HRR.out _ (ext_trans HW.out (ext_refl _))) SmR.out).mono ?_
  rintro e w5 ⟨vw5, rfl, ⟨Aw5, cw5, rfl, hOw5⟩, hbw5⟩
  have hOO : OSR w5 (w4.heap.size) (.agg #[.slice Aw5 rR.cs.length cw5, .int .i64 rR.reach, .int .i64 rR.setup, .int .i64 rR.easy]) rR := ⟨_, _, rfl, hOw5⟩
  have hcw5 : Below w4.heap.size w4 w5 := ext_trans (ext_refl _) hbw5
  have HW_ : Hid (Below w.heap.size w w5) := Lib.hid (ext_trans HW.out hcw5)
  have zw5 := hcw5.size
  have HO_w0_ := Lib.hid (HO_w0.out.ext hcw5); clear HO_w0; have HO_w0 := HO_w0_; clear HO_w0_
  clear HW; have HW := HW_; clear HW_
  replace hL : Below w1.heap.size w1 w5 := ext_trans hL hcw5
  clear haL
  have haL : ∀ o, Below w1.heap.size w1 (w5.alloc o) := fun o => ext_alloc hL o
  clear hbw5 hcw5
  have HB_x0 : Hid (∀ k, BSR (.agg #[.slice Aw5 rR.cs.length cw5, .int .i64 rR.reach, .int .i64 rR.setup, .int .i64 rR.easy]) k → w4.heap.size ≤ k ∧ k < w5.heap.size) := Lib.hid hOO.ge
  have HO_x0 := Lib.hid hOO; clear hOO
  go_wp2_with fail
  refine (to_I _ xPlan _ (HRPlan.out _ (ext_trans HW.out (ext_alloc (ext_refl _) _))) SmPlan.out).mono ?_
  rintro e w6 ⟨Aw6, cw6, rfl, hOw6, hbw6⟩
  have hOO : OI w6 (w5.heap.size + 1) (.slice Aw6 xPlan.length cw6) xPlan := by simpa only [World.size_alloc] using hOw6
  have hcw6 : Below w5.heap.size w5 w6 := ext_trans (ext_alloc (ext_refl _) _) hbw6
  have HW_ : Hid (Below w.heap.size w w6) := Lib.hid (ext_trans HW.out hcw6)
  have zw6 := hcw6.size
  have HO_w0_ := Lib.hid (HO_w0.out.ext hcw6); clear HO_w0; have HO_w0 := HO_w0_; clear HO_w0_
  have HO_x0_ := Lib.hid (HO_x0.out.ext hcw6); clear HO_x0; have HO_x0 := HO_x0_; clear HO_x0_
  clear HW; have HW := HW_; clear HW_
  have yw6 := Below.size hbw6
  simp only [World.size_alloc] at yw6
  have k_x0_0 : ∀ W', Below w6.heap.size w6 W' → W'.cell? ⟨w5.heap.size, 0, none⟩ = some (.slice Aw5 rR.cs.length cw5) := fun W' h => cell_keep (cell_keep (p := ⟨w5.heap.size, 0, none⟩) (v := .slice Aw5 rR.cs.length cw5) (by simp [go_sem]) hbw6) h
  have k_x0_1 : ∀ W', Below w6.heap.size w6 W' → W'.cell? ⟨w5.heap.size, 1, none⟩ = some (.int .i64 rR.reach) := fun W' h => cell_keep (cell_keep (p := ⟨w5.heap.size, 1, none⟩) (v := .int .i64 rR.reach) (by simp [go_sem]) hbw6) h
  have k_x0_2 : ∀ W', Below w6.heap.size w6 W' → W'.cell? ⟨w5.heap.size, 2, none⟩ = some (.int .i64 rR.setup) := fun W' h => cell_keep (cell_keep (p := ⟨w5.heap.size, 2, none⟩) (v := .int .i64 rR.setup) (by simp [go_sem]) hbw6) h
  have k_x0_3 : ∀ W', Below w6.heap.size w6 W' → W'.cell? ⟨w5.heap.size, 3, none⟩ = some (.int .i64 rR.easy) := fun W' h => cell_keep (cell_keep (p := ⟨w5.heap.size, 3, none⟩) (v := .int .i64 rR.easy) (by simp [go_sem]) hbw6) h
  replace k_aR_0 : ∀ W', Below w6.heap.size w6 W' → W'.cell? ⟨w.heap.size, 0, none⟩ = some (.slice AR rR.cs.length cR) := fun W' h => k_aR_0 W' (ext_trans (ext_trans hL hcw6) h)
  replace k_aR_1 : ∀ W', Below w6.heap.size w6 W' → W'.cell? ⟨w.heap.size, 1, none⟩ = some (.int .i64 rR.reach) := fun W' h => k_aR_1 W' (ext_trans (ext_trans hL hcw6) h)
  replace k_aR_2 : ∀ W', Below w6.heap.size w6 W' → W'.cell? ⟨w.heap.size, 2, none⟩ = some (.int .i64 rR.setup) := fun W' h => k_aR_2 W' (ext_trans (ext_trans hL hcw6) h)
  replace k_aR_3 : ∀ W', Below w6.heap.size w6 W' → W'.cell? ⟨w.heap.size, 3, none⟩ = some (.int .i64 rR.easy) := fun W' h => k_aR_3 W' (ext_trans (ext_trans hL hcw6) h)
  clear hL haL
  have hL : Below w6.heap.size w6 w6 := ext_refl _
  have haL : ∀ o, Below w6.heap.size w6 (w6.alloc o) := fun o => ext_alloc hL o
  clear hbw6 hcw6
  have HB_x1 : Hid (∀ k, BI (.slice Aw6 xPlan.length cw6) k → w5.heap.size + 1 ≤ k ∧ k < w6.heap.size) := Lib.hid hOO.ge
  have HO_x1 := Lib.hid hOO; clear hOO
  go_wp2_with fail
  refine (impl_PlatformHeights _ rR _ xPlan _ ((HO_x0.out.ext (ext_refl _)).rd) SmR.out ((HO_x1.out.ext (ext_refl _)).rd) SmPlan.out).mono ?_
  rintro e w7 ⟨vw7_0, rfl, hOw7_0, hsmw7_0, hbw7⟩
  have hcw7 : Below w6.heap.size w6 w7 := (ext_trans (ext_refl _) hbw7)
  have HW_ : Hid (Below w.heap.size w w7) := Lib.hid (ext_trans HW.out hcw7)
  have zw7 := hcw7.size
  have HO_w0_ := Lib.hid (HO_w0.out.ext hcw7); clear HO_w0; have HO_w0 := HO_w0_; clear HO_w0_
  have HO_x0_ := Lib.hid (HO_x0.out.ext hcw7); clear HO_x0; have HO_x0 := HO_x0_; clear HO_x0_
  have HO_x1_ := Lib.hid (HO_x1.out.ext hcw7); clear HO_x1; have HO_x1 := HO_x1_; clear HO_x1_
  clear HW; have HW := HW_; clear HW_
  replace hL : Below w6.heap.size w6 w7 := ext_trans hL hcw7
  clear haL
  have haL : ∀ o, Below w6.heap.size w6 (w7.alloc o) := fun o => ext_alloc hL o
  clear hcw7 hbw7
  have HB_g0 : Hid (∀ k, BI (vw7_0) k → w6.heap.size ≤ k ∧ k < w7.heap.size) := Lib.hid hOw7_0.ge
  have HO_g0 := Lib.hid hOw7_0; clear hOw7_0
  have SM_g0 := Lib.hid hsmw7_0; clear hsmw7_0
  go_wp2_with fail
  refine (eq_I _ _ ((mPlatformHeights rR xPlan).1) _ ((HO_g0.out.ext (ext_refl _)).rd) ((HO_w0.out.ext (ext_refl _)).rd)).mono ?_
  rintro e w8 ⟨rfl, hbw8⟩
  have hcw8 : Below w7.heap.size w7 w8 := ext_trans (ext_refl _) hbw8
  have HW_ : Hid (Below w.heap.size w w8) := Lib.hid (ext_trans HW.out hcw8)
  have zw8 := hcw8.size
  have HO_w0_ := Lib.hid (HO_w0.out.ext hcw8); clear HO_w0; have HO_w0 := HO_w0_; clear HO_w0_
  have HO_x0_ := Lib.hid (HO_x0.out.ext hcw8); clear HO_x0; have HO_x0 := HO_x0_; clear HO_x0_
  have HO_x1_ := Lib.hid (HO_x1.out.ext hcw8); clear HO_x1; have HO_x1 := HO_x1_; clear HO_x1_
  have HO_g0_ := Lib.hid (HO_g0.out.ext hcw8); clear HO_g0; have HO_g0 := HO_g0_; clear HO_g0_
  clear HW; have HW := HW_; clear HW_
  replace hL : Below w6.heap.size w6 w8 := ext_trans hL hcw8
  clear haL
  have haL : ∀ o, Below w6.heap.size w6 (w8.alloc o) := fun o => ext_alloc hL o
  clear hbw8 hcw8
  go_wp2_with fail
  go_region_held3 (fun w' => Below w6.heap.size w6 w') (first | exact ext_drew hL | exact ext_trans (by assumption) (by assumption) | assumption)
    (first
      | (go_at_call 15; (have ht := to_SR _ rR _ (HRR.out _ (ext_trans HW.out (ext_drew (ext_refl _)))) SmR.out); (with_reducible refine ht.mono ?_); clear ht; rintro e w9 ⟨vw9, rfl, hOw9, hbw9⟩)
      | (go_at_call 17; (have ht := eq_SR _ _ rR _ ((HO_x0.out.ext (ext_trans (ext_drew (ext_refl _)) hbw9)).rd) hOw9.rd); (with_reducible refine ht.mono ?_); clear ht; rintro e w10 ⟨rfl, hbw10⟩)
      | fail)
  have hcw10 : Below w8.heap.size w8 w10 := (ext_trans (ext_trans (ext_drew (ext_refl _)) hbw9) hbw10)
  have HW_ : Hid (Below w.heap.size w w10) := Lib.hid (ext_trans HW.out hcw10)
  have zw10 := hcw10.size
  have HO_w0_ := Lib.hid (HO_w0.out.ext hcw10); clear HO_w0; have HO_w0 := HO_w0_; clear HO_w0_
  have HO_x0_ := Lib.hid (HO_x0.out.ext hcw10); clear HO_x0; have HO_x0 := HO_x0_; clear HO_x0_
  have HO_x1_ := Lib.hid (HO_x1.out.ext hcw10); clear HO_x1; have HO_x1 := HO_x1_; clear HO_x1_
  have HO_g0_ := Lib.hid (HO_g0.out.ext hcw10); clear HO_g0; have HO_g0 := HO_g0_; clear HO_g0_
  clear HW; have HW := HW_; clear HW_
  replace hL : Below w6.heap.size w6 w10 := ext_trans hL hcw10
  clear haL
  have haL : ∀ o, Below w6.heap.size w6 (w10.alloc o) := fun o => ext_alloc hL o
  clear hcw10 hbw9 hbw10
  clear hOw9
  go_wp2_with fail
  refine (to_I _ xPlan _ (HRPlan.out _ (ext_trans HW.out (ext_refl _))) SmPlan.out).mono ?_
  rintro e w11 ⟨Aw11, cw11, rfl, hOw11, hbw11⟩
  go_wp2_with fail
  refine (eq_I _ _ xPlan _ ((HO_x1.out.ext (ext_trans (ext_refl _) hbw11)).rd) hOw11.rd).mono ?_
  rintro e w12 ⟨rfl, hbw12⟩
  have hcw12 : Below w10.heap.size w10 w12 := (ext_trans (ext_trans (ext_refl _) hbw11) hbw12)
  have HW_ : Hid (Below w.heap.size w w12) := Lib.hid (ext_trans HW.out hcw12)
  have zw12 := hcw12.size
  have HO_w0_ := Lib.hid (HO_w0.out.ext hcw12); clear HO_w0; have HO_w0 := HO_w0_; clear HO_w0_
  have HO_x0_ := Lib.hid (HO_x0.out.ext hcw12); clear HO_x0; have HO_x0 := HO_x0_; clear HO_x0_
  have HO_x1_ := Lib.hid (HO_x1.out.ext hcw12); clear HO_x1; have HO_x1 := HO_x1_; clear HO_x1_
  have HO_g0_ := Lib.hid (HO_g0.out.ext hcw12); clear HO_g0; have HO_g0 := HO_g0_; clear HO_g0_
  clear HW; have HW := HW_; clear HW_
  replace hL : Below w6.heap.size w6 w12 := ext_trans hL hcw12
  clear haL
  have haL : ∀ o, Below w6.heap.size w6 (w12.alloc o) := fun o => ext_alloc hL o
  clear hcw12 hbw11 hbw12
  clear hOw11
  go_wp2_with fail
  refine (mark_SR _ _ rR 1 (by omega) (by first | omega | (have q_R := SmR.out; unfold SmSR at q_R; have q_Plan := SmPlan.out; unfold SmI at q_Plan; have q_w0 := SM_w0.out; unfold SmI at q_w0; have q_g0 := SM_g0.out; unfold SmI at q_g0; omega)) _ SmR.out (HO_x0.out.ext (ext_refl _))).mono ?_
  rintro e w13 ⟨rfl, hOw13, hgw13⟩
  have zw13 := hgw13.size
  have HW_ : Hid (Below w.heap.size w w13) := Lib.hid (Chg.ext (ext_trans HW.out (ext_refl _)) hgw13 (fun k hk => by have := HB_x0.out k hk; omega)); clear HW; have HW := HW_; clear HW_
  have HO_w0_ := Lib.hid ((HO_w0.out.ext (ext_refl _)).chg hgw13 (fun k hk hs => by have h1 := HB_w0.out k hk; have h2 := HB_x0.out k hs; omega)); clear HO_w0; have HO_w0 := HO_w0_; clear HO_w0_
  have HO_x1_ := Lib.hid ((HO_x1.out.ext (ext_refl _)).chg hgw13 (fun k hk hs => by have h1 := HB_x1.out k hk; have h2 := HB_x0.out k hs; omega)); clear HO_x1; have HO_x1 := HO_x1_; clear HO_x1_
  have HO_g0_ := Lib.hid ((HO_g0.out.ext (ext_refl _)).chg hgw13 (fun k hk hs => by have h1 := HB_g0.out k hk; have h2 := HB_x0.out k hs; omega)); clear HO_g0; have HO_g0 := HO_g0_; clear HO_g0_
  clear HO_x0; have HO_x0 := Lib.hid hOw13; clear hOw13
  replace k_aR_0 : ∀ W', Below w13.heap.size w13 W' → W'.cell? ⟨w.heap.size, 0, none⟩ = some (.slice AR rR.cs.length cR) := fun W' h => cell_keep (hgw13.cell (p := ⟨w.heap.size, 0, none⟩) (k_aR_0 _ hL) (fun hs => by have h2 := HB_x0.out (w.heap.size) hs; omega)) h
  replace k_aR_1 : ∀ W', Below w13.heap.size w13 W' → W'.cell? ⟨w.heap.size, 1, none⟩ = some (.int .i64 rR.reach) := fun W' h => cell_keep (hgw13.cell (p := ⟨w.heap.size, 1, none⟩) (k_aR_1 _ hL) (fun hs => by have h2 := HB_x0.out (w.heap.size) hs; omega)) h
  replace k_aR_2 : ∀ W', Below w13.heap.size w13 W' → W'.cell? ⟨w.heap.size, 2, none⟩ = some (.int .i64 rR.setup) := fun W' h => cell_keep (hgw13.cell (p := ⟨w.heap.size, 2, none⟩) (k_aR_2 _ hL) (fun hs => by have h2 := HB_x0.out (w.heap.size) hs; omega)) h
  replace k_aR_3 : ∀ W', Below w13.heap.size w13 W' → W'.cell? ⟨w.heap.size, 3, none⟩ = some (.int .i64 rR.easy) := fun W' h => cell_keep (hgw13.cell (p := ⟨w.heap.size, 3, none⟩) (k_aR_3 _ hL) (fun hs => by have h2 := HB_x0.out (w.heap.size) hs; omega)) h
  replace k_x0_0 : ∀ W', Below w13.heap.size w13 W' → W'.cell? ⟨w5.heap.size, 0, none⟩ = some (.slice Aw5 rR.cs.length cw5) := fun W' h => cell_keep (hgw13.cell (p := ⟨w5.heap.size, 0, none⟩) (k_x0_0 _ hL) (fun hs => by have h2 := HB_x0.out (w5.heap.size) hs; omega)) h
  replace k_x0_1 : ∀ W', Below w13.heap.size w13 W' → W'.cell? ⟨w5.heap.size, 1, none⟩ = some (.int .i64 rR.reach) := fun W' h => cell_keep (hgw13.cell (p := ⟨w5.heap.size, 1, none⟩) (k_x0_1 _ hL) (fun hs => by have h2 := HB_x0.out (w5.heap.size) hs; omega)) h
  replace k_x0_2 : ∀ W', Below w13.heap.size w13 W' → W'.cell? ⟨w5.heap.size, 2, none⟩ = some (.int .i64 rR.setup) := fun W' h => cell_keep (hgw13.cell (p := ⟨w5.heap.size, 2, none⟩) (k_x0_2 _ hL) (fun hs => by have h2 := HB_x0.out (w5.heap.size) hs; omega)) h
  replace k_x0_3 : ∀ W', Below w13.heap.size w13 W' → W'.cell? ⟨w5.heap.size, 3, none⟩ = some (.int .i64 rR.easy) := fun W' h => cell_keep (hgw13.cell (p := ⟨w5.heap.size, 3, none⟩) (k_x0_3 _ hL) (fun hs => by have h2 := HB_x0.out (w5.heap.size) hs; omega)) h
  clear hL haL
  have hL : Below w13.heap.size w13 w13 := ext_refl _
  have haL : ∀ o, Below w13.heap.size w13 (w13.alloc o) := fun o => ext_alloc hL o
  clear hgw13
  go_wp2_with fail
  refine (mark_I _ _ xPlan (1 + (rR.cs.length : Int)) (by omega) (by first | omega | (have q_R := SmR.out; unfold SmSR at q_R; have q_Plan := SmPlan.out; unfold SmI at q_Plan; have q_w0 := SM_w0.out; unfold SmI at q_w0; have q_g0 := SM_g0.out; unfold SmI at q_g0; omega)) _ SmPlan.out (HO_x1.out.ext (ext_refl _))).mono ?_
  rintro e w14 ⟨rfl, hOw14, hgw14⟩
  have zw14 := hgw14.size
  have HW_ : Hid (Below w.heap.size w w14) := Lib.hid (Chg.ext (ext_trans HW.out (ext_refl _)) hgw14 (fun k hk => by have := HB_x1.out k hk; omega)); clear HW; have HW := HW_; clear HW_
  have HO_w0_ := Lib.hid ((HO_w0.out.ext (ext_refl _)).chg hgw14 (fun k hk hs => by have h1 := HB_w0.out k hk; have h2 := HB_x1.out k hs; omega)); clear HO_w0; have HO_w0 := HO_w0_; clear HO_w0_
  have HO_x0_ := Lib.hid ((HO_x0.out.ext (ext_refl _)).chg hgw14 (fun k hk hs => by have h1 := HB_x0.out k hk; have h2 := HB_x1.out k hs; omega)); clear HO_x0; have HO_x0 := HO_x0_; clear HO_x0_
  have HO_g0_ := Lib.hid ((HO_g0.out.ext (ext_refl _)).chg hgw14 (fun k hk hs => by have h1 := HB_g0.out k hk; have h2 := HB_x1.out k hs; omega)); clear HO_g0; have HO_g0 := HO_g0_; clear HO_g0_
  clear HO_x1; have HO_x1 := Lib.hid hOw14; clear hOw14
  replace k_aR_0 : ∀ W', Below w14.heap.size w14 W' → W'.cell? ⟨w.heap.size, 0, none⟩ = some (.slice AR rR.cs.length cR) := fun W' h => cell_keep (hgw14.cell (p := ⟨w.heap.size, 0, none⟩) (k_aR_0 _ hL) (fun hs => by have h2 := HB_x1.out (w.heap.size) hs; omega)) h
  replace k_aR_1 : ∀ W', Below w14.heap.size w14 W' → W'.cell? ⟨w.heap.size, 1, none⟩ = some (.int .i64 rR.reach) := fun W' h => cell_keep (hgw14.cell (p := ⟨w.heap.size, 1, none⟩) (k_aR_1 _ hL) (fun hs => by have h2 := HB_x1.out (w.heap.size) hs; omega)) h
  replace k_aR_2 : ∀ W', Below w14.heap.size w14 W' → W'.cell? ⟨w.heap.size, 2, none⟩ = some (.int .i64 rR.setup) := fun W' h => cell_keep (hgw14.cell (p := ⟨w.heap.size, 2, none⟩) (k_aR_2 _ hL) (fun hs => by have h2 := HB_x1.out (w.heap.size) hs; omega)) h
  replace k_aR_3 : ∀ W', Below w14.heap.size w14 W' → W'.cell? ⟨w.heap.size, 3, none⟩ = some (.int .i64 rR.easy) := fun W' h => cell_keep (hgw14.cell (p := ⟨w.heap.size, 3, none⟩) (k_aR_3 _ hL) (fun hs => by have h2 := HB_x1.out (w.heap.size) hs; omega)) h
  replace k_x0_0 : ∀ W', Below w14.heap.size w14 W' → W'.cell? ⟨w5.heap.size, 0, none⟩ = some (.slice Aw5 rR.cs.length cw5) := fun W' h => cell_keep (hgw14.cell (p := ⟨w5.heap.size, 0, none⟩) (k_x0_0 _ hL) (fun hs => by have h2 := HB_x1.out (w5.heap.size) hs; omega)) h
  replace k_x0_1 : ∀ W', Below w14.heap.size w14 W' → W'.cell? ⟨w5.heap.size, 1, none⟩ = some (.int .i64 rR.reach) := fun W' h => cell_keep (hgw14.cell (p := ⟨w5.heap.size, 1, none⟩) (k_x0_1 _ hL) (fun hs => by have h2 := HB_x1.out (w5.heap.size) hs; omega)) h
  replace k_x0_2 : ∀ W', Below w14.heap.size w14 W' → W'.cell? ⟨w5.heap.size, 2, none⟩ = some (.int .i64 rR.setup) := fun W' h => cell_keep (hgw14.cell (p := ⟨w5.heap.size, 2, none⟩) (k_x0_2 _ hL) (fun hs => by have h2 := HB_x1.out (w5.heap.size) hs; omega)) h
  replace k_x0_3 : ∀ W', Below w14.heap.size w14 W' → W'.cell? ⟨w5.heap.size, 3, none⟩ = some (.int .i64 rR.easy) := fun W' h => cell_keep (hgw14.cell (p := ⟨w5.heap.size, 3, none⟩) (k_x0_3 _ hL) (fun hs => by have h2 := HB_x1.out (w5.heap.size) hs; omega)) h
  clear hL haL
  have hL : Below w14.heap.size w14 w14 := ext_refl _
  have haL : ∀ o, Below w14.heap.size w14 (w14.alloc o) := fun o => ext_alloc hL o
  clear hgw14
  go_wp2_with fail
  refine (eq_I _ _ ((mPlatformHeights rR xPlan).1) _ ((HO_g0.out.ext (ext_refl _)).rd) ((HO_w0.out.ext (ext_refl _)).rd)).mono ?_
  rintro e w15 ⟨rfl, hbw15⟩
  have hcw15 : Below w14.heap.size w14 w15 := ext_trans (ext_refl _) hbw15
  have HW_ : Hid (Below w.heap.size w w15) := Lib.hid (ext_trans HW.out hcw15)
  have zw15 := hcw15.size
  have HO_w0_ := Lib.hid (HO_w0.out.ext hcw15); clear HO_w0; have HO_w0 := HO_w0_; clear HO_w0_
  have HO_x0_ := Lib.hid (HO_x0.out.ext hcw15); clear HO_x0; have HO_x0 := HO_x0_; clear HO_x0_
  have HO_x1_ := Lib.hid (HO_x1.out.ext hcw15); clear HO_x1; have HO_x1 := HO_x1_; clear HO_x1_
  have HO_g0_ := Lib.hid (HO_g0.out.ext hcw15); clear HO_g0; have HO_g0 := HO_g0_; clear HO_g0_
  clear HW; have HW := HW_; clear HW_
  replace hL : Below w14.heap.size w14 w15 := ext_trans hL hcw15
  clear haL
  have haL : ∀ o, Below w14.heap.size w14 (w15.alloc o) := fun o => ext_alloc hL o
  clear hbw15 hcw15
  go_wp2_with fail
  refine (mark_I _ _ ((mPlatformHeights rR xPlan).1) 1 (by omega) (by first | omega | (have q_R := SmR.out; unfold SmSR at q_R; have q_Plan := SmPlan.out; unfold SmI at q_Plan; have q_w0 := SM_w0.out; unfold SmI at q_w0; have q_g0 := SM_g0.out; unfold SmI at q_g0; omega)) _ SM_g0.out (HO_g0.out.ext (ext_refl _))).mono ?_
  rintro e w16 ⟨rfl, hOw16, hgw16⟩
  have zw16 := hgw16.size
  have HW_ : Hid (Below w.heap.size w w16) := Lib.hid (Chg.ext (ext_trans HW.out (ext_refl _)) hgw16 (fun k hk => by have := HB_g0.out k hk; omega)); clear HW; have HW := HW_; clear HW_
  have HO_w0_ := Lib.hid ((HO_w0.out.ext (ext_refl _)).chg hgw16 (fun k hk hs => by have h1 := HB_w0.out k hk; have h2 := HB_g0.out k hs; omega)); clear HO_w0; have HO_w0 := HO_w0_; clear HO_w0_
  have HO_x0_ := Lib.hid ((HO_x0.out.ext (ext_refl _)).chg hgw16 (fun k hk hs => by have h1 := HB_x0.out k hk; have h2 := HB_g0.out k hs; omega)); clear HO_x0; have HO_x0 := HO_x0_; clear HO_x0_
  have HO_x1_ := Lib.hid ((HO_x1.out.ext (ext_refl _)).chg hgw16 (fun k hk hs => by have h1 := HB_x1.out k hk; have h2 := HB_g0.out k hs; omega)); clear HO_x1; have HO_x1 := HO_x1_; clear HO_x1_
  clear HO_g0; have HO_g0 := Lib.hid hOw16; clear hOw16
  replace k_aR_0 : ∀ W', Below w16.heap.size w16 W' → W'.cell? ⟨w.heap.size, 0, none⟩ = some (.slice AR rR.cs.length cR) := fun W' h => cell_keep (hgw16.cell (p := ⟨w.heap.size, 0, none⟩) (k_aR_0 _ hL) (fun hs => by have h2 := HB_g0.out (w.heap.size) hs; omega)) h
  replace k_aR_1 : ∀ W', Below w16.heap.size w16 W' → W'.cell? ⟨w.heap.size, 1, none⟩ = some (.int .i64 rR.reach) := fun W' h => cell_keep (hgw16.cell (p := ⟨w.heap.size, 1, none⟩) (k_aR_1 _ hL) (fun hs => by have h2 := HB_g0.out (w.heap.size) hs; omega)) h
  replace k_aR_2 : ∀ W', Below w16.heap.size w16 W' → W'.cell? ⟨w.heap.size, 2, none⟩ = some (.int .i64 rR.setup) := fun W' h => cell_keep (hgw16.cell (p := ⟨w.heap.size, 2, none⟩) (k_aR_2 _ hL) (fun hs => by have h2 := HB_g0.out (w.heap.size) hs; omega)) h
  replace k_aR_3 : ∀ W', Below w16.heap.size w16 W' → W'.cell? ⟨w.heap.size, 3, none⟩ = some (.int .i64 rR.easy) := fun W' h => cell_keep (hgw16.cell (p := ⟨w.heap.size, 3, none⟩) (k_aR_3 _ hL) (fun hs => by have h2 := HB_g0.out (w.heap.size) hs; omega)) h
  replace k_x0_0 : ∀ W', Below w16.heap.size w16 W' → W'.cell? ⟨w5.heap.size, 0, none⟩ = some (.slice Aw5 rR.cs.length cw5) := fun W' h => cell_keep (hgw16.cell (p := ⟨w5.heap.size, 0, none⟩) (k_x0_0 _ hL) (fun hs => by have h2 := HB_g0.out (w5.heap.size) hs; omega)) h
  replace k_x0_1 : ∀ W', Below w16.heap.size w16 W' → W'.cell? ⟨w5.heap.size, 1, none⟩ = some (.int .i64 rR.reach) := fun W' h => cell_keep (hgw16.cell (p := ⟨w5.heap.size, 1, none⟩) (k_x0_1 _ hL) (fun hs => by have h2 := HB_g0.out (w5.heap.size) hs; omega)) h
  replace k_x0_2 : ∀ W', Below w16.heap.size w16 W' → W'.cell? ⟨w5.heap.size, 2, none⟩ = some (.int .i64 rR.setup) := fun W' h => cell_keep (hgw16.cell (p := ⟨w5.heap.size, 2, none⟩) (k_x0_2 _ hL) (fun hs => by have h2 := HB_g0.out (w5.heap.size) hs; omega)) h
  replace k_x0_3 : ∀ W', Below w16.heap.size w16 W' → W'.cell? ⟨w5.heap.size, 3, none⟩ = some (.int .i64 rR.easy) := fun W' h => cell_keep (hgw16.cell (p := ⟨w5.heap.size, 3, none⟩) (k_x0_3 _ hL) (fun hs => by have h2 := HB_g0.out (w5.heap.size) hs; omega)) h
  clear hL haL
  have hL : Below w16.heap.size w16 w16 := ext_refl _
  have haL : ∀ o, Below w16.heap.size w16 (w16.alloc o) := fun o => ext_alloc hL o
  clear hgw16
  go_wp2_with fail
  refine (held_I _ ((mPlatformHeights rR xPlan).1) 1 (by omega) (by first | omega | (have q_R := SmR.out; unfold SmSR at q_R; have q_Plan := SmPlan.out; unfold SmI at q_Plan; have q_w0 := SM_w0.out; unfold SmI at q_w0; have q_g0 := SM_g0.out; unfold SmI at q_g0; omega)) _ SM_g0.out ((HO_g0.out.ext (ext_refl _)).rd)).mono ?_
  rintro e w17 ⟨rfl, hbw17⟩
  have hcw17 : Below w16.heap.size w16 w17 := ext_trans (ext_refl _) hbw17
  have HW_ : Hid (Below w.heap.size w w17) := Lib.hid (ext_trans HW.out hcw17)
  have zw17 := hcw17.size
  have HO_w0_ := Lib.hid (HO_w0.out.ext hcw17); clear HO_w0; have HO_w0 := HO_w0_; clear HO_w0_
  have HO_x0_ := Lib.hid (HO_x0.out.ext hcw17); clear HO_x0; have HO_x0 := HO_x0_; clear HO_x0_
  have HO_x1_ := Lib.hid (HO_x1.out.ext hcw17); clear HO_x1; have HO_x1 := HO_x1_; clear HO_x1_
  have HO_g0_ := Lib.hid (HO_g0.out.ext hcw17); clear HO_g0; have HO_g0 := HO_g0_; clear HO_g0_
  clear HW; have HW := HW_; clear HW_
  replace hL : Below w16.heap.size w16 w17 := ext_trans hL hcw17
  clear haL
  have haL : ∀ o, Below w16.heap.size w16 (w17.alloc o) := fun o => ext_alloc hL o
  clear hbw17 hcw17
  go_wp2_with fail
  refine (to_SR _ rR _ (HRR.out _ (ext_trans HW.out (ext_refl _))) SmR.out).mono ?_
  rintro e w18 ⟨vw18, rfl, hOw18, hbw18⟩
  go_wp2_with fail
  refine (to_I _ xPlan _ (HRPlan.out _ (ext_trans HW.out (ext_trans (ext_refl _) hbw18))) SmPlan.out).mono ?_
  rintro e w19 ⟨Aw19, cw19, rfl, hOw19, hbw19⟩
  go_wp2_with fail
  refine (impl_PlatformHeights _ rR _ xPlan _ (hOw18.ext hbw19).rd SmR.out hOw19.rd SmPlan.out).mono ?_
  rintro e w20 ⟨vw20_0, rfl, hOw20_0, hsmw20_0, hbw20⟩
  have hcw20 : Below w17.heap.size w17 w20 := (ext_trans (ext_trans (ext_trans (ext_refl _) hbw18) hbw19) hbw20)
  have HW_ : Hid (Below w.heap.size w w20) := Lib.hid (ext_trans HW.out hcw20)
  have zw20 := hcw20.size
  have HO_w0_ := Lib.hid (HO_w0.out.ext hcw20); clear HO_w0; have HO_w0 := HO_w0_; clear HO_w0_
  have HO_x0_ := Lib.hid (HO_x0.out.ext hcw20); clear HO_x0; have HO_x0 := HO_x0_; clear HO_x0_
  have HO_x1_ := Lib.hid (HO_x1.out.ext hcw20); clear HO_x1; have HO_x1 := HO_x1_; clear HO_x1_
  have HO_g0_ := Lib.hid (HO_g0.out.ext hcw20); clear HO_g0; have HO_g0 := HO_g0_; clear HO_g0_
  clear HW; have HW := HW_; clear HW_
  replace hL : Below w16.heap.size w16 w20 := ext_trans hL hcw20
  clear haL
  have haL : ∀ o, Below w16.heap.size w16 (w20.alloc o) := fun o => ext_alloc hL o
  clear hcw20 hbw18 hbw19 hbw20
  clear hOw18 hOw19
  have HB_h0 : Hid (∀ k, BI (vw20_0) k → w19.heap.size ≤ k ∧ k < w20.heap.size) := Lib.hid hOw20_0.ge
  have HO_h0 := Lib.hid hOw20_0; clear hOw20_0
  have SM_h0 := Lib.hid hsmw20_0; clear hsmw20_0
  go_wp2_with fail
  refine (eq_I _ _ ((mPlatformHeights rR xPlan).1) _ ((HO_h0.out.ext (ext_refl _)).rd) ((HO_w0.out.ext (ext_refl _)).rd)).mono ?_
  rintro e w21 ⟨rfl, hbw21⟩
  have hcw21 : Below w20.heap.size w20 w21 := ext_trans (ext_refl _) hbw21
  have HW_ : Hid (Below w.heap.size w w21) := Lib.hid (ext_trans HW.out hcw21)
  have zw21 := hcw21.size
  have HO_w0_ := Lib.hid (HO_w0.out.ext hcw21); clear HO_w0; have HO_w0 := HO_w0_; clear HO_w0_
  have HO_x0_ := Lib.hid (HO_x0.out.ext hcw21); clear HO_x0; have HO_x0 := HO_x0_; clear HO_x0_
  have HO_x1_ := Lib.hid (HO_x1.out.ext hcw21); clear HO_x1; have HO_x1 := HO_x1_; clear HO_x1_
  have HO_g0_ := Lib.hid (HO_g0.out.ext hcw21); clear HO_g0; have HO_g0 := HO_g0_; clear HO_g0_
  have HO_h0_ := Lib.hid (HO_h0.out.ext hcw21); clear HO_h0; have HO_h0 := HO_h0_; clear HO_h0_
  clear HW; have HW := HW_; clear HW_
  replace hL : Below w16.heap.size w16 w21 := ext_trans hL hcw21
  clear haL
  have haL : ∀ o, Below w16.heap.size w16 (w21.alloc o) := fun o => ext_alloc hL o
  clear hbw21 hcw21
  go_wp2_with fail
  refine (held_I _ ((mPlatformHeights rR xPlan).1) 1 (by omega) (by first | omega | (have q_R := SmR.out; unfold SmSR at q_R; have q_Plan := SmPlan.out; unfold SmI at q_Plan; have q_w0 := SM_w0.out; unfold SmI at q_w0; have q_g0 := SM_g0.out; unfold SmI at q_g0; have q_h0 := SM_h0.out; unfold SmI at q_h0; omega)) _ SM_g0.out ((HO_g0.out.ext (ext_refl _)).rd)).mono ?_
  rintro e w22 ⟨rfl, hbw22⟩
  have hcw22 : Below w21.heap.size w21 w22 := ext_trans (ext_refl _) hbw22
  have HW_ : Hid (Below w.heap.size w w22) := Lib.hid (ext_trans HW.out hcw22)
  have zw22 := hcw22.size
  have HO_w0_ := Lib.hid (HO_w0.out.ext hcw22); clear HO_w0; have HO_w0 := HO_w0_; clear HO_w0_
  have HO_x0_ := Lib.hid (HO_x0.out.ext hcw22); clear HO_x0; have HO_x0 := HO_x0_; clear HO_x0_
  have HO_x1_ := Lib.hid (HO_x1.out.ext hcw22); clear HO_x1; have HO_x1 := HO_x1_; clear HO_x1_
  have HO_g0_ := Lib.hid (HO_g0.out.ext hcw22); clear HO_g0; have HO_g0 := HO_g0_; clear HO_g0_
  have HO_h0_ := Lib.hid (HO_h0.out.ext hcw22); clear HO_h0; have HO_h0 := HO_h0_; clear HO_h0_
  clear HW; have HW := HW_; clear HW_
  replace hL : Below w16.heap.size w16 w22 := ext_trans hL hcw22
  clear haL
  have haL : ∀ o, Below w16.heap.size w16 (w22.alloc o) := fun o => ext_alloc hL o
  clear hbw22 hcw22
  go_wp2_with fail
  go_ret
  exact ⟨rfl, ext_trans HW.out (ext_refl _)⟩

theorem rd_FnExactPlatformHeights : ∀ t ∈ Try.f12.params.toList, Try.prog.readableRec t = true ∧ t < Try.prog.types.size := by
  have h : Try.f12.params.toList.all (fun t => Try.prog.readableRec t && decide (t < Try.prog.types.size)) = true := by kernel_rfl
  intro t ht
  have := List.all_eq_true.1 h t ht
  simpa using this

set_option maxRecDepth 100000 in
theorem lifted_FnExactPlatformHeights (os : Os) (started : os.Started) (H : Type) (enc : TypeId × Value → H) :
    ReturnsInHanded {} Try.checked os 12 .any (Rows.fnExactPlatformHeightsSpec.pre6 enc Try.prog Try.f12 Rows.fnExactPlatformHeightsRow.domain false) (Rows.fnExactPlatformHeightsSpec.post enc Try.prog Try.f12 false true false false) := by
  refine returnsInHanded_of_change (C := Try.checked) own_knob started (by kernel_rfl) Try.func12
    (ChangeSpec.witness6 (enc := enc) (C := Try.checked) false ⟨#[], #[.agg #[.slice none 0 0, .int .i64 0, .int .i64 0, .int .i64 0], .slice none 0 0], []⟩ 8 (by kernel_rfl) (by kernel_rfl) (by kernel_rfl) (by kernel_rfl)) ?_
  intro W base args ds gs before hval0 hW hcnd _
  have hval : ∀ (j : Nat) t v, Try.f12.params[j]? = some t → args[j]? = some v → Value.okWide Try.prog W .any base t v := hval0
  have hW' : DataW.Whole enc Try.prog Try.f12.params.toList (Rows.fnExactPlatformHeightsSpec).vars false W args.toList ds gs before := hW
  obtain ⟨p, q, hA0, hV, _, hfz, hnd⟩ := hW
  have hA : DataW.TrodAll enc Try.prog W 0 (fun _ => true) true Try.f12.params.toList args.toList ds p := hA0
  rw [Try.params12] at hA hval
  obtain ⟨v0, vs0, d0, ds0, p0, q0, ha0, hd0, hp0, h0, rr0⟩ := trodAll_cons hA
  subst hd0 hp0
  obtain ⟨v1, vs1, d1, ds1, p1, q1, ha1, hd1, hp1, h1, rr1⟩ := trodAll_cons rr0
  subst ha1 hd1 hp1
  obtain ⟨e1, e2, e3⟩ := trodAll_nil rr1
  subst e1 e2 e3
  obtain rfl : args = #[v0, v1] := by cases args; simp_all
  obtain ⟨rfl, rfl⟩ := trodVars_none hV
  obtain ⟨r0, hR0, hl0⟩ := open_SR (hval 0 24 v0 rfl rfl) h0
  obtain ⟨x1, hR1, hl1⟩ := open_IA (hval 1 22 v1 rfl rfl) h1
  clear hA0 hval0
  refine (law_FnExactPlatformHeights v0 r0 v1 x1 W hR0 hl0 hR1 hl1).mono fun e W' ⟨he, hb⟩ => ?_
  subst he
  exact ⟨_, rfl, law_post rd_FnExactPlatformHeights rfl rfl hW' rfl hb⟩

theorem holds_FnExactPlatformHeights : Rows.FnExactPlatformHeightsSaid :=
  OpenClaim.holds_of_wide 12 Try.f12 rfl rfl rfl rfl rfl rfl rfl ⟨rfl, rfl, rfl, rfl, rfl⟩ rfl rfl rfl rfl rfl (by kernel_rfl) Try.func12 (by kernel_rfl)
    (of_decide_eq_true (by kernel_rfl)) (by unfold Func.isWrapper; first | (rw [if_pos (by decide +kernel)]; kernel_rfl) | (rw [if_neg (by decide +kernel)]; exact ⟨rfl, rfl⟩))
    (fun os started H enc _ => lifted_FnExactPlatformHeights os started H enc)


end Go.Proofs.Ytahcdofikfookaa
