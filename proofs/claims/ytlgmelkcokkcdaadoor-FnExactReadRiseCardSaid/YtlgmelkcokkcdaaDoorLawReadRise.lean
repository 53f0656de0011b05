/-
  The law FnExactReadRise: the program answers as the reference, for all arguments; no condition. The walk and the row; printed by genlaw.py and genrow.py.
-/
import Derived.Test.YtlgmelkcokkcdaaDoorRdR2
import Derived.Test.YtlgmelkcokkcdaaDoorRowRise
import Derived.Test.YtlgmelkcokkcdaaDoorDoor
import Derived.ChangeMaps5
import Derived.Deep.RegionHeld3
import Derived.Deep.DrawnRows
namespace Go.Proofs.YtlgmelkcokkcdaaDoor
open Go.ChangeShapes Go.WideShapes Go.ChangeAt Go.RowKit Go.Sort
set_option linter.unusedVariables false
attribute [local go_sem ↓] Go.wp_at_zero Go.wp_at_succ

set_option maxHeartbeats 2000000 in
set_option maxRecDepth 100000 in
theorem law_FnExactReadRise (sS : ByteArray) (w : World) (hEnv : Env w) (hsS : sS.size ≤ maxLen) :
    Calls Tryd.prog 5 #[.string sS] w (Ret (.bool true) w) := by
  have HEV : Hid (∀ W', Below w.heap.size w W' → Env W') := Lib.hid fun W' h => hEnv.ext h; clear hEnv
  have HSS := Lib.hid hsS; unfold maxLen at hsS
  have HW : Hid (Below w.heap.size w w) := Lib.hid (ext_refl w)
  go_enter Tryd.func5, Tryd.ntmps5
  go_wp2_with fail
  · go_ret
    exact ⟨rfl, ext_trans HW.out (ext_refl _)⟩
  have hlenS : (sS.size : Int) ≤ 1048576 := by first | assumption | omega
  clear HSS; have HSS : Hid (sS.size ≤ 1048576) := Lib.hid (by omega)
  go_wp2_with fail
  refine (spec_ReadRise sS _ HSS.out (HEV.out _ (ext_trans HW.out (ext_refl _)))).mono ?_
  rintro e w1 ⟨vw1_0, rfl, ⟨Aw1_0, cw1_0, rfl, hOw1_0⟩, hsmw1_0, hbw1⟩
  have hcw1 : Below w.heap.size w w1 := (ext_trans (ext_refl _) hbw1)
  have HW_ : Hid (Below w.heap.size w w1) := Lib.hid (ext_trans HW.out hcw1)
  have zw1 := hcw1.size
  clear HW; have HW := HW_; clear HW_
  clear hcw1 hbw1
  have hOO : OSR w1 (w.heap.size) (.agg #[.slice Aw1_0 (rdRv sS).cs.length cw1_0, .int .i64 (rdRv sS).reach, .int .i64 (rdRv sS).setup, .int .i64 (rdRv sS).easy]) (rdRv sS) := ⟨_, _, rfl, hOw1_0⟩
  have HB_w0 : Hid (∀ k, BSR (.agg #[.slice Aw1_0 (rdRv sS).cs.length cw1_0, .int .i64 (rdRv sS).reach, .int .i64 (rdRv sS).setup, .int .i64 (rdRv sS).easy]) k → w.heap.size ≤ k ∧ k < w1.heap.size) := Lib.hid hOO.ge
  have HO_w0 := Lib.hid hOO; clear hOO
  have SM_w0 := Lib.hid hsmw1_0; clear hsmw1_0
  go_wp2_with fail
  refine (impl_ReadRise sS _ HSS.out (HEV.out _ (ext_trans HW.out (ext_alloc (ext_refl _) _)))).mono ?_
  rintro e w2 ⟨vw2_0, rfl, ⟨Aw2_0, cw2_0, rfl, hOw2_0⟩, hsmw2_0, hbw2⟩
  have hcw2 : Below w1.heap.size w1 w2 := (ext_trans (ext_alloc (ext_refl _) _) hbw2)
  have HW_ : Hid (Below w.heap.size w w2) := Lib.hid (ext_trans HW.out hcw2)
  have zw2 := hcw2.size
  have HO_w0_ := Lib.hid (HO_w0.out.ext hcw2); clear HO_w0; have HO_w0 := HO_w0_; clear HO_w0_
  clear HW; have HW := HW_; clear HW_
  have yw2 := Below.size hbw2
  simp only [World.size_alloc] at yw2
  have k_w0_0 : ∀ W', Below w2.heap.size w2 W' → W'.cell? ⟨w1.heap.size, 0, none⟩ = some (.slice Aw1_0 (rdRv sS).cs.length cw1_0) := fun W' h => cell_keep (cell_keep (p := ⟨w1.heap.size, 0, none⟩) (v := .slice Aw1_0 (rdRv sS).cs.length cw1_0) (by simp [go_sem]) hbw2) h
  have k_w0_1 : ∀ W', Below w2.heap.size w2 W' → W'.cell? ⟨w1.heap.size, 1, none⟩ = some (.int .i64 (rdRv sS).reach) := fun W' h => cell_keep (cell_keep (p := ⟨w1.heap.size, 1, none⟩) (v := .int .i64 (rdRv sS).reach) (by simp [go_sem]) hbw2) h
  have k_w0_2 : ∀ W', Below w2.heap.size w2 W' → W'.cell? ⟨w1.heap.size, 2, none⟩ = some (.int .i64 (rdRv sS).setup) := fun W' h => cell_keep (cell_keep (p := ⟨w1.heap.size, 2, none⟩) (v := .int .i64 (rdRv sS).setup) (by simp [go_sem]) hbw2) h
  have k_w0_3 : ∀ W', Below w2.heap.size w2 W' → W'.cell? ⟨w1.heap.size, 3, none⟩ = some (.int .i64 (rdRv sS).easy) := fun W' h => cell_keep (cell_keep (p := ⟨w1.heap.size, 3, none⟩) (v := .int .i64 (rdRv sS).easy) (by simp [go_sem]) hbw2) h
  have hL : Below w2.heap.size w2 w2 := ext_refl _
  have haL : ∀ o, Below w2.heap.size w2 (w2.alloc o) := fun o => ext_alloc hL o
  clear hcw2 hbw2
  have hOO : OSR w2 (w1.heap.size + 1) (.agg #[.slice Aw2_0 (rdRv sS).cs.length cw2_0, .int .i64 (rdRv sS).reach, .int .i64 (rdRv sS).setup, .int .i64 (rdRv sS).easy]) (rdRv sS) := by simpa only [World.size_alloc] using (show OSR w2 _ (.agg #[.slice Aw2_0 (rdRv sS).cs.length cw2_0, .int .i64 (rdRv sS).reach, .int .i64 (rdRv sS).setup, .int .i64 (rdRv sS).easy]) (rdRv sS) from ⟨_, _, rfl, hOw2_0⟩)
  have HB_g0 : Hid (∀ k, BSR (.agg #[.slice Aw2_0 (rdRv sS).cs.length cw2_0, .int .i64 (rdRv sS).reach, .int .i64 (rdRv sS).setup, .int .i64 (rdRv sS).easy]) k → w1.heap.size + 1 ≤ k ∧ k < w2.heap.size) := Lib.hid hOO.ge
  have HO_g0 := Lib.hid hOO; clear hOO
  have SM_g0 := Lib.hid hsmw2_0; clear hsmw2_0
  go_wp2_with fail
  refine (eq_SR _ _ (rdRv sS) _ ((HO_g0.out.ext (ext_alloc (ext_refl _) _)).rd) ((HO_w0.out.ext (ext_alloc (ext_refl _) _)).rd)).mono ?_
  rintro e w3 ⟨rfl, hbw3⟩
  have hcw3 : Below w2.heap.size w2 w3 := ext_trans (ext_alloc (ext_refl _) _) hbw3
  have HW_ : Hid (Below w.heap.size w w3) := Lib.hid (ext_trans HW.out hcw3)
  have zw3 := hcw3.size
  have HO_w0_ := Lib.hid (HO_w0.out.ext hcw3); clear HO_w0; have HO_w0 := HO_w0_; clear HO_w0_
  have HO_g0_ := Lib.hid (HO_g0.out.ext hcw3); clear HO_g0; have HO_g0 := HO_g0_; clear HO_g0_
  clear HW; have HW := HW_; clear HW_
  have yw3 := Below.size hbw3
  simp only [World.size_alloc] at yw3
  have k_g0_0 : ∀ W', Below w3.heap.size w3 W' → W'.cell? ⟨w2.heap.size, 0, none⟩ = some (.slice Aw2_0 (rdRv sS).cs.length cw2_0) := fun W' h => cell_keep (cell_keep (p := ⟨w2.heap.size, 0, none⟩) (v := .slice Aw2_0 (rdRv sS).cs.length cw2_0) (by simp [go_sem]) hbw3) h
  have k_g0_1 : ∀ W', Below w3.heap.size w3 W' → W'.cell? ⟨w2.heap.size, 1, none⟩ = some (.int .i64 (rdRv sS).reach) := fun W' h => cell_keep (cell_keep (p := ⟨w2.heap.size, 1, none⟩) (v := .int .i64 (rdRv sS).reach) (by simp [go_sem]) hbw3) h
  have k_g0_2 : ∀ W', Below w3.heap.size w3 W' → W'.cell? ⟨w2.heap.size, 2, none⟩ = some (.int .i64 (rdRv sS).setup) := fun W' h => cell_keep (cell_keep (p := ⟨w2.heap.size, 2, none⟩) (v := .int .i64 (rdRv sS).setup) (by simp [go_sem]) hbw3) h
  have k_g0_3 : ∀ W', Below w3.heap.size w3 W' → W'.cell? ⟨w2.heap.size, 3, none⟩ = some (.int .i64 (rdRv sS).easy) := fun W' h => cell_keep (cell_keep (p := ⟨w2.heap.size, 3, none⟩) (v := .int .i64 (rdRv sS).easy) (by simp [go_sem]) hbw3) h
  replace k_w0_0 : ∀ W', Below w3.heap.size w3 W' → W'.cell? ⟨w1.heap.size, 0, none⟩ = some (.slice Aw1_0 (rdRv sS).cs.length cw1_0) := fun W' h => k_w0_0 W' (ext_trans (ext_trans hL hcw3) h)
  replace k_w0_1 : ∀ W', Below w3.heap.size w3 W' → W'.cell? ⟨w1.heap.size, 1, none⟩ = some (.int .i64 (rdRv sS).reach) := fun W' h => k_w0_1 W' (ext_trans (ext_trans hL hcw3) h)
  replace k_w0_2 : ∀ W', Below w3.heap.size w3 W' → W'.cell? ⟨w1.heap.size, 2, none⟩ = some (.int .i64 (rdRv sS).setup) := fun W' h => k_w0_2 W' (ext_trans (ext_trans hL hcw3) h)
  replace k_w0_3 : ∀ W', Below w3.heap.size w3 W' → W'.cell? ⟨w1.heap.size, 3, none⟩ = some (.int .i64 (rdRv sS).easy) := fun W' h => k_w0_3 W' (ext_trans (ext_trans hL hcw3) h)
  clear hL haL
  have hL : Below w3.heap.size w3 w3 := ext_refl _
  have haL : ∀ o, Below w3.heap.size w3 (w3.alloc o) := fun o => ext_alloc hL o
  clear hbw3 hcw3
  go_wp2_with fail
  refine (mark_SR _ _ (rdRv sS) 1 (by omega) (by first | omega | (have q_w0 := SM_w0.out; unfold SmSR at q_w0; have q_g0 := SM_g0.out; unfold SmSR at q_g0; omega)) _ SM_g0.out (HO_g0.out.ext (ext_refl _))).mono ?_
  rintro e w4 ⟨rfl, hOw4, hgw4⟩
  have zw4 := hgw4.size
  have HW_ : Hid (Below w.heap.size w w4) := Lib.hid (Chg.ext (ext_trans HW.out (ext_refl _)) hgw4 (fun k hk => by have := HB_g0.out k hk; omega)); clear HW; have HW := HW_; clear HW_
  have HO_w0_ := Lib.hid ((HO_w0.out.ext (ext_refl _)).chg hgw4 (fun k hk hs => by have h1 := HB_w0.out k hk; have h2 := HB_g0.out k hs; omega)); clear HO_w0; have HO_w0 := HO_w0_; clear HO_w0_
  clear HO_g0; have HO_g0 := Lib.hid hOw4; clear hOw4
  replace k_w0_0 : ∀ W', Below w4.heap.size w4 W' → W'.cell? ⟨w1.heap.size, 0, none⟩ = some (.slice Aw1_0 (rdRv sS).cs.length cw1_0) := fun W' h => cell_keep (hgw4.cell (p := ⟨w1.heap.size, 0, none⟩) (k_w0_0 _ hL) (fun hs => by have h2 := HB_g0.out (w1.heap.size) hs; omega)) h
  replace k_w0_1 : ∀ W', Below w4.heap.size w4 W' → W'.cell? ⟨w1.heap.size, 1, none⟩ = some (.int .i64 (rdRv sS).reach) := fun W' h => cell_keep (hgw4.cell (p := ⟨w1.heap.size, 1, none⟩) (k_w0_1 _ hL) (fun hs => by have h2 := HB_g0.out (w1.heap.size) hs; omega)) h
  replace k_w0_2 : ∀ W', Below w4.heap.size w4 W' → W'.cell? ⟨w1.heap.size, 2, none⟩ = some (.int .i64 (rdRv sS).setup) := fun W' h => cell_keep (hgw4.cell (p := ⟨w1.heap.size, 2, none⟩) (k_w0_2 _ hL) (fun hs => by have h2 := HB_g0.out (w1.heap.size) hs; omega)) h
  replace k_w0_3 : ∀ W', Below w4.heap.size w4 W' → W'.cell? ⟨w1.heap.size, 3, none⟩ = some (.int .i64 (rdRv sS).easy) := fun W' h => cell_keep (hgw4.cell (p := ⟨w1.heap.size, 3, none⟩) (k_w0_3 _ hL) (fun hs => by have h2 := HB_g0.out (w1.heap.size) hs; omega)) h
  replace k_g0_0 : ∀ W', Below w4.heap.size w4 W' → W'.cell? ⟨w2.heap.size, 0, none⟩ = some (.slice Aw2_0 (rdRv sS).cs.length cw2_0) := fun W' h => cell_keep (hgw4.cell (p := ⟨w2.heap.size, 0, none⟩) (k_g0_0 _ hL) (fun hs => by have h2 := HB_g0.out (w2.heap.size) hs; omega)) h
  replace k_g0_1 : ∀ W', Below w4.heap.size w4 W' → W'.cell? ⟨w2.heap.size, 1, none⟩ = some (.int .i64 (rdRv sS).reach) := fun W' h => cell_keep (hgw4.cell (p := ⟨w2.heap.size, 1, none⟩) (k_g0_1 _ hL) (fun hs => by have h2 := HB_g0.out (w2.heap.size) hs; omega)) h
  replace k_g0_2 : ∀ W', Below w4.heap.size w4 W' → W'.cell? ⟨w2.heap.size, 2, none⟩ = some (.int .i64 (rdRv sS).setup) := fun W' h => cell_keep (hgw4.cell (p := ⟨w2.heap.size, 2, none⟩) (k_g0_2 _ hL) (fun hs => by have h2 := HB_g0.out (w2.heap.size) hs; omega)) h
  replace k_g0_3 : ∀ W', Below w4.heap.size w4 W' → W'.cell? ⟨w2.heap.size, 3, none⟩ = some (.int .i64 (rdRv sS).easy) := fun W' h => cell_keep (hgw4.cell (p := ⟨w2.heap.size, 3, none⟩) (k_g0_3 _ hL) (fun hs => by have h2 := HB_g0.out (w2.heap.size) hs; omega)) h
  clear hL haL
  have hL : Below w4.heap.size w4 w4 := ext_refl _
  have haL : ∀ o, Below w4.heap.size w4 (w4.alloc o) := fun o => ext_alloc hL o
  clear hgw4
  go_wp2_with fail
  refine (held_SR _ (rdRv sS) 1 (by omega) (by first | omega | (have q_w0 := SM_w0.out; unfold SmSR at q_w0; have q_g0 := SM_g0.out; unfold SmSR at q_g0; omega)) _ SM_g0.out ((HO_g0.out.ext (ext_refl _)).rd)).mono ?_
  rintro e w5 ⟨rfl, hbw5⟩
  have hcw5 : Below w4.heap.size w4 w5 := ext_trans (ext_refl _) hbw5
  have HW_ : Hid (Below w.heap.size w w5) := Lib.hid (ext_trans HW.out hcw5)
  have zw5 := hcw5.size
  have HO_w0_ := Lib.hid (HO_w0.out.ext hcw5); clear HO_w0; have HO_w0 := HO_w0_; clear HO_w0_
  have HO_g0_ := Lib.hid (HO_g0.out.ext hcw5); clear HO_g0; have HO_g0 := HO_g0_; clear HO_g0_
  clear HW; have HW := HW_; clear HW_
  replace hL : Below w4.heap.size w4 w5 := ext_trans hL hcw5
  clear haL
  have haL : ∀ o, Below w4.heap.size w4 (w5.alloc o) := fun o => ext_alloc hL o
  clear hbw5 hcw5
  go_wp2_with fail
  refine (impl_ReadRise sS _ HSS.out (HEV.out _ (ext_trans HW.out (ext_refl _)))).mono ?_
  rintro e w6 ⟨vw6_0, rfl, ⟨Aw6_0, cw6_0, rfl, hOw6_0⟩, hsmw6_0, hbw6⟩
  have hcw6 : Below w5.heap.size w5 w6 := (ext_trans (ext_refl _) hbw6)
  have HW_ : Hid (Below w.heap.size w w6) := Lib.hid (ext_trans HW.out hcw6)
  have zw6 := hcw6.size
  have HO_w0_ := Lib.hid (HO_w0.out.ext hcw6); clear HO_w0; have HO_w0 := HO_w0_; clear HO_w0_
  have HO_g0_ := Lib.hid (HO_g0.out.ext hcw6); clear HO_g0; have HO_g0 := HO_g0_; clear HO_g0_
  clear HW; have HW := HW_; clear HW_
  replace hL : Below w4.heap.size w4 w6 := ext_trans hL hcw6
  clear haL
  have haL : ∀ o, Below w4.heap.size w4 (w6.alloc o) := fun o => ext_alloc hL o
  clear hcw6 hbw6
  have hOO : OSR w6 (w5.heap.size) (.agg #[.slice Aw6_0 (rdRv sS).cs.length cw6_0, .int .i64 (rdRv sS).reach, .int .i64 (rdRv sS).setup, .int .i64 (rdRv sS).easy]) (rdRv sS) := ⟨_, _, rfl, hOw6_0⟩
  have HB_h0 : Hid (∀ k, BSR (.agg #[.slice Aw6_0 (rdRv sS).cs.length cw6_0, .int .i64 (rdRv sS).reach, .int .i64 (rdRv sS).setup, .int .i64 (rdRv sS).easy]) k → w5.heap.size ≤ k ∧ k < w6.heap.size) := Lib.hid hOO.ge
  have HO_h0 := Lib.hid hOO; clear hOO
  have SM_h0 := Lib.hid hsmw6_0; clear hsmw6_0
  go_wp2_with fail
  refine (eq_SR _ _ (rdRv sS) _ ((HO_h0.out.ext (ext_alloc (ext_refl _) _)).rd) ((HO_w0.out.ext (ext_alloc (ext_refl _) _)).rd)).mono ?_
  rintro e w7 ⟨rfl, hbw7⟩
  have hcw7 : Below w6.heap.size w6 w7 := ext_trans (ext_alloc (ext_refl _) _) hbw7
  have HW_ : Hid (Below w.heap.size w w7) := Lib.hid (ext_trans HW.out hcw7)
  have zw7 := hcw7.size
  have HO_w0_ := Lib.hid (HO_w0.out.ext hcw7); clear HO_w0; have HO_w0 := HO_w0_; clear HO_w0_
  have HO_g0_ := Lib.hid (HO_g0.out.ext hcw7); clear HO_g0; have HO_g0 := HO_g0_; clear HO_g0_
  have HO_h0_ := Lib.hid (HO_h0.out.ext hcw7); clear HO_h0; have HO_h0 := HO_h0_; clear HO_h0_
  clear HW; have HW := HW_; clear HW_
  have yw7 := Below.size hbw7
  simp only [World.size_alloc] at yw7
  have k_h0_0 : ∀ W', Below w7.heap.size w7 W' → W'.cell? ⟨w6.heap.size, 0, none⟩ = some (.slice Aw6_0 (rdRv sS).cs.length cw6_0) := fun W' h => cell_keep (cell_keep (p := ⟨w6.heap.size, 0, none⟩) (v := .slice Aw6_0 (rdRv sS).cs.length cw6_0) (by simp [go_sem]) hbw7) h
  have k_h0_1 : ∀ W', Below w7.heap.size w7 W' → W'.cell? ⟨w6.heap.size, 1, none⟩ = some (.int .i64 (rdRv sS).reach) := fun W' h => cell_keep (cell_keep (p := ⟨w6.heap.size, 1, none⟩) (v := .int .i64 (rdRv sS).reach) (by simp [go_sem]) hbw7) h
  have k_h0_2 : ∀ W', Below w7.heap.size w7 W' → W'.cell? ⟨w6.heap.size, 2, none⟩ = some (.int .i64 (rdRv sS).setup) := fun W' h => cell_keep (cell_keep (p := ⟨w6.heap.size, 2, none⟩) (v := .int .i64 (rdRv sS).setup) (by simp [go_sem]) hbw7) h
  have k_h0_3 : ∀ W', Below w7.heap.size w7 W' → W'.cell? ⟨w6.heap.size, 3, none⟩ = some (.int .i64 (rdRv sS).easy) := fun W' h => cell_keep (cell_keep (p := ⟨w6.heap.size, 3, none⟩) (v := .int .i64 (rdRv sS).easy) (by simp [go_sem]) hbw7) h
  replace k_w0_0 : ∀ W', Below w7.heap.size w7 W' → W'.cell? ⟨w1.heap.size, 0, none⟩ = some (.slice Aw1_0 (rdRv sS).cs.length cw1_0) := fun W' h => k_w0_0 W' (ext_trans (ext_trans hL hcw7) h)
  replace k_w0_1 : ∀ W', Below w7.heap.size w7 W' → W'.cell? ⟨w1.heap.size, 1, none⟩ = some (.int .i64 (rdRv sS).reach) := fun W' h => k_w0_1 W' (ext_trans (ext_trans hL hcw7) h)
  replace k_w0_2 : ∀ W', Below w7.heap.size w7 W' → W'.cell? ⟨w1.heap.size, 2, none⟩ = some (.int .i64 (rdRv sS).setup) := fun W' h => k_w0_2 W' (ext_trans (ext_trans hL hcw7) h)
  replace k_w0_3 : ∀ W', Below w7.heap.size w7 W' → W'.cell? ⟨w1.heap.size, 3, none⟩ = some (.int .i64 (rdRv sS).easy) := fun W' h => k_w0_3 W' (ext_trans (ext_trans hL hcw7) h)
  replace k_g0_0 : ∀ W', Below w7.heap.size w7 W' → W'.cell? ⟨w2.heap.size, 0, none⟩ = some (.slice Aw2_0 (rdRv sS).cs.length cw2_0) := fun W' h => k_g0_0 W' (ext_trans (ext_trans hL hcw7) h)
  replace k_g0_1 : ∀ W', Below w7.heap.size w7 W' → W'.cell? ⟨w2.heap.size, 1, none⟩ = some (.int .i64 (rdRv sS).reach) := fun W' h => k_g0_1 W' (ext_trans (ext_trans hL hcw7) h)
  replace k_g0_2 : ∀ W', Below w7.heap.size w7 W' → W'.cell? ⟨w2.heap.size, 2, none⟩ = some (.int .i64 (rdRv sS).setup) := fun W' h => k_g0_2 W' (ext_trans (ext_trans hL hcw7) h)
  replace k_g0_3 : ∀ W', Below w7.heap.size w7 W' → W'.cell? ⟨w2.heap.size, 3, none⟩ = some (.int .i64 (rdRv sS).easy) := fun W' h => k_g0_3 W' (ext_trans (ext_trans hL hcw7) h)
  clear hL haL
  have hL : Below w7.heap.size w7 w7 := ext_refl _
  have haL : ∀ o, Below w7.heap.size w7 (w7.alloc o) := fun o => ext_alloc hL o
  clear hbw7 hcw7
  go_wp2_with fail
  refine (held_SR _ (rdRv sS) 1 (by omega) (by first | omega | (have q_w0 := SM_w0.out; unfold SmSR at q_w0; have q_g0 := SM_g0.out; unfold SmSR at q_g0; have q_h0 := SM_h0.out; unfold SmSR at q_h0; omega)) _ SM_g0.out ((HO_g0.out.ext (ext_refl _)).rd)).mono ?_
  rintro e w8 ⟨rfl, hbw8⟩
  have hcw8 : Below w7.heap.size w7 w8 := ext_trans (ext_refl _) hbw8
  have HW_ : Hid (Below w.heap.size w w8) := Lib.hid (ext_trans HW.out hcw8)
  have zw8 := hcw8.size
  have HO_w0_ := Lib.hid (HO_w0.out.ext hcw8); clear HO_w0; have HO_w0 := HO_w0_; clear HO_w0_
  have HO_g0_ := Lib.hid (HO_g0.out.ext hcw8); clear HO_g0; have HO_g0 := HO_g0_; clear HO_g0_
  have HO_h0_ := Lib.hid (HO_h0.out.ext hcw8); clear HO_h0; have HO_h0 := HO_h0_; clear HO_h0_
  clear HW; have HW := HW_; clear HW_
  replace hL : Below w7.heap.size w7 w8 := ext_trans hL hcw8
  clear haL
  have haL : ∀ o, Below w7.heap.size w7 (w8.alloc o) := fun o => ext_alloc hL o
  clear hbw8 hcw8
  go_wp2_with fail
  go_ret
  exact ⟨rfl, ext_trans HW.out (ext_refl _)⟩

theorem rd_FnExactReadRise : ∀ t ∈ Tryd.f5.params.toList, Tryd.prog.readableRec t = true ∧ t < Tryd.prog.types.size := by
  have h : Tryd.f5.params.toList.all (fun t => Tryd.prog.readableRec t && decide (t < Tryd.prog.types.size)) = true := by kernel_rfl
  intro t ht
  have := List.all_eq_true.1 h t ht
  simpa using this

set_option maxRecDepth 100000 in
theorem lifted_FnExactReadRise (os : Os) (started : os.Started) (H : Type) (enc : TypeId × Value → H) :
    ReturnsInHanded {} Tryd.checked os 5 .any (fun w args => (Rows.fnExactReadRiseSpec.pre enc Tryd.prog Tryd.f5 [] false w args ∧ laidMetH Tryd.prog Rows.fnExactReadRiseRow.laid w) ∧ sizedMet enc Tryd.prog Tryd.f5 (OpenSpec.ofChange Rows.fnExactReadRiseSpec) false w args)
      (Rows.fnExactReadRiseSpec.post enc Tryd.prog Tryd.f5 false true false false) := by
  have plain : ∀ w, laidMetH Tryd.prog Rows.fnExactReadRiseRow.laid w = laidMet Tryd.prog Rows.fnExactReadRiseRow.laid w := fun w => MakeChecks.laidMetH_plain _ _ _ (by kernel_rfl)
  refine returns_door (C := Tryd.checked) (X := fun w _ => laidMetH Tryd.prog Rows.fnExactReadRiseRow.laid w) (fun _ _ _ hh h => h.of_heap hh) own_knob started (by kernel_rfl) Tryd.func5
    (ChangeSpec.witness_shaped (enc := enc) (C := Tryd.checked) (os := os) (X := fun w _ => laidMetH Tryd.prog Rows.fnExactReadRiseRow.laid w) false (World.laidAll Tryd.prog os Rows.fnExactReadRiseRow.laid) #[.string ⟨#[]⟩] 8 (World.laidAll_os _ _ _)
      (World.shaped_of_ZipB (by kernel_rfl) (by kernel_rfl)) (by kernel_rfl) (by kernel_rfl) (by kernel_rfl)
      (by rw [plain]; exact laidMet_laidAll _ (by kernel_rfl) (by kernel_rfl))) ?_
  intro W base args ds gs before hval0 hW hL hsh
  rw [plain] at hL
  have hEnv : Env W := env_of hL hsh (by simp [Rows.fnExactReadRiseRow]) (by simp [Rows.fnExactReadRiseRow, Rows.laid_strconv_ErrSyntax]) (by simp [Rows.fnExactReadRiseRow, Rows.laid_strconv_ErrRange])
  have hval : ∀ (j : Nat) t v, Tryd.f5.params[j]? = some t → args[j]? = some v → Value.okWide Tryd.prog W .any base t v := hval0
  have hW' : DataW.Whole enc Tryd.prog Tryd.f5.params.toList (Rows.fnExactReadRiseSpec).vars false W args.toList ds gs before := hW
  obtain ⟨p, q, hA0, hV, _, hfz, hnd⟩ := hW
  have hA : DataW.TrodAll enc Tryd.prog W 0 (fun _ => true) true Tryd.f5.params.toList args.toList ds p := hA0
  rw [Tryd.params5] at hA hval
  obtain ⟨v0, vs0, d0, ds0, p0, q0, ha0, hd0, hp0, h0, rr0⟩ := trodAll_cons hA
  subst hd0 hp0
  obtain ⟨e1, e2, e3⟩ := trodAll_nil rr0
  subst e1 e2 e3
  obtain rfl : args = #[v0] := by cases args; simp_all
  obtain ⟨rfl, rfl⟩ := trodVars_none hV
  obtain ⟨s0, rfl, rfl, rfl, ws0⟩ := Go.ChangeMaps.open_string Tryd.underlying9 (hval 0 9 v0 rfl rfl) h0
  clear hA0 hval0
  refine (law_FnExactReadRise s0 W hEnv ws0).mono fun e W' ⟨he, hb⟩ => ?_
  subst he
  exact ⟨_, rfl, law_post rd_FnExactReadRise rfl rfl hW' rfl hb⟩

theorem bare_FnExactReadRise : Rows.FnExactReadRiseSaid :=
  OpenClaim.holds_of_wide 5 Tryd.f5 rfl rfl rfl rfl rfl rfl rfl ⟨rfl, rfl, rfl, rfl, rfl⟩ rfl rfl rfl rfl rfl (by kernel_rfl) Tryd.func5 (by kernel_rfl)
    (of_decide_eq_true (by kernel_rfl)) (by unfold Func.isWrapper; first | (rw [if_pos (by decide +kernel)]; kernel_rfl) | (rw [if_neg (by decide +kernel)]; exact ⟨rfl, rfl⟩))
    (fun os started H enc _ => lifted_FnExactReadRise os started H enc)

theorem wants_FnExactReadRise : Tryd.f5.params.toList.all (fun u => !Tryd.prog.wantsStandIn u) = true := by kernel_rfl
theorem named_FnExactReadRise : Tryd.prog.funcNamed "loop.example/g01042/laws.FnExactReadRise" = some 5 := by kernel_rfl
theorem holds_FnExactReadRise : Rows.FnExactReadRiseCardSaid :=
  Claim7.holds_tied_plain_at .later [] Rows.fnExactReadRiseCard.laidKinds true Rows.fnExactReadRiseCard.stood.harness Rows.fnExactReadRiseCard.stood.looks
    bare_FnExactReadRise (fun _ h => by cases h) (by kernel_rfl) (fun _ h => by cases h) fnExactReadRise_row_tie rfl ⟨rfl, rfl⟩ (by kernel_rfl) rfl
    (fun f fn hf hfn => by
      obtain rfl : f = 5 := (Option.some.inj (named_FnExactReadRise.symm.trans hf)).symm
      obtain rfl : fn = Tryd.f5 := (Option.some.inj (Tryd.func5.symm.trans hfn)).symm
      exact ⟨by kernel_rfl, fun j t ht => by
        have hm : t ∈ Tryd.f5.params.toList := by simpa using Array.mem_of_getElem? ht
        exact (show Tryd.prog.wantsStandIn t = false by simpa using List.all_eq_true.1 wants_FnExactReadRise t hm)⟩)
    (by kernel_rfl)


end Go.Proofs.YtlgmelkcokkcdaaDoor
