/-
  The law FnExactChangeWeather: the program answers as the reference, for all arguments; no condition. The walk and the row; printed by genlaw.py and genrow.py.
-/
import Derived.Test.YtghdhfnhjfnggaaDays12
import Derived.Test.YtghdhfnhjfnggaaRowSite
import Derived.ChangeMaps5
import Derived.Deep.RegionHeld3
import Derived.Deep.DrawnRows
namespace Go.Proofs.Ytghdhfnhjfnggaa
open Go.ChangeShapes Go.WideShapes Go.ChangeAt Go.RowKit Go.Sort
set_option linter.unusedVariables false
attribute [local go_sem ↓] Go.wp_at_zero Go.wp_at_succ

set_option maxHeartbeats 2000000 in
set_option maxRecDepth 100000 in
theorem law_FnExactChangeWeather (vS : Value) (sS : ByteArray) (xS : List Int) (iDay : Int) (sWeather : ByteArray) (w : World) (hRS : ST w vS sS xS) (hlS : LenST sS xS) (hsWeather : sWeather.size ≤ maxLen) :
    Calls Try.prog 7 #[vS, .int .i64 iDay, .string sWeather] w (Ret (.bool true) w) := by
  obtain ⟨AS, cS, rfl, hOS⟩ := hRS
  have HRS : Hid (∀ W', Below w.heap.size w W' → ST W' (.agg #[.string sS, .slice AS xS.length cS]) sS xS) := Lib.hid fun W' h => ST.ext (show ST w (.agg #[.string sS, .slice AS xS.length cS]) sS xS from ⟨_, _, rfl, hOS⟩) h
  clear hOS
  have HlS := Lib.hid hlS; clear hlS
  have HSWeather := Lib.hid hsWeather; unfold maxLen at hsWeather
  have HW : Hid (Below w.heap.size w w) := Lib.hid (ext_refl w)
  go_enter Try.func7, Try.ntmps7
  go_wp2_with fail
  · go_ret
    exact ⟨rfl, ext_trans HW.out (ext_alloc (ext_refl _) _)⟩
  have hlenWeather : (sWeather.size : Int) ≤ 1048576 := by first | assumption | omega
  clear HSWeather; have HSWeather : Hid (sWeather.size ≤ 1048576) := Lib.hid (by omega)
  have hp0 : (0 : Int) ≤ 1048576 := by omega
  have hq0 : (1048576 : Int) ≤ 1048576 := by omega
  go_wp2_with fail
  refine (sz_ST _ sS xS 1048576 hp0 hq0 _ HlS.out (HRS.out _ (ext_trans HW.out (ext_alloc (ext_refl _) _)))).mono ?_
  rintro e w1 ⟨rfl, hbw1⟩
  have hcw1 : Below w.heap.size w w1 := ext_trans (ext_alloc (ext_refl _) _) hbw1
  have HW_ : Hid (Below w.heap.size w w1) := Lib.hid (ext_trans HW.out hcw1)
  have zw1 := hcw1.size
  clear HW; have HW := HW_; clear HW_
  have yw1 := Below.size hbw1
  simp only [World.size_alloc] at yw1
  have k_aS_0 : ∀ W', Below w1.heap.size w1 W' → W'.cell? ⟨w.heap.size, 0, none⟩ = some (.string sS) := fun W' h => cell_keep (cell_keep (p := ⟨w.heap.size, 0, none⟩) (v := .string sS) (by simp [go_sem]) hbw1) h
  have k_aS_1 : ∀ W', Below w1.heap.size w1 W' → W'.cell? ⟨w.heap.size, 1, none⟩ = some (.slice AS xS.length cS) := fun W' h => cell_keep (cell_keep (p := ⟨w.heap.size, 1, none⟩) (v := .slice AS xS.length cS) (by simp [go_sem]) hbw1) h
  have hL : Below w1.heap.size w1 w1 := ext_refl _
  have haL : ∀ o, Below w1.heap.size w1 (w1.alloc o) := fun o => ext_alloc hL o
  clear hbw1 hcw1
  obtain ⟨hqw1, hrw1⟩ := szST_le sS xS hq0
  go_wp2_with fail
  · go_ret
    exact ⟨rfl, ext_trans HW.out (ext_refl _)⟩
  have hpw1 : 0 ≤ szST sS xS 1048576 := by assumption
  obtain ⟨huS, hsmS⟩ := ok_ST hq0 hpw1
  have SmS := Lib.hid hsmS; clear hsmS
  go_wp2_with fail
  refine (to_ST _ sS xS _ (HRS.out _ (ext_trans HW.out (ext_refl _))) SmS.out).mono ?_
  rintro e w2 ⟨vw2, rfl, hOw2, hbw2⟩
  go_wp2_with fail
  refine (spec_ChangeWeather _ sS xS iDay sWeather _ hOw2.rd SmS.out HSWeather.out).mono ?_
  rintro e w3 ⟨vw3_0, rfl, ⟨Aw3_0, cw3_0, rfl, hOw3_0⟩, hsmw3_0, hbw3⟩
  have hcw3 : Below w1.heap.size w1 w3 := (ext_trans (ext_trans (ext_refl _) hbw2) hbw3)
  have HW_ : Hid (Below w.heap.size w w3) := Lib.hid (ext_trans HW.out hcw3)
  have zw3 := hcw3.size
  clear HW; have HW := HW_; clear HW_
  replace hL : Below w1.heap.size w1 w3 := ext_trans hL hcw3
  clear haL
  have haL : ∀ o, Below w1.heap.size w1 (w3.alloc o) := fun o => ext_alloc hL o
  clear hcw3 hbw2 hbw3
  clear hOw2
  have hOO : OST w3 (w2.heap.size) (.agg #[.string ((mChangeWeather sS xS iDay sWeather).1), .slice Aw3_0 ((mChangeWeather sS xS iDay sWeather).2.1).length cw3_0]) ((mChangeWeather sS xS iDay sWeather).1) ((mChangeWeather sS xS iDay sWeather).2.1) := ⟨_, _, rfl, hOw3_0⟩
  have HB_w0 : Hid (∀ k, BST (.agg #[.string ((mChangeWeather sS xS iDay sWeather).1), .slice Aw3_0 ((mChangeWeather sS xS iDay sWeather).2.1).length cw3_0]) k → w2.heap.size ≤ k ∧ k < w3.heap.size) := Lib.hid hOO.ge
  have HO_w0 := Lib.hid hOO; clear hOO
  have SM_w0 := Lib.hid hsmw3_0; clear hsmw3_0
  go_wp2_with fail
  refine (to_ST _ sS xS _ (HRS.out _ (ext_trans HW.out (ext_alloc (ext_refl _) _))) SmS.out).mono ?_
  rintro e w4 ⟨vw4, rfl, ⟨Aw4, cw4, rfl, hOw4⟩, hbw4⟩
  have hOO : OST w4 (w3.heap.size + 1) (.agg #[.string sS, .slice Aw4 xS.length cw4]) sS xS := by have h0 := hOw4; simp only [World.size_alloc] at h0; exact ⟨_, _, rfl, h0⟩
  have hcw4 : Below w3.heap.size w3 w4 := ext_trans (ext_alloc (ext_refl _) _) hbw4
  have HW_ : Hid (Below w.heap.size w w4) := Lib.hid (ext_trans HW.out hcw4)
  have zw4 := hcw4.size
  have HO_w0_ := Lib.hid (HO_w0.out.ext hcw4); clear HO_w0; have HO_w0 := HO_w0_; clear HO_w0_
  clear HW; have HW := HW_; clear HW_
  have yw4 := Below.size hbw4
  simp only [World.size_alloc] at yw4
  have k_w0_0 : ∀ W', Below w4.heap.size w4 W' → W'.cell? ⟨w3.heap.size, 0, none⟩ = some (.string ((mChangeWeather sS xS iDay sWeather).1)) := fun W' h => cell_keep (cell_keep (p := ⟨w3.heap.size, 0, none⟩) (v := .string ((mChangeWeather sS xS iDay sWeather).1)) (by simp [go_sem]) hbw4) h
  have k_w0_1 : ∀ W', Below w4.heap.size w4 W' → W'.cell? ⟨w3.heap.size, 1, none⟩ = some (.slice Aw3_0 ((mChangeWeather sS xS iDay sWeather).2.1).length cw3_0) := fun W' h => cell_keep (cell_keep (p := ⟨w3.heap.size, 1, none⟩) (v := .slice Aw3_0 ((mChangeWeather sS xS iDay sWeather).2.1).length cw3_0) (by simp [go_sem]) hbw4) h
  replace k_aS_0 : ∀ W', Below w4.heap.size w4 W' → W'.cell? ⟨w.heap.size, 0, none⟩ = some (.string sS) := fun W' h => k_aS_0 W' (ext_trans (ext_trans hL hcw4) h)
  replace k_aS_1 : ∀ W', Below w4.heap.size w4 W' → W'.cell? ⟨w.heap.size, 1, none⟩ = some (.slice AS xS.length cS) := fun W' h => k_aS_1 W' (ext_trans (ext_trans hL hcw4) h)
  clear hL haL
  have hL : Below w4.heap.size w4 w4 := ext_refl _
  have haL : ∀ o, Below w4.heap.size w4 (w4.alloc o) := fun o => ext_alloc hL o
  clear hbw4 hcw4
  have HB_x0 : Hid (∀ k, BST (.agg #[.string sS, .slice Aw4 xS.length cw4]) k → w3.heap.size + 1 ≤ k ∧ k < w4.heap.size) := Lib.hid hOO.ge
  have HO_x0 := Lib.hid hOO; clear hOO
  go_wp2_with fail
  refine (impl_ChangeWeather _ sS xS iDay sWeather _ ((HO_x0.out.ext (ext_alloc (ext_refl _) _)).rd) SmS.out HSWeather.out).mono ?_
  rintro e w5 ⟨vw5_0, rfl, ⟨Aw5_0, cw5_0, rfl, hOw5_0⟩, hsmw5_0, hbw5⟩
  have hcw5 : Below w4.heap.size w4 w5 := (ext_trans (ext_alloc (ext_refl _) _) hbw5)
  have HW_ : Hid (Below w.heap.size w w5) := Lib.hid (ext_trans HW.out hcw5)
  have zw5 := hcw5.size
  have HO_w0_ := Lib.hid (HO_w0.out.ext hcw5); clear HO_w0; have HO_w0 := HO_w0_; clear HO_w0_
  have HO_x0_ := Lib.hid (HO_x0.out.ext hcw5); clear HO_x0; have HO_x0 := HO_x0_; clear HO_x0_
  clear HW; have HW := HW_; clear HW_
  have yw5 := Below.size hbw5
  simp only [World.size_alloc] at yw5
  have k_x0_0 : ∀ W', Below w5.heap.size w5 W' → W'.cell? ⟨w4.heap.size, 0, none⟩ = some (.string sS) := fun W' h => cell_keep (cell_keep (p := ⟨w4.heap.size, 0, none⟩) (v := .string sS) (by simp [go_sem]) hbw5) h
  have k_x0_1 : ∀ W', Below w5.heap.size w5 W' → W'.cell? ⟨w4.heap.size, 1, none⟩ = some (.slice Aw4 xS.length cw4) := fun W' h => cell_keep (cell_keep (p := ⟨w4.heap.size, 1, none⟩) (v := .slice Aw4 xS.length cw4) (by simp [go_sem]) hbw5) h
  replace k_aS_0 : ∀ W', Below w5.heap.size w5 W' → W'.cell? ⟨w.heap.size, 0, none⟩ = some (.string sS) := fun W' h => k_aS_0 W' (ext_trans (ext_trans hL hcw5) h)
  replace k_aS_1 : ∀ W', Below w5.heap.size w5 W' → W'.cell? ⟨w.heap.size, 1, none⟩ = some (.slice AS xS.length cS) := fun W' h => k_aS_1 W' (ext_trans (ext_trans hL hcw5) h)
  replace k_w0_0 : ∀ W', Below w5.heap.size w5 W' → W'.cell? ⟨w3.heap.size, 0, none⟩ = some (.string ((mChangeWeather sS xS iDay sWeather).1)) := fun W' h => k_w0_0 W' (ext_trans (ext_trans hL hcw5) h)
  replace k_w0_1 : ∀ W', Below w5.heap.size w5 W' → W'.cell? ⟨w3.heap.size, 1, none⟩ = some (.slice Aw3_0 ((mChangeWeather sS xS iDay sWeather).2.1).length cw3_0) := fun W' h => k_w0_1 W' (ext_trans (ext_trans hL hcw5) h)
  clear hL haL
  have hL : Below w5.heap.size w5 w5 := ext_refl _
  have haL : ∀ o, Below w5.heap.size w5 (w5.alloc o) := fun o => ext_alloc hL o
  clear hcw5 hbw5
  have hOO : OST w5 (w4.heap.size + 1) (.agg #[.string ((mChangeWeather sS xS iDay sWeather).1), .slice Aw5_0 ((mChangeWeather sS xS iDay sWeather).2.1).length cw5_0]) ((mChangeWeather sS xS iDay sWeather).1) ((mChangeWeather sS xS iDay sWeather).2.1) := by simpa only [World.size_alloc] using (show OST w5 _ (.agg #[.string ((mChangeWeather sS xS iDay sWeather).1), .slice Aw5_0 ((mChangeWeather sS xS iDay sWeather).2.1).length cw5_0]) ((mChangeWeather sS xS iDay sWeather).1) ((mChangeWeather sS xS iDay sWeather).2.1) from ⟨_, _, rfl, hOw5_0⟩)
  have HB_g0 : Hid (∀ k, BST (.agg #[.string ((mChangeWeather sS xS iDay sWeather).1), .slice Aw5_0 ((mChangeWeather sS xS iDay sWeather).2.1).length cw5_0]) k → w4.heap.size + 1 ≤ k ∧ k < w5.heap.size) := Lib.hid hOO.ge
  have HO_g0 := Lib.hid hOO; clear hOO
  have SM_g0 := Lib.hid hsmw5_0; clear hsmw5_0
  go_wp2_with fail
  refine (eq_ST _ _ ((mChangeWeather sS xS iDay sWeather).1) ((mChangeWeather sS xS iDay sWeather).2.1) _ ((HO_g0.out.ext (ext_alloc (ext_refl _) _)).rd) ((HO_w0.out.ext (ext_alloc (ext_refl _) _)).rd)).mono ?_
  rintro e w6 ⟨rfl, hbw6⟩
  have hcw6 : Below w5.heap.size w5 w6 := ext_trans (ext_alloc (ext_refl _) _) hbw6
  have HW_ : Hid (Below w.heap.size w w6) := Lib.hid (ext_trans HW.out hcw6)
  have zw6 := hcw6.size
  have HO_w0_ := Lib.hid (HO_w0.out.ext hcw6); clear HO_w0; have HO_w0 := HO_w0_; clear HO_w0_
  have HO_x0_ := Lib.hid (HO_x0.out.ext hcw6); clear HO_x0; have HO_x0 := HO_x0_; clear HO_x0_
  have HO_g0_ := Lib.hid (HO_g0.out.ext hcw6); clear HO_g0; have HO_g0 := HO_g0_; clear HO_g0_
  clear HW; have HW := HW_; clear HW_
  have yw6 := Below.size hbw6
  simp only [World.size_alloc] at yw6
  have k_g0_0 : ∀ W', Below w6.heap.size w6 W' → W'.cell? ⟨w5.heap.size, 0, none⟩ = some (.string ((mChangeWeather sS xS iDay sWeather).1)) := fun W' h => cell_keep (cell_keep (p := ⟨w5.heap.size, 0, none⟩) (v := .string ((mChangeWeather sS xS iDay sWeather).1)) (by simp [go_sem]) hbw6) h
  have k_g0_1 : ∀ W', Below w6.heap.size w6 W' → W'.cell? ⟨w5.heap.size, 1, none⟩ = some (.slice Aw5_0 ((mChangeWeather sS xS iDay sWeather).2.1).length cw5_0) := fun W' h => cell_keep (cell_keep (p := ⟨w5.heap.size, 1, none⟩) (v := .slice Aw5_0 ((mChangeWeather sS xS iDay sWeather).2.1).length cw5_0) (by simp [go_sem]) hbw6) h
  replace k_aS_0 : ∀ W', Below w6.heap.size w6 W' → W'.cell? ⟨w.heap.size, 0, none⟩ = some (.string sS) := fun W' h => k_aS_0 W' (ext_trans (ext_trans hL hcw6) h)
  replace k_aS_1 : ∀ W', Below w6.heap.size w6 W' → W'.cell? ⟨w.heap.size, 1, none⟩ = some (.slice AS xS.length cS) := fun W' h => k_aS_1 W' (ext_trans (ext_trans hL hcw6) h)
  replace k_w0_0 : ∀ W', Below w6.heap.size w6 W' → W'.cell? ⟨w3.heap.size, 0, none⟩ = some (.string ((mChangeWeather sS xS iDay sWeather).1)) := fun W' h => k_w0_0 W' (ext_trans (ext_trans hL hcw6) h)
  replace k_w0_1 : ∀ W', Below w6.heap.size w6 W' → W'.cell? ⟨w3.heap.size, 1, none⟩ = some (.slice Aw3_0 ((mChangeWeather sS xS iDay sWeather).2.1).length cw3_0) := fun W' h => k_w0_1 W' (ext_trans (ext_trans hL hcw6) h)
  replace k_x0_0 : ∀ W', Below w6.heap.size w6 W' → W'.cell? ⟨w4.heap.size, 0, none⟩ = some (.string sS) := fun W' h => k_x0_0 W' (ext_trans (ext_trans hL hcw6) h)
  replace k_x0_1 : ∀ W', Below w6.heap.size w6 W' → W'.cell? ⟨w4.heap.size, 1, none⟩ = some (.slice Aw4 xS.length cw4) := fun W' h => k_x0_1 W' (ext_trans (ext_trans hL hcw6) h)
  clear hL haL
  have hL : Below w6.heap.size w6 w6 := ext_refl _
  have haL : ∀ o, Below w6.heap.size w6 (w6.alloc o) := fun o => ext_alloc hL o
  clear hbw6 hcw6
  go_wp2_with fail
  go_region_held3 (fun w' => Below w6.heap.size w6 w') (first | exact ext_drew hL | exact ext_trans (by assumption) (by assumption) | assumption)
    (first
      | (go_at_call 19; (have ht := to_ST _ sS xS _ (HRS.out _ (ext_trans HW.out (ext_drew (ext_refl _)))) SmS.out); (with_reducible refine ht.mono ?_); clear ht; rintro e w7 ⟨vw7, rfl, hOw7, hbw7⟩)
      | (go_at_call 21; (have ht := eq_ST _ _ sS xS _ ((HO_x0.out.ext (ext_trans (ext_drew (ext_refl _)) hbw7)).rd) hOw7.rd); (with_reducible refine ht.mono ?_); clear ht; rintro e w8 ⟨rfl, hbw8⟩)
      | fail)
  have hcw8 : Below w6.heap.size w6 w8 := (ext_trans (ext_trans (ext_drew (ext_refl _)) hbw7) hbw8)
  have HW_ : Hid (Below w.heap.size w w8) := Lib.hid (ext_trans HW.out hcw8)
  have zw8 := hcw8.size
  have HO_w0_ := Lib.hid (HO_w0.out.ext hcw8); clear HO_w0; have HO_w0 := HO_w0_; clear HO_w0_
  have HO_x0_ := Lib.hid (HO_x0.out.ext hcw8); clear HO_x0; have HO_x0 := HO_x0_; clear HO_x0_
  have HO_g0_ := Lib.hid (HO_g0.out.ext hcw8); clear HO_g0; have HO_g0 := HO_g0_; clear HO_g0_
  clear HW; have HW := HW_; clear HW_
  replace hL : Below w6.heap.size w6 w8 := ext_trans hL hcw8
  clear haL
  have haL : ∀ o, Below w6.heap.size w6 (w8.alloc o) := fun o => ext_alloc hL o
  clear hcw8 hbw7 hbw8
  clear hOw7
  go_wp2_with fail
  refine (mark_ST _ _ sS xS 1 (by omega) (by omega) _ SmS.out (HO_x0.out.ext (ext_refl _))).mono ?_
  rintro e w9 ⟨rfl, hOw9, hgw9⟩
  have zw9 := hgw9.size
  have HW_ : Hid (Below w.heap.size w w9) := Lib.hid (Chg.ext (ext_trans HW.out (ext_refl _)) hgw9 (fun k hk => by have := HB_x0.out k hk; omega)); clear HW; have HW := HW_; clear HW_
  have HO_w0_ := Lib.hid ((HO_w0.out.ext (ext_refl _)).chg hgw9 (fun k hk hs => by have h1 := HB_w0.out k hk; have h2 := HB_x0.out k hs; omega)); clear HO_w0; have HO_w0 := HO_w0_; clear HO_w0_
  have HO_g0_ := Lib.hid ((HO_g0.out.ext (ext_refl _)).chg hgw9 (fun k hk hs => by have h1 := HB_g0.out k hk; have h2 := HB_x0.out k hs; omega)); clear HO_g0; have HO_g0 := HO_g0_; clear HO_g0_
  clear HO_x0; have HO_x0 := Lib.hid hOw9; clear hOw9
  replace k_aS_0 : ∀ W', Below w9.heap.size w9 W' → W'.cell? ⟨w.heap.size, 0, none⟩ = some (.string sS) := fun W' h => cell_keep (hgw9.cell (p := ⟨w.heap.size, 0, none⟩) (k_aS_0 _ hL) (fun hs => by have h2 := HB_x0.out (w.heap.size) hs; omega)) h
  replace k_aS_1 : ∀ W', Below w9.heap.size w9 W' → W'.cell? ⟨w.heap.size, 1, none⟩ = some (.slice AS xS.length cS) := fun W' h => cell_keep (hgw9.cell (p := ⟨w.heap.size, 1, none⟩) (k_aS_1 _ hL) (fun hs => by have h2 := HB_x0.out (w.heap.size) hs; omega)) h
  replace k_w0_0 : ∀ W', Below w9.heap.size w9 W' → W'.cell? ⟨w3.heap.size, 0, none⟩ = some (.string ((mChangeWeather sS xS iDay sWeather).1)) := fun W' h => cell_keep (hgw9.cell (p := ⟨w3.heap.size, 0, none⟩) (k_w0_0 _ hL) (fun hs => by have h2 := HB_x0.out (w3.heap.size) hs; omega)) h
  replace k_w0_1 : ∀ W', Below w9.heap.size w9 W' → W'.cell? ⟨w3.heap.size, 1, none⟩ = some (.slice Aw3_0 ((mChangeWeather sS xS iDay sWeather).2.1).length cw3_0) := fun W' h => cell_keep (hgw9.cell (p := ⟨w3.heap.size, 1, none⟩) (k_w0_1 _ hL) (fun hs => by have h2 := HB_x0.out (w3.heap.size) hs; omega)) h
  replace k_x0_0 : ∀ W', Below w9.heap.size w9 W' → W'.cell? ⟨w4.heap.size, 0, none⟩ = some (.string sS) := fun W' h => cell_keep (hgw9.cell (p := ⟨w4.heap.size, 0, none⟩) (k_x0_0 _ hL) (fun hs => by have h2 := HB_x0.out (w4.heap.size) hs; omega)) h
  replace k_x0_1 : ∀ W', Below w9.heap.size w9 W' → W'.cell? ⟨w4.heap.size, 1, none⟩ = some (.slice Aw4 xS.length cw4) := fun W' h => cell_keep (hgw9.cell (p := ⟨w4.heap.size, 1, none⟩) (k_x0_1 _ hL) (fun hs => by have h2 := HB_x0.out (w4.heap.size) hs; omega)) h
  replace k_g0_0 : ∀ W', Below w9.heap.size w9 W' → W'.cell? ⟨w5.heap.size, 0, none⟩ = some (.string ((mChangeWeather sS xS iDay sWeather).1)) := fun W' h => cell_keep (hgw9.cell (p := ⟨w5.heap.size, 0, none⟩) (k_g0_0 _ hL) (fun hs => by have h2 := HB_x0.out (w5.heap.size) hs; omega)) h
  replace k_g0_1 : ∀ W', Below w9.heap.size w9 W' → W'.cell? ⟨w5.heap.size, 1, none⟩ = some (.slice Aw5_0 ((mChangeWeather sS xS iDay sWeather).2.1).length cw5_0) := fun W' h => cell_keep (hgw9.cell (p := ⟨w5.heap.size, 1, none⟩) (k_g0_1 _ hL) (fun hs => by have h2 := HB_x0.out (w5.heap.size) hs; omega)) h
  clear hL haL
  have hL : Below w9.heap.size w9 w9 := ext_refl _
  have haL : ∀ o, Below w9.heap.size w9 (w9.alloc o) := fun o => ext_alloc hL o
  clear hgw9
  go_wp2_with fail
  refine (eq_ST _ _ ((mChangeWeather sS xS iDay sWeather).1) ((mChangeWeather sS xS iDay sWeather).2.1) _ ((HO_g0.out.ext (ext_refl _)).rd) ((HO_w0.out.ext (ext_refl _)).rd)).mono ?_
  rintro e w10 ⟨rfl, hbw10⟩
  have hcw10 : Below w9.heap.size w9 w10 := ext_trans (ext_refl _) hbw10
  have HW_ : Hid (Below w.heap.size w w10) := Lib.hid (ext_trans HW.out hcw10)
  have zw10 := hcw10.size
  have HO_w0_ := Lib.hid (HO_w0.out.ext hcw10); clear HO_w0; have HO_w0 := HO_w0_; clear HO_w0_
  have HO_x0_ := Lib.hid (HO_x0.out.ext hcw10); clear HO_x0; have HO_x0 := HO_x0_; clear HO_x0_
  have HO_g0_ := Lib.hid (HO_g0.out.ext hcw10); clear HO_g0; have HO_g0 := HO_g0_; clear HO_g0_
  clear HW; have HW := HW_; clear HW_
  replace hL : Below w9.heap.size w9 w10 := ext_trans hL hcw10
  clear haL
  have haL : ∀ o, Below w9.heap.size w9 (w10.alloc o) := fun o => ext_alloc hL o
  clear hbw10 hcw10
  go_wp2_with fail
  refine (mark_ST _ _ ((mChangeWeather sS xS iDay sWeather).1) ((mChangeWeather sS xS iDay sWeather).2.1) 1 (by omega) (by omega) _ SM_g0.out (HO_g0.out.ext (ext_refl _))).mono ?_
  rintro e w11 ⟨rfl, hOw11, hgw11⟩
  have zw11 := hgw11.size
  have HW_ : Hid (Below w.heap.size w w11) := Lib.hid (Chg.ext (ext_trans HW.out (ext_refl _)) hgw11 (fun k hk => by have := HB_g0.out k hk; omega)); clear HW; have HW := HW_; clear HW_
  have HO_w0_ := Lib.hid ((HO_w0.out.ext (ext_refl _)).chg hgw11 (fun k hk hs => by have h1 := HB_w0.out k hk; have h2 := HB_g0.out k hs; omega)); clear HO_w0; have HO_w0 := HO_w0_; clear HO_w0_
  have HO_x0_ := Lib.hid ((HO_x0.out.ext (ext_refl _)).chg hgw11 (fun k hk hs => by have h1 := HB_x0.out k hk; have h2 := HB_g0.out k hs; omega)); clear HO_x0; have HO_x0 := HO_x0_; clear HO_x0_
  clear HO_g0; have HO_g0 := Lib.hid hOw11; clear hOw11
  replace k_aS_0 : ∀ W', Below w11.heap.size w11 W' → W'.cell? ⟨w.heap.size, 0, none⟩ = some (.string sS) := fun W' h => cell_keep (hgw11.cell (p := ⟨w.heap.size, 0, none⟩) (k_aS_0 _ hL) (fun hs => by have h2 := HB_g0.out (w.heap.size) hs; omega)) h
  replace k_aS_1 : ∀ W', Below w11.heap.size w11 W' → W'.cell? ⟨w.heap.size, 1, none⟩ = some (.slice AS xS.length cS) := fun W' h => cell_keep (hgw11.cell (p := ⟨w.heap.size, 1, none⟩) (k_aS_1 _ hL) (fun hs => by have h2 := HB_g0.out (w.heap.size) hs; omega)) h
  replace k_w0_0 : ∀ W', Below w11.heap.size w11 W' → W'.cell? ⟨w3.heap.size, 0, none⟩ = some (.string ((mChangeWeather sS xS iDay sWeather).1)) := fun W' h => cell_keep (hgw11.cell (p := ⟨w3.heap.size, 0, none⟩) (k_w0_0 _ hL) (fun hs => by have h2 := HB_g0.out (w3.heap.size) hs; omega)) h
  replace k_w0_1 : ∀ W', Below w11.heap.size w11 W' → W'.cell? ⟨w3.heap.size, 1, none⟩ = some (.slice Aw3_0 ((mChangeWeather sS xS iDay sWeather).2.1).length cw3_0) := fun W' h => cell_keep (hgw11.cell (p := ⟨w3.heap.size, 1, none⟩) (k_w0_1 _ hL) (fun hs => by have h2 := HB_g0.out (w3.heap.size) hs; omega)) h
  replace k_x0_0 : ∀ W', Below w11.heap.size w11 W' → W'.cell? ⟨w4.heap.size, 0, none⟩ = some (.string sS) := fun W' h => cell_keep (hgw11.cell (p := ⟨w4.heap.size, 0, none⟩) (k_x0_0 _ hL) (fun hs => by have h2 := HB_g0.out (w4.heap.size) hs; omega)) h
  replace k_x0_1 : ∀ W', Below w11.heap.size w11 W' → W'.cell? ⟨w4.heap.size, 1, none⟩ = some (.slice Aw4 xS.length cw4) := fun W' h => cell_keep (hgw11.cell (p := ⟨w4.heap.size, 1, none⟩) (k_x0_1 _ hL) (fun hs => by have h2 := HB_g0.out (w4.heap.size) hs; omega)) h
  replace k_g0_0 : ∀ W', Below w11.heap.size w11 W' → W'.cell? ⟨w5.heap.size, 0, none⟩ = some (.string ((mChangeWeather sS xS iDay sWeather).1)) := fun W' h => cell_keep (hgw11.cell (p := ⟨w5.heap.size, 0, none⟩) (k_g0_0 _ hL) (fun hs => by have h2 := HB_g0.out (w5.heap.size) hs; omega)) h
  replace k_g0_1 : ∀ W', Below w11.heap.size w11 W' → W'.cell? ⟨w5.heap.size, 1, none⟩ = some (.slice Aw5_0 ((mChangeWeather sS xS iDay sWeather).2.1).length cw5_0) := fun W' h => cell_keep (hgw11.cell (p := ⟨w5.heap.size, 1, none⟩) (k_g0_1 _ hL) (fun hs => by have h2 := HB_g0.out (w5.heap.size) hs; omega)) h
  clear hL haL
  have hL : Below w11.heap.size w11 w11 := ext_refl _
  have haL : ∀ o, Below w11.heap.size w11 (w11.alloc o) := fun o => ext_alloc hL o
  clear hgw11
  go_wp2_with fail
  refine (held_ST _ ((mChangeWeather sS xS iDay sWeather).1) ((mChangeWeather sS xS iDay sWeather).2.1) 1 (by omega) (by omega) _ SM_g0.out ((HO_g0.out.ext (ext_refl _)).rd)).mono ?_
  rintro e w12 ⟨rfl, hbw12⟩
  have hcw12 : Below w11.heap.size w11 w12 := ext_trans (ext_refl _) hbw12
  have HW_ : Hid (Below w.heap.size w w12) := Lib.hid (ext_trans HW.out hcw12)
  have zw12 := hcw12.size
  have HO_w0_ := Lib.hid (HO_w0.out.ext hcw12); clear HO_w0; have HO_w0 := HO_w0_; clear HO_w0_
  have HO_x0_ := Lib.hid (HO_x0.out.ext hcw12); clear HO_x0; have HO_x0 := HO_x0_; clear HO_x0_
  have HO_g0_ := Lib.hid (HO_g0.out.ext hcw12); clear HO_g0; have HO_g0 := HO_g0_; clear HO_g0_
  clear HW; have HW := HW_; clear HW_
  replace hL : Below w11.heap.size w11 w12 := ext_trans hL hcw12
  clear haL
  have haL : ∀ o, Below w11.heap.size w11 (w12.alloc o) := fun o => ext_alloc hL o
  clear hbw12 hcw12
  go_wp2_with fail
  refine (to_ST _ sS xS _ (HRS.out _ (ext_trans HW.out (ext_refl _))) SmS.out).mono ?_
  rintro e w13 ⟨vw13, rfl, hOw13, hbw13⟩
  go_wp2_with fail
  refine (impl_ChangeWeather _ sS xS iDay sWeather _ hOw13.rd SmS.out HSWeather.out).mono ?_
  rintro e w14 ⟨vw14_0, rfl, ⟨Aw14_0, cw14_0, rfl, hOw14_0⟩, hsmw14_0, hbw14⟩
  have hcw14 : Below w12.heap.size w12 w14 := (ext_trans (ext_trans (ext_refl _) hbw13) hbw14)
  have HW_ : Hid (Below w.heap.size w w14) := Lib.hid (ext_trans HW.out hcw14)
  have zw14 := hcw14.size
  have HO_w0_ := Lib.hid (HO_w0.out.ext hcw14); clear HO_w0; have HO_w0 := HO_w0_; clear HO_w0_
  have HO_x0_ := Lib.hid (HO_x0.out.ext hcw14); clear HO_x0; have HO_x0 := HO_x0_; clear HO_x0_
  have HO_g0_ := Lib.hid (HO_g0.out.ext hcw14); clear HO_g0; have HO_g0 := HO_g0_; clear HO_g0_
  clear HW; have HW := HW_; clear HW_
  replace hL : Below w11.heap.size w11 w14 := ext_trans hL hcw14
  clear haL
  have haL : ∀ o, Below w11.heap.size w11 (w14.alloc o) := fun o => ext_alloc hL o
  clear hcw14 hbw13 hbw14
  clear hOw13
  have hOO : OST w14 (w13.heap.size) (.agg #[.string ((mChangeWeather sS xS iDay sWeather).1), .slice Aw14_0 ((mChangeWeather sS xS iDay sWeather).2.1).length cw14_0]) ((mChangeWeather sS xS iDay sWeather).1) ((mChangeWeather sS xS iDay sWeather).2.1) := ⟨_, _, rfl, hOw14_0⟩
  have HB_h0 : Hid (∀ k, BST (.agg #[.string ((mChangeWeather sS xS iDay sWeather).1), .slice Aw14_0 ((mChangeWeather sS xS iDay sWeather).2.1).length cw14_0]) k → w13.heap.size ≤ k ∧ k < w14.heap.size) := Lib.hid hOO.ge
  have HO_h0 := Lib.hid hOO; clear hOO
  have SM_h0 := Lib.hid hsmw14_0; clear hsmw14_0
  go_wp2_with fail
  refine (eq_ST _ _ ((mChangeWeather sS xS iDay sWeather).1) ((mChangeWeather sS xS iDay sWeather).2.1) _ ((HO_h0.out.ext (ext_alloc (ext_refl _) _)).rd) ((HO_w0.out.ext (ext_alloc (ext_refl _) _)).rd)).mono ?_
  rintro e w15 ⟨rfl, hbw15⟩
  have hcw15 : Below w14.heap.size w14 w15 := ext_trans (ext_alloc (ext_refl _) _) hbw15
  have HW_ : Hid (Below w.heap.size w w15) := Lib.hid (ext_trans HW.out hcw15)
  have zw15 := hcw15.size
  have HO_w0_ := Lib.hid (HO_w0.out.ext hcw15); clear HO_w0; have HO_w0 := HO_w0_; clear HO_w0_
  have HO_x0_ := Lib.hid (HO_x0.out.ext hcw15); clear HO_x0; have HO_x0 := HO_x0_; clear HO_x0_
  have HO_g0_ := Lib.hid (HO_g0.out.ext hcw15); clear HO_g0; have HO_g0 := HO_g0_; clear HO_g0_
  have HO_h0_ := Lib.hid (HO_h0.out.ext hcw15); clear HO_h0; have HO_h0 := HO_h0_; clear HO_h0_
  clear HW; have HW := HW_; clear HW_
  have yw15 := Below.size hbw15
  simp only [World.size_alloc] at yw15
  have k_h0_0 : ∀ W', Below w15.heap.size w15 W' → W'.cell? ⟨w14.heap.size, 0, none⟩ = some (.string ((mChangeWeather sS xS iDay sWeather).1)) := fun W' h => cell_keep (cell_keep (p := ⟨w14.heap.size, 0, none⟩) (v := .string ((mChangeWeather sS xS iDay sWeather).1)) (by simp [go_sem]) hbw15) h
  have k_h0_1 : ∀ W', Below w15.heap.size w15 W' → W'.cell? ⟨w14.heap.size, 1, none⟩ = some (.slice Aw14_0 ((mChangeWeather sS xS iDay sWeather).2.1).length cw14_0) := fun W' h => cell_keep (cell_keep (p := ⟨w14.heap.size, 1, none⟩) (v := .slice Aw14_0 ((mChangeWeather sS xS iDay sWeather).2.1).length cw14_0) (by simp [go_sem]) hbw15) h
  replace k_aS_0 : ∀ W', Below w15.heap.size w15 W' → W'.cell? ⟨w.heap.size, 0, none⟩ = some (.string sS) := fun W' h => k_aS_0 W' (ext_trans (ext_trans hL hcw15) h)
  replace k_aS_1 : ∀ W', Below w15.heap.size w15 W' → W'.cell? ⟨w.heap.size, 1, none⟩ = some (.slice AS xS.length cS) := fun W' h => k_aS_1 W' (ext_trans (ext_trans hL hcw15) h)
  replace k_w0_0 : ∀ W', Below w15.heap.size w15 W' → W'.cell? ⟨w3.heap.size, 0, none⟩ = some (.string ((mChangeWeather sS xS iDay sWeather).1)) := fun W' h => k_w0_0 W' (ext_trans (ext_trans hL hcw15) h)
  replace k_w0_1 : ∀ W', Below w15.heap.size w15 W' → W'.cell? ⟨w3.heap.size, 1, none⟩ = some (.slice Aw3_0 ((mChangeWeather sS xS iDay sWeather).2.1).length cw3_0) := fun W' h => k_w0_1 W' (ext_trans (ext_trans hL hcw15) h)
  replace k_x0_0 : ∀ W', Below w15.heap.size w15 W' → W'.cell? ⟨w4.heap.size, 0, none⟩ = some (.string sS) := fun W' h => k_x0_0 W' (ext_trans (ext_trans hL hcw15) h)
  replace k_x0_1 : ∀ W', Below w15.heap.size w15 W' → W'.cell? ⟨w4.heap.size, 1, none⟩ = some (.slice Aw4 xS.length cw4) := fun W' h => k_x0_1 W' (ext_trans (ext_trans hL hcw15) h)
  replace k_g0_0 : ∀ W', Below w15.heap.size w15 W' → W'.cell? ⟨w5.heap.size, 0, none⟩ = some (.string ((mChangeWeather sS xS iDay sWeather).1)) := fun W' h => k_g0_0 W' (ext_trans (ext_trans hL hcw15) h)
  replace k_g0_1 : ∀ W', Below w15.heap.size w15 W' → W'.cell? ⟨w5.heap.size, 1, none⟩ = some (.slice Aw5_0 ((mChangeWeather sS xS iDay sWeather).2.1).length cw5_0) := fun W' h => k_g0_1 W' (ext_trans (ext_trans hL hcw15) h)
  clear hL haL
  have hL : Below w15.heap.size w15 w15 := ext_refl _
  have haL : ∀ o, Below w15.heap.size w15 (w15.alloc o) := fun o => ext_alloc hL o
  clear hbw15 hcw15
  go_wp2_with fail
  refine (held_ST _ ((mChangeWeather sS xS iDay sWeather).1) ((mChangeWeather sS xS iDay sWeather).2.1) 1 (by omega) (by omega) _ SM_g0.out ((HO_g0.out.ext (ext_refl _)).rd)).mono ?_
  rintro e w16 ⟨rfl, hbw16⟩
  have hcw16 : Below w15.heap.size w15 w16 := ext_trans (ext_refl _) hbw16
  have HW_ : Hid (Below w.heap.size w w16) := Lib.hid (ext_trans HW.out hcw16)
  have zw16 := hcw16.size
  have HO_w0_ := Lib.hid (HO_w0.out.ext hcw16); clear HO_w0; have HO_w0 := HO_w0_; clear HO_w0_
  have HO_x0_ := Lib.hid (HO_x0.out.ext hcw16); clear HO_x0; have HO_x0 := HO_x0_; clear HO_x0_
  have HO_g0_ := Lib.hid (HO_g0.out.ext hcw16); clear HO_g0; have HO_g0 := HO_g0_; clear HO_g0_
  have HO_h0_ := Lib.hid (HO_h0.out.ext hcw16); clear HO_h0; have HO_h0 := HO_h0_; clear HO_h0_
  clear HW; have HW := HW_; clear HW_
  replace hL : Below w15.heap.size w15 w16 := ext_trans hL hcw16
  clear haL
  have haL : ∀ o, Below w15.heap.size w15 (w16.alloc o) := fun o => ext_alloc hL o
  clear hbw16 hcw16
  go_wp2_with fail
  go_ret
  exact ⟨rfl, ext_trans HW.out (ext_refl _)⟩

theorem rd_FnExactChangeWeather : ∀ t ∈ Try.f7.params.toList, Try.prog.readableRec t = true ∧ t < Try.prog.types.size := by
  have h : Try.f7.params.toList.all (fun t => Try.prog.readableRec t && decide (t < Try.prog.types.size)) = true := by kernel_rfl
  intro t ht
  have := List.all_eq_true.1 h t ht
  simpa using this

set_option maxRecDepth 100000 in
theorem lifted_FnExactChangeWeather (os : Os) (started : os.Started) (H : Type) (enc : TypeId × Value → H) :
    ReturnsInHanded {} Try.checked os 7 .any (Rows.fnExactChangeWeatherSpec.pre6 enc Try.prog Try.f7 Rows.fnExactChangeWeatherRow.domain false) (Rows.fnExactChangeWeatherSpec.post enc Try.prog Try.f7 false true false false) := by
  refine returnsInHanded_of_change (C := Try.checked) own_knob started (by kernel_rfl) Try.func7
    (ChangeSpec.witness6 (enc := enc) (C := Try.checked) false ⟨#[], #[.agg #[.string ⟨#[]⟩, .slice none 0 0], .int .i64 0, .string ⟨#[]⟩], []⟩ 8 (by kernel_rfl) (by kernel_rfl) (by kernel_rfl) (by kernel_rfl)) ?_
  intro W base args ds gs before hval0 hW hcnd _
  have hval : ∀ (j : Nat) t v, Try.f7.params[j]? = some t → args[j]? = some v → Value.okWide Try.prog W .any base t v := hval0
  have hW' : DataW.Whole enc Try.prog Try.f7.params.toList (Rows.fnExactChangeWeatherSpec).vars false W args.toList ds gs before := hW
  obtain ⟨p, q, hA0, hV, _, hfz, hnd⟩ := hW
  have hA : DataW.TrodAll enc Try.prog W 0 (fun _ => true) true Try.f7.params.toList args.toList ds p := hA0
  rw [Try.params7] at hA hval
  obtain ⟨v0, vs0, d0, ds0, p0, q0, ha0, hd0, hp0, h0, r0⟩ := trodAll_cons hA
  subst hd0 hp0
  obtain ⟨v1, vs1, d1, ds1, p1, q1, ha1, hd1, hp1, h1, r1⟩ := trodAll_cons r0
  subst ha1 hd1 hp1
  obtain ⟨v2, vs2, d2, ds2, p2, q2, ha2, hd2, hp2, h2, r2⟩ := trodAll_cons r1
  subst ha2 hd2 hp2
  obtain ⟨e1, e2, e3⟩ := trodAll_nil r2
  subst e1 e2 e3
  obtain rfl : args = #[v0, v1, v2] := by cases args; simp_all
  obtain ⟨rfl, rfl⟩ := trodVars_none hV
  obtain ⟨s0, x0, hR0, hl0⟩ := open_ST (hval 0 24 v0 rfl rfl) h0
  obtain ⟨i1, rfl, rfl, rfl, wf1⟩ := open_int Try.underlying2 (hval 1 2 v1 rfl rfl) h1
  obtain ⟨s2, rfl, rfl, rfl, ws2⟩ := Go.ChangeMaps.open_string Try.underlying9 (hval 2 9 v2 rfl rfl) h2
  clear hA0 hval0
  refine (law_FnExactChangeWeather v0 s0 x0 i1 s2 W hR0 hl0 ws2).mono fun e W' ⟨he, hb⟩ => ?_
  subst he
  exact ⟨_, rfl, law_post rd_FnExactChangeWeather rfl rfl hW' rfl hb⟩

theorem holds_FnExactChangeWeather : Rows.FnExactChangeWeatherSaid :=
  OpenClaim.holds_of_wide 7 Try.f7 rfl rfl rfl rfl rfl rfl rfl ⟨rfl, rfl, rfl, rfl, rfl⟩ rfl rfl rfl rfl rfl (by kernel_rfl) Try.func7 (by kernel_rfl)
    (of_decide_eq_true (by kernel_rfl)) (by unfold Func.isWrapper; first | (rw [if_pos (by decide +kernel)]; kernel_rfl) | (rw [if_neg (by decide +kernel)]; exact ⟨rfl, rfl⟩))
    (fun os started H enc _ => lifted_FnExactChangeWeather os started H enc)


end Go.Proofs.Ytghdhfnhjfnggaa
