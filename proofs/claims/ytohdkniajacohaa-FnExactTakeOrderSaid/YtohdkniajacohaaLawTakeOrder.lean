/-
  The law FnExactTakeOrder: the program answers as the reference, for all arguments; no condition. The walk and the row; printed by genlaw.py and genrow.py.
-/
import Derived.Test.YtohdkniajacohaaTake
import Derived.Test.YtohdkniajacohaaOrdM
import Derived.Test.YtohdkniajacohaaOrdV
import Derived.ChangeMaps5
import Derived.Deep.RegionHeld3
import Derived.Deep.DrawnRows
namespace Go.Proofs.Ytohdkniajacohaa
open Go.ChangeShapes Go.WideShapes Go.ChangeAt Go.RowKit Go.Sort
set_option linter.unusedVariables false
attribute [local go_sem ↓] Go.wp_at_zero Go.wp_at_succ

set_option maxHeartbeats 2000000 in
set_option maxRecDepth 100000 in
theorem law_FnExactTakeOrder (vList : Value) (lList : List OD) (vX : Value) (oX : OD) (w : World) (hRList : RODS w vList lList) (hlList : LenODS lList) (hRX : ROD w vX oX) (hlX : LenOD oX) :
    Calls Try.prog 4 #[vList, vX] w (Ret (.bool true) w) := by
  obtain ⟨AList, cList, hvList⟩ : ∃ A c, vList = .slice A lList.length c := by obtain ⟨A, c, h, _⟩ := hRList.open_; exact ⟨A, c, h⟩
  subst hvList
  have HRList : Hid (∀ W', Below w.heap.size w W' → RODS W' (.slice AList lList.length cList) lList) := Lib.hid fun W' h => hRList.ext h; clear hRList
  have HlList := Lib.hid hlList; clear hlList
  obtain rfl : vX = _ := hRX
  have HRX : Hid (∀ W', Below w.heap.size w W' → ROD W' (.agg #[.int .i64 oX.id, .string oX.cu, .int .i64 oX.br, .int .i64 oX.due, .int .i64 oX.sent]) oX) := Lib.hid fun W' h => ROD.ext (show ROD w (.agg #[.int .i64 oX.id, .string oX.cu, .int .i64 oX.br, .int .i64 oX.due, .int .i64 oX.sent]) oX from rfl) h
  have HlX := Lib.hid hlX; clear hlX
  have HW : Hid (Below w.heap.size w w) := Lib.hid (ext_refl w)
  go_enter Try.func4, Try.ntmps4
  have hp0 : (0 : Int) ≤ 1048576 := by omega
  have hq0 : (1048576 : Int) ≤ 1048576 := by omega
  go_wp2_with fail
  refine (sz_ODS _ lList 1048576 hp0 hq0 _ HlList.out (HRList.out _ (ext_trans HW.out (ext_alloc (ext_refl _) _)))).mono ?_
  rintro e w1 ⟨rfl, hbw1⟩
  have hcw1 : Below w.heap.size w w1 := ext_trans (ext_alloc (ext_refl _) _) hbw1
  have HW_ : Hid (Below w.heap.size w w1) := Lib.hid (ext_trans HW.out hcw1)
  have zw1 := hcw1.size
  clear HW; have HW := HW_; clear HW_
  have yw1 := Below.size hbw1
  simp only [World.size_alloc] at yw1
  have k_aX_0 : ∀ W', Below w1.heap.size w1 W' → W'.cell? ⟨w.heap.size, 0, none⟩ = some (.int .i64 oX.id) := fun W' h => cell_keep (cell_keep (p := ⟨w.heap.size, 0, none⟩) (v := .int .i64 oX.id) (by simp [go_sem]) hbw1) h
  have k_aX_1 : ∀ W', Below w1.heap.size w1 W' → W'.cell? ⟨w.heap.size, 1, none⟩ = some (.string oX.cu) := fun W' h => cell_keep (cell_keep (p := ⟨w.heap.size, 1, none⟩) (v := .string oX.cu) (by simp [go_sem]) hbw1) h
  have k_aX_2 : ∀ W', Below w1.heap.size w1 W' → W'.cell? ⟨w.heap.size, 2, none⟩ = some (.int .i64 oX.br) := fun W' h => cell_keep (cell_keep (p := ⟨w.heap.size, 2, none⟩) (v := .int .i64 oX.br) (by simp [go_sem]) hbw1) h
  have k_aX_3 : ∀ W', Below w1.heap.size w1 W' → W'.cell? ⟨w.heap.size, 3, none⟩ = some (.int .i64 oX.due) := fun W' h => cell_keep (cell_keep (p := ⟨w.heap.size, 3, none⟩) (v := .int .i64 oX.due) (by simp [go_sem]) hbw1) h
  have k_aX_4 : ∀ W', Below w1.heap.size w1 W' → W'.cell? ⟨w.heap.size, 4, none⟩ = some (.int .i64 oX.sent) := fun W' h => cell_keep (cell_keep (p := ⟨w.heap.size, 4, none⟩) (v := .int .i64 oX.sent) (by simp [go_sem]) hbw1) h
  have hL : Below w1.heap.size w1 w1 := ext_refl _
  have haL : ∀ o, Below w1.heap.size w1 (w1.alloc o) := fun o => ext_alloc hL o
  clear hbw1 hcw1
  obtain ⟨hqw1, hrw1⟩ := szODS_le lList hq0
  go_wp2_with fail
  · go_ret
    exact ⟨rfl, ext_trans HW.out (ext_refl _)⟩
  have hpw1 : 0 ≤ szODS lList 1048576 := by assumption
  go_wp2_with fail
  refine (sz_OD _ oX (szODS lList 1048576) hpw1 hqw1 _ HlX.out (HRX.out _ (ext_trans HW.out (ext_refl _)))).mono ?_
  rintro e w2 ⟨rfl, hbw2⟩
  have hcw2 : Below w1.heap.size w1 w2 := ext_trans (ext_refl _) hbw2
  have HW_ : Hid (Below w.heap.size w w2) := Lib.hid (ext_trans HW.out hcw2)
  have zw2 := hcw2.size
  clear HW; have HW := HW_; clear HW_
  replace hL : Below w1.heap.size w1 w2 := ext_trans hL hcw2
  clear haL
  have haL : ∀ o, Below w1.heap.size w1 (w2.alloc o) := fun o => ext_alloc hL o
  clear hbw2 hcw2
  obtain ⟨hqw2, hrw2⟩ := szOD_le oX hqw1
  go_wp2_with fail
  · go_ret
    exact ⟨rfl, ext_trans HW.out (ext_refl _)⟩
  have hpw2 : 0 ≤ szOD oX (szODS lList 1048576) := by assumption
  obtain ⟨huX, hsmX⟩ := ok_OD hqw1 hpw2
  have SmX := Lib.hid hsmX; clear hsmX
  obtain ⟨huList, hsmList⟩ := ok_ODS hq0 huX
  have SmList := Lib.hid hsmList; clear hsmList
  go_wp2_with fail
  go_region_held3 (fun w' => Below w1.heap.size w1 w') (first | exact ext_drew hL | exact ext_trans (by assumption) (by assumption) | assumption)
    (first
      | (go_at_call 9; (have ht := to_ODS _ lList _ (HRList.out _ (ext_trans HW.out (ext_drew (ext_refl _)))) SmList.out); (with_reducible refine ht.mono ?_); clear ht; rintro e w3 ⟨Aw3, cw3, rfl, hOw3, hbw3⟩)
      | (go_at_call 18; (have ht := to_ODv _ oX _ (HRX.out _ (ext_trans HW.out (ext_trans (ext_drew (ext_refl _)) hbw3))) SmX.out); (with_reducible refine ht.mono ?_); clear ht; rintro e w4 ⟨vw4, rfl, hOw4, hbw4⟩)
      | (go_at_call 17; (have ht := spec_TakeOrder _ lList _ oX _ (hOw3.ext hbw4).rd SmList.out hOw4.rd SmX.out); (with_reducible refine ht.mono ?_); clear ht; rintro e w5 ⟨vw5_0, rfl, hOw5_0, hsmw5_0, hbw5⟩)
      | fail)
  have hcw5 : Below w2.heap.size w2 w5 := (ext_trans (ext_trans (ext_trans (ext_drew (ext_refl _)) hbw3) hbw4) hbw5)
  have zw3 : w2.heap.size ≤ w3.heap.size := by have := hbw3.size; first | exact this | (simp only [World.size_alloc] at this; omega) | (simp at this; omega)
  have zw4 : w3.heap.size ≤ w4.heap.size := by have := hbw4.size; first | exact this | (simp only [World.size_alloc] at this; omega) | (simp at this; omega)
  have HW_ : Hid (Below w.heap.size w w5) := Lib.hid (ext_trans HW.out hcw5)
  have zw5 := hcw5.size
  clear HW; have HW := HW_; clear HW_
  replace hL : Below w1.heap.size w1 w5 := ext_trans hL hcw5
  clear haL
  have haL : ∀ o, Below w1.heap.size w1 (w5.alloc o) := fun o => ext_alloc hL o
  clear hcw5 hbw3 hbw4 hbw5
  clear hOw3 hOw4
  have HB_w0 : Hid (∀ k, BODS (vw5_0) k → w4.heap.size ≤ k ∧ k < w5.heap.size) := Lib.hid hOw5_0.ge
  have HO_w0 := Lib.hid hOw5_0; clear hOw5_0
  have SM_w0 := Lib.hid hsmw5_0; clear hsmw5_0
  go_wp2_with fail
  refine (to_ODS _ lList _ (HRList.out _ (ext_trans HW.out (ext_refl _))) SmList.out).mono ?_
  rintro e w6 ⟨Aw6, cw6, rfl, hOw6, hbw6⟩
  have hOO : OODS w6 (w5.heap.size) (.slice Aw6 lList.length cw6) lList := hOw6
  have hcw6 : Below w5.heap.size w5 w6 := ext_trans (ext_refl _) hbw6
  have HW_ : Hid (Below w.heap.size w w6) := Lib.hid (ext_trans HW.out hcw6)
  have zw6 := hcw6.size
  have HO_w0_ := Lib.hid (HO_w0.out.ext hcw6); clear HO_w0; have HO_w0 := HO_w0_; clear HO_w0_
  clear HW; have HW := HW_; clear HW_
  replace hL : Below w1.heap.size w1 w6 := ext_trans hL hcw6
  clear haL
  have haL : ∀ o, Below w1.heap.size w1 (w6.alloc o) := fun o => ext_alloc hL o
  clear hbw6 hcw6
  have HB_x0 : Hid (∀ k, BODS (.slice Aw6 lList.length cw6) k → w5.heap.size ≤ k ∧ k < w6.heap.size) := Lib.hid hOO.ge
  have HO_x0 := Lib.hid hOO; clear hOO
  go_wp2_with fail
  refine (to_ODv _ oX _ (HRX.out _ (ext_trans HW.out (ext_refl _))) SmX.out).mono ?_
  rintro e w7 ⟨vw7, rfl, hOw7, hbw7⟩
  go_wp2_with fail
  refine (impl_TakeOrder _ lList _ oX _ ((HO_x0.out.ext (ext_trans (ext_refl _) hbw7)).rd) SmList.out hOw7.rd SmX.out).mono ?_
  rintro e w8 ⟨vw8_0, rfl, hOw8_0, hsmw8_0, hbw8⟩
  have hcw8 : Below w6.heap.size w6 w8 := (ext_trans (ext_trans (ext_refl _) hbw7) hbw8)
  have zw7 : w6.heap.size ≤ w7.heap.size := by have := hbw7.size; first | exact this | (simp only [World.size_alloc] at this; omega) | (simp at this; omega)
  have HW_ : Hid (Below w.heap.size w w8) := Lib.hid (ext_trans HW.out hcw8)
  have zw8 := hcw8.size
  have HO_w0_ := Lib.hid (HO_w0.out.ext hcw8); clear HO_w0; have HO_w0 := HO_w0_; clear HO_w0_
  have HO_x0_ := Lib.hid (HO_x0.out.ext hcw8); clear HO_x0; have HO_x0 := HO_x0_; clear HO_x0_
  clear HW; have HW := HW_; clear HW_
  replace hL : Below w1.heap.size w1 w8 := ext_trans hL hcw8
  clear haL
  have haL : ∀ o, Below w1.heap.size w1 (w8.alloc o) := fun o => ext_alloc hL o
  clear hcw8 hbw7 hbw8
  clear hOw7
  have HB_g0 : Hid (∀ k, BODS (vw8_0) k → w7.heap.size ≤ k ∧ k < w8.heap.size) := Lib.hid hOw8_0.ge
  have HO_g0 := Lib.hid hOw8_0; clear hOw8_0
  have SM_g0 := Lib.hid hsmw8_0; clear hsmw8_0
  go_wp2_with fail
  refine (eq_ODS _ _ ((mTakeOrder lList oX).1) _ ((HO_g0.out.ext (ext_refl _)).rd) ((HO_w0.out.ext (ext_refl _)).rd)).mono ?_
  rintro e w9 ⟨rfl, hbw9⟩
  have hcw9 : Below w8.heap.size w8 w9 := ext_trans (ext_refl _) hbw9
  have HW_ : Hid (Below w.heap.size w w9) := Lib.hid (ext_trans HW.out hcw9)
  have zw9 := hcw9.size
  have HO_w0_ := Lib.hid (HO_w0.out.ext hcw9); clear HO_w0; have HO_w0 := HO_w0_; clear HO_w0_
  have HO_x0_ := Lib.hid (HO_x0.out.ext hcw9); clear HO_x0; have HO_x0 := HO_x0_; clear HO_x0_
  have HO_g0_ := Lib.hid (HO_g0.out.ext hcw9); clear HO_g0; have HO_g0 := HO_g0_; clear HO_g0_
  clear HW; have HW := HW_; clear HW_
  replace hL : Below w1.heap.size w1 w9 := ext_trans hL hcw9
  clear haL
  have haL : ∀ o, Below w1.heap.size w1 (w9.alloc o) := fun o => ext_alloc hL o
  clear hbw9 hcw9
  go_wp2_with fail
  refine (to_ODS _ lList _ (HRList.out _ (ext_trans HW.out (ext_refl _))) SmList.out).mono ?_
  rintro e w10 ⟨Aw10, cw10, rfl, hOw10, hbw10⟩
  go_wp2_with fail
  refine (eq_ODS _ _ lList _ ((HO_x0.out.ext (ext_trans (ext_refl _) hbw10)).rd) hOw10.rd).mono ?_
  rintro e w11 ⟨rfl, hbw11⟩
  have hcw11 : Below w9.heap.size w9 w11 := (ext_trans (ext_trans (ext_refl _) hbw10) hbw11)
  have zw10 : w9.heap.size ≤ w10.heap.size := by have := hbw10.size; first | exact this | (simp only [World.size_alloc] at this; omega) | (simp at this; omega)
  have HW_ : Hid (Below w.heap.size w w11) := Lib.hid (ext_trans HW.out hcw11)
  have zw11 := hcw11.size
  have HO_w0_ := Lib.hid (HO_w0.out.ext hcw11); clear HO_w0; have HO_w0 := HO_w0_; clear HO_w0_
  have HO_x0_ := Lib.hid (HO_x0.out.ext hcw11); clear HO_x0; have HO_x0 := HO_x0_; clear HO_x0_
  have HO_g0_ := Lib.hid (HO_g0.out.ext hcw11); clear HO_g0; have HO_g0 := HO_g0_; clear HO_g0_
  clear HW; have HW := HW_; clear HW_
  replace hL : Below w1.heap.size w1 w11 := ext_trans hL hcw11
  clear haL
  have haL : ∀ o, Below w1.heap.size w1 (w11.alloc o) := fun o => ext_alloc hL o
  clear hcw11 hbw10 hbw11
  clear hOw10
  go_wp2_with fail
  refine (mark_ODS _ _ lList 1 (by omega) (by first | omega | (have q_List := SmList.out; unfold SmODS at q_List; have q_X := SmX.out; unfold SmOD at q_X; have q_w0 := SM_w0.out; unfold SmODS at q_w0; have q_g0 := SM_g0.out; unfold SmODS at q_g0; omega)) _ SmList.out (HO_x0.out.ext (ext_refl _))).mono ?_
  rintro e w12 ⟨rfl, hOw12, hgw12⟩
  have zw12 := hgw12.size
  have HW_ : Hid (Below w.heap.size w w12) := Lib.hid (Chg.ext (ext_trans HW.out (ext_refl _)) hgw12 (fun k hk => by have := HB_x0.out k hk; omega)); clear HW; have HW := HW_; clear HW_
  have HO_w0_ := Lib.hid ((HO_w0.out.ext (ext_refl _)).chg hgw12 (fun k hk hs => by have h1 := HB_w0.out k hk; have h2 := HB_x0.out k hs; omega)); clear HO_w0; have HO_w0 := HO_w0_; clear HO_w0_
  have HO_g0_ := Lib.hid ((HO_g0.out.ext (ext_refl _)).chg hgw12 (fun k hk hs => by have h1 := HB_g0.out k hk; have h2 := HB_x0.out k hs; omega)); clear HO_g0; have HO_g0 := HO_g0_; clear HO_g0_
  clear HO_x0; have HO_x0 := Lib.hid hOw12; clear hOw12
  replace k_aX_0 : ∀ W', Below w12.heap.size w12 W' → W'.cell? ⟨w.heap.size, 0, none⟩ = some (.int .i64 oX.id) := fun W' h => cell_keep (hgw12.cell (p := ⟨w.heap.size, 0, none⟩) (k_aX_0 _ hL) (fun hs => by have h2 := HB_x0.out (w.heap.size) hs; omega)) h
  replace k_aX_1 : ∀ W', Below w12.heap.size w12 W' → W'.cell? ⟨w.heap.size, 1, none⟩ = some (.string oX.cu) := fun W' h => cell_keep (hgw12.cell (p := ⟨w.heap.size, 1, none⟩) (k_aX_1 _ hL) (fun hs => by have h2 := HB_x0.out (w.heap.size) hs; omega)) h
  replace k_aX_2 : ∀ W', Below w12.heap.size w12 W' → W'.cell? ⟨w.heap.size, 2, none⟩ = some (.int .i64 oX.br) := fun W' h => cell_keep (hgw12.cell (p := ⟨w.heap.size, 2, none⟩) (k_aX_2 _ hL) (fun hs => by have h2 := HB_x0.out (w.heap.size) hs; omega)) h
  replace k_aX_3 : ∀ W', Below w12.heap.size w12 W' → W'.cell? ⟨w.heap.size, 3, none⟩ = some (.int .i64 oX.due) := fun W' h => cell_keep (hgw12.cell (p := ⟨w.heap.size, 3, none⟩) (k_aX_3 _ hL) (fun hs => by have h2 := HB_x0.out (w.heap.size) hs; omega)) h
  replace k_aX_4 : ∀ W', Below w12.heap.size w12 W' → W'.cell? ⟨w.heap.size, 4, none⟩ = some (.int .i64 oX.sent) := fun W' h => cell_keep (hgw12.cell (p := ⟨w.heap.size, 4, none⟩) (k_aX_4 _ hL) (fun hs => by have h2 := HB_x0.out (w.heap.size) hs; omega)) h
  clear hL haL
  have hL : Below w12.heap.size w12 w12 := ext_refl _
  have haL : ∀ o, Below w12.heap.size w12 (w12.alloc o) := fun o => ext_alloc hL o
  clear hgw12
  go_wp2_with fail
  refine (eq_ODS _ _ ((mTakeOrder lList oX).1) _ ((HO_g0.out.ext (ext_refl _)).rd) ((HO_w0.out.ext (ext_refl _)).rd)).mono ?_
  rintro e w13 ⟨rfl, hbw13⟩
  have hcw13 : Below w12.heap.size w12 w13 := ext_trans (ext_refl _) hbw13
  have HW_ : Hid (Below w.heap.size w w13) := Lib.hid (ext_trans HW.out hcw13)
  have zw13 := hcw13.size
  have HO_w0_ := Lib.hid (HO_w0.out.ext hcw13); clear HO_w0; have HO_w0 := HO_w0_; clear HO_w0_
  have HO_x0_ := Lib.hid (HO_x0.out.ext hcw13); clear HO_x0; have HO_x0 := HO_x0_; clear HO_x0_
  have HO_g0_ := Lib.hid (HO_g0.out.ext hcw13); clear HO_g0; have HO_g0 := HO_g0_; clear HO_g0_
  clear HW; have HW := HW_; clear HW_
  replace hL : Below w12.heap.size w12 w13 := ext_trans hL hcw13
  clear haL
  have haL : ∀ o, Below w12.heap.size w12 (w13.alloc o) := fun o => ext_alloc hL o
  clear hbw13 hcw13
  go_wp2_with fail
  refine (mark_ODS _ _ ((mTakeOrder lList oX).1) 1 (by omega) (by first | omega | (have q_List := SmList.out; unfold SmODS at q_List; have q_X := SmX.out; unfold SmOD at q_X; have q_w0 := SM_w0.out; unfold SmODS at q_w0; have q_g0 := SM_g0.out; unfold SmODS at q_g0; omega)) _ SM_g0.out (HO_g0.out.ext (ext_refl _))).mono ?_
  rintro e w14 ⟨rfl, hOw14, hgw14⟩
  have zw14 := hgw14.size
  have HW_ : Hid (Below w.heap.size w w14) := Lib.hid (Chg.ext (ext_trans HW.out (ext_refl _)) hgw14 (fun k hk => by have := HB_g0.out k hk; omega)); clear HW; have HW := HW_; clear HW_
  have HO_w0_ := Lib.hid ((HO_w0.out.ext (ext_refl _)).chg hgw14 (fun k hk hs => by have h1 := HB_w0.out k hk; have h2 := HB_g0.out k hs; omega)); clear HO_w0; have HO_w0 := HO_w0_; clear HO_w0_
  have HO_x0_ := Lib.hid ((HO_x0.out.ext (ext_refl _)).chg hgw14 (fun k hk hs => by have h1 := HB_x0.out k hk; have h2 := HB_g0.out k hs; omega)); clear HO_x0; have HO_x0 := HO_x0_; clear HO_x0_
  clear HO_g0; have HO_g0 := Lib.hid hOw14; clear hOw14
  replace k_aX_0 : ∀ W', Below w14.heap.size w14 W' → W'.cell? ⟨w.heap.size, 0, none⟩ = some (.int .i64 oX.id) := fun W' h => cell_keep (hgw14.cell (p := ⟨w.heap.size, 0, none⟩) (k_aX_0 _ hL) (fun hs => by have h2 := HB_g0.out (w.heap.size) hs; omega)) h
  replace k_aX_1 : ∀ W', Below w14.heap.size w14 W' → W'.cell? ⟨w.heap.size, 1, none⟩ = some (.string oX.cu) := fun W' h => cell_keep (hgw14.cell (p := ⟨w.heap.size, 1, none⟩) (k_aX_1 _ hL) (fun hs => by have h2 := HB_g0.out (w.heap.size) hs; omega)) h
  replace k_aX_2 : ∀ W', Below w14.heap.size w14 W' → W'.cell? ⟨w.heap.size, 2, none⟩ = some (.int .i64 oX.br) := fun W' h => cell_keep (hgw14.cell (p := ⟨w.heap.size, 2, none⟩) (k_aX_2 _ hL) (fun hs => by have h2 := HB_g0.out (w.heap.size) hs; omega)) h
  replace k_aX_3 : ∀ W', Below w14.heap.size w14 W' → W'.cell? ⟨w.heap.size, 3, none⟩ = some (.int .i64 oX.due) := fun W' h => cell_keep (hgw14.cell (p := ⟨w.heap.size, 3, none⟩) (k_aX_3 _ hL) (fun hs => by have h2 := HB_g0.out (w.heap.size) hs; omega)) h
  replace k_aX_4 : ∀ W', Below w14.heap.size w14 W' → W'.cell? ⟨w.heap.size, 4, none⟩ = some (.int .i64 oX.sent) := fun W' h => cell_keep (hgw14.cell (p := ⟨w.heap.size, 4, none⟩) (k_aX_4 _ hL) (fun hs => by have h2 := HB_g0.out (w.heap.size) hs; omega)) h
  clear hL haL
  have hL : Below w14.heap.size w14 w14 := ext_refl _
  have haL : ∀ o, Below w14.heap.size w14 (w14.alloc o) := fun o => ext_alloc hL o
  clear hgw14
  go_wp2_with fail
  refine (held_ODS _ ((mTakeOrder lList oX).1) 1 (by omega) (by first | omega | (have q_List := SmList.out; unfold SmODS at q_List; have q_X := SmX.out; unfold SmOD at q_X; have q_w0 := SM_w0.out; unfold SmODS at q_w0; have q_g0 := SM_g0.out; unfold SmODS at q_g0; omega)) _ SM_g0.out ((HO_g0.out.ext (ext_refl _)).rd)).mono ?_
  rintro e w15 ⟨rfl, hbw15⟩
  have hcw15 : Below w14.heap.size w14 w15 := ext_trans (ext_refl _) hbw15
  have HW_ : Hid (Below w.heap.size w w15) := Lib.hid (ext_trans HW.out hcw15)
  have zw15 := hcw15.size
  have HO_w0_ := Lib.hid (HO_w0.out.ext hcw15); clear HO_w0; have HO_w0 := HO_w0_; clear HO_w0_
  have HO_x0_ := Lib.hid (HO_x0.out.ext hcw15); clear HO_x0; have HO_x0 := HO_x0_; clear HO_x0_
  have HO_g0_ := Lib.hid (HO_g0.out.ext hcw15); clear HO_g0; have HO_g0 := HO_g0_; clear HO_g0_
  clear HW; have HW := HW_; clear HW_
  replace hL : Below w14.heap.size w14 w15 := ext_trans hL hcw15
  clear haL
  have haL : ∀ o, Below w14.heap.size w14 (w15.alloc o) := fun o => ext_alloc hL o
  clear hbw15 hcw15
  go_wp2_with fail
  go_region_held3 (fun w' => Below w14.heap.size w14 w') (first | exact ext_drew hL | exact ext_trans (by assumption) (by assumption) | assumption)
    (first
      | (go_at_call 9; (have ht := to_ODS _ lList _ (HRList.out _ (ext_trans HW.out (ext_drew (ext_refl _)))) SmList.out); (with_reducible refine ht.mono ?_); clear ht; rintro e w16 ⟨Aw16, cw16, rfl, hOw16, hbw16⟩)
      | (go_at_call 18; (have ht := to_ODv _ oX _ (HRX.out _ (ext_trans HW.out (ext_trans (ext_drew (ext_refl _)) hbw16))) SmX.out); (with_reducible refine ht.mono ?_); clear ht; rintro e w17 ⟨vw17, rfl, hOw17, hbw17⟩)
      | (go_at_call 19; (have ht := impl_TakeOrder _ lList _ oX _ (hOw16.ext hbw17).rd SmList.out hOw17.rd SmX.out); (with_reducible refine ht.mono ?_); clear ht; rintro e w18 ⟨vw18_0, rfl, hOw18_0, hsmw18_0, hbw18⟩)
      | fail)
  have hcw18 : Below w15.heap.size w15 w18 := (ext_trans (ext_trans (ext_trans (ext_drew (ext_refl _)) hbw16) hbw17) hbw18)
  have zw16 : w15.heap.size ≤ w16.heap.size := by have := hbw16.size; first | exact this | (simp only [World.size_alloc] at this; omega) | (simp at this; omega)
  have zw17 : w16.heap.size ≤ w17.heap.size := by have := hbw17.size; first | exact this | (simp only [World.size_alloc] at this; omega) | (simp at this; omega)
  have HW_ : Hid (Below w.heap.size w w18) := Lib.hid (ext_trans HW.out hcw18)
  have zw18 := hcw18.size
  have HO_w0_ := Lib.hid (HO_w0.out.ext hcw18); clear HO_w0; have HO_w0 := HO_w0_; clear HO_w0_
  have HO_x0_ := Lib.hid (HO_x0.out.ext hcw18); clear HO_x0; have HO_x0 := HO_x0_; clear HO_x0_
  have HO_g0_ := Lib.hid (HO_g0.out.ext hcw18); clear HO_g0; have HO_g0 := HO_g0_; clear HO_g0_
  clear HW; have HW := HW_; clear HW_
  replace hL : Below w14.heap.size w14 w18 := ext_trans hL hcw18
  clear haL
  have haL : ∀ o, Below w14.heap.size w14 (w18.alloc o) := fun o => ext_alloc hL o
  clear hcw18 hbw16 hbw17 hbw18
  clear hOw16 hOw17
  have HB_h0 : Hid (∀ k, BODS (vw18_0) k → w17.heap.size ≤ k ∧ k < w18.heap.size) := Lib.hid hOw18_0.ge
  have HO_h0 := Lib.hid hOw18_0; clear hOw18_0
  have SM_h0 := Lib.hid hsmw18_0; clear hsmw18_0
  go_wp2_with fail
  refine (eq_ODS _ _ ((mTakeOrder lList oX).1) _ ((HO_h0.out.ext (ext_refl _)).rd) ((HO_w0.out.ext (ext_refl _)).rd)).mono ?_
  rintro e w19 ⟨rfl, hbw19⟩
  have hcw19 : Below w18.heap.size w18 w19 := ext_trans (ext_refl _) hbw19
  have HW_ : Hid (Below w.heap.size w w19) := Lib.hid (ext_trans HW.out hcw19)
  have zw19 := hcw19.size
  have HO_w0_ := Lib.hid (HO_w0.out.ext hcw19); clear HO_w0; have HO_w0 := HO_w0_; clear HO_w0_
  have HO_x0_ := Lib.hid (HO_x0.out.ext hcw19); clear HO_x0; have HO_x0 := HO_x0_; clear HO_x0_
  have HO_g0_ := Lib.hid (HO_g0.out.ext hcw19); clear HO_g0; have HO_g0 := HO_g0_; clear HO_g0_
  have HO_h0_ := Lib.hid (HO_h0.out.ext hcw19); clear HO_h0; have HO_h0 := HO_h0_; clear HO_h0_
  clear HW; have HW := HW_; clear HW_
  replace hL : Below w14.heap.size w14 w19 := ext_trans hL hcw19
  clear haL
  have haL : ∀ o, Below w14.heap.size w14 (w19.alloc o) := fun o => ext_alloc hL o
  clear hbw19 hcw19
  go_wp2_with fail
  refine (held_ODS _ ((mTakeOrder lList oX).1) 1 (by omega) (by first | omega | (have q_List := SmList.out; unfold SmODS at q_List; have q_X := SmX.out; unfold SmOD at q_X; have q_w0 := SM_w0.out; unfold SmODS at q_w0; have q_g0 := SM_g0.out; unfold SmODS at q_g0; have q_h0 := SM_h0.out; unfold SmODS at q_h0; omega)) _ SM_g0.out ((HO_g0.out.ext (ext_refl _)).rd)).mono ?_
  rintro e w20 ⟨rfl, hbw20⟩
  have hcw20 : Below w19.heap.size w19 w20 := ext_trans (ext_refl _) hbw20
  have HW_ : Hid (Below w.heap.size w w20) := Lib.hid (ext_trans HW.out hcw20)
  have zw20 := hcw20.size
  have HO_w0_ := Lib.hid (HO_w0.out.ext hcw20); clear HO_w0; have HO_w0 := HO_w0_; clear HO_w0_
  have HO_x0_ := Lib.hid (HO_x0.out.ext hcw20); clear HO_x0; have HO_x0 := HO_x0_; clear HO_x0_
  have HO_g0_ := Lib.hid (HO_g0.out.ext hcw20); clear HO_g0; have HO_g0 := HO_g0_; clear HO_g0_
  have HO_h0_ := Lib.hid (HO_h0.out.ext hcw20); clear HO_h0; have HO_h0 := HO_h0_; clear HO_h0_
  clear HW; have HW := HW_; clear HW_
  replace hL : Below w14.heap.size w14 w20 := ext_trans hL hcw20
  clear haL
  have haL : ∀ o, Below w14.heap.size w14 (w20.alloc o) := fun o => ext_alloc hL o
  clear hbw20 hcw20
  go_wp2_with fail
  go_ret
  exact ⟨rfl, ext_trans HW.out (ext_refl _)⟩

theorem rd_FnExactTakeOrder : ∀ t ∈ Try.f4.params.toList, Try.prog.readableRec t = true ∧ t < Try.prog.types.size := by
  have h : Try.f4.params.toList.all (fun t => Try.prog.readableRec t && decide (t < Try.prog.types.size)) = true := by kernel_rfl
  intro t ht
  have := List.all_eq_true.1 h t ht
  simpa using this

set_option maxRecDepth 100000 in
theorem lifted_FnExactTakeOrder (os : Os) (started : os.Started) (H : Type) (enc : TypeId × Value → H) :
    ReturnsInHanded {} Try.checked os 4 .any (Rows.fnExactTakeOrderSpec.pre6 enc Try.prog Try.f4 Rows.fnExactTakeOrderRow.domain false) (Rows.fnExactTakeOrderSpec.post enc Try.prog Try.f4 false true false false) := by
  refine returnsInHanded_of_change (C := Try.checked) own_knob started (by kernel_rfl) Try.func4
    (ChangeSpec.witness6 (enc := enc) (C := Try.checked) false ⟨#[], #[.slice none 0 0, .agg #[.int .i64 0, .string ⟨#[]⟩, .int .i64 0, .int .i64 0, .int .i64 0]], []⟩ 8 (by kernel_rfl) (by kernel_rfl) (by kernel_rfl) (by kernel_rfl)) ?_
  intro W base args ds gs before hval0 hW hcnd _
  have hval : ∀ (j : Nat) t v, Try.f4.params[j]? = some t → args[j]? = some v → Value.okWide Try.prog W .any base t v := hval0
  have hW' : DataW.Whole enc Try.prog Try.f4.params.toList (Rows.fnExactTakeOrderSpec).vars false W args.toList ds gs before := hW
  obtain ⟨p, q, hA0, hV, _, hfz, hnd⟩ := hW
  have hA : DataW.TrodAll enc Try.prog W 0 (fun _ => true) true Try.f4.params.toList args.toList ds p := hA0
  rw [Try.params4] at hA hval
  obtain ⟨v0, vs0, d0, ds0, p0, q0, ha0, hd0, hp0, h0, rr0⟩ := trodAll_cons hA
  subst hd0 hp0
  obtain ⟨v1, vs1, d1, ds1, p1, q1, ha1, hd1, hp1, h1, rr1⟩ := trodAll_cons rr0
  subst ha1 hd1 hp1
  obtain ⟨e1, e2, e3⟩ := trodAll_nil rr1
  subst e1 e2 e3
  obtain rfl : args = #[v0, v1] := by cases args; simp_all
  obtain ⟨rfl, rfl⟩ := trodVars_none hV
  obtain ⟨l0, hR0, hl0⟩ := open_ODS (hval 0 22 v0 rfl rfl) h0
  obtain ⟨o1, hR1, hl1⟩ := open_OD (hval 1 35 v1 rfl rfl) h1
  clear hA0 hval0
  refine (law_FnExactTakeOrder v0 l0 v1 o1 W hR0 hl0 hR1 hl1).mono fun e W' ⟨he, hb⟩ => ?_
  subst he
  exact ⟨_, rfl, law_post rd_FnExactTakeOrder rfl rfl hW' rfl hb⟩

theorem holds_FnExactTakeOrder : Rows.FnExactTakeOrderSaid :=
  OpenClaim.holds_of_wide 4 Try.f4 rfl rfl rfl rfl rfl rfl rfl ⟨rfl, rfl, rfl, rfl, rfl⟩ rfl rfl rfl rfl rfl (by kernel_rfl) Try.func4 (by kernel_rfl)
    (of_decide_eq_true (by kernel_rfl)) (by unfold Func.isWrapper; first | (rw [if_pos (by decide +kernel)]; kernel_rfl) | (rw [if_neg (by decide +kernel)]; exact ⟨rfl, rfl⟩))
    (fun os started H enc _ => lifted_FnExactTakeOrder os started H enc)


end Go.Proofs.Ytohdkniajacohaa
