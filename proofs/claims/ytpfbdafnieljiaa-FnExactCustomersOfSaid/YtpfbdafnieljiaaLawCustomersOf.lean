/-
  The law FnExactCustomersOf: the program answers as the reference, for all arguments; no condition. The walk and the row; printed by genlaw.py and genrow.py.
-/
import Derived.Test.YtpfbdafnieljiaaCust2
import Derived.Test.YtpfbdafnieljiaaOrdM
import Derived.ChangeMaps5
import Derived.Deep.RegionHeld3
import Derived.Deep.DrawnRows
namespace Go.Proofs.Ytpfbdafnieljiaa
open Go.ChangeShapes Go.WideShapes Go.ChangeAt Go.RowKit Go.Sort
set_option linter.unusedVariables false
attribute [local go_sem ↓] Go.wp_at_zero Go.wp_at_succ

set_option maxHeartbeats 2000000 in
set_option maxRecDepth 100000 in
theorem law_FnExactCustomersOf (vList : Value) (lList : List OD) (w : World) (hRList : RODS w vList lList) (hlList : LenODS lList) :
    Calls Try.prog 8 #[vList] w (Ret (.bool true) w) := by
  obtain ⟨AList, cList, hvList⟩ : ∃ A c, vList = .slice A lList.length c := by obtain ⟨A, c, h, _⟩ := hRList.open_; exact ⟨A, c, h⟩
  subst hvList
  have HRList : Hid (∀ W', Below w.heap.size w W' → RODS W' (.slice AList lList.length cList) lList) := Lib.hid fun W' h => hRList.ext h; clear hRList
  have HlList := Lib.hid hlList; clear hlList
  have HW : Hid (Below w.heap.size w w) := Lib.hid (ext_refl w)
  go_enter Try.func8, Try.ntmps8
  have hp0 : (0 : Int) ≤ 1048576 := by omega
  have hq0 : (1048576 : Int) ≤ 1048576 := by omega
  go_wp2_with fail
  refine (sz_ODS _ lList 1048576 hp0 hq0 _ HlList.out (HRList.out _ (ext_trans HW.out (ext_refl _)))).mono ?_
  rintro e w1 ⟨rfl, hbw1⟩
  have hcw1 : Below w.heap.size w w1 := ext_trans (ext_refl _) hbw1
  have HW_ : Hid (Below w.heap.size w w1) := Lib.hid (ext_trans HW.out hcw1)
  have zw1 := hcw1.size
  clear HW; have HW := HW_; clear HW_
  clear hbw1 hcw1
  obtain ⟨hqw1, hrw1⟩ := szODS_le lList hq0
  go_wp2_with fail
  · go_ret
    exact ⟨rfl, ext_trans HW.out (ext_refl _)⟩
  have hpw1 : 0 ≤ szODS lList 1048576 := by assumption
  obtain ⟨huList, hsmList⟩ := ok_ODS hq0 hpw1
  have SmList := Lib.hid hsmList; clear hsmList
  go_wp2_with fail
  refine (to_ODS _ lList _ (HRList.out _ (ext_trans HW.out (ext_refl _))) SmList.out).mono ?_
  rintro e w2 ⟨Aw2, cw2, rfl, hOw2, hbw2⟩
  go_wp2_with fail
  refine (spec_CustomersOf _ lList _ hOw2.rd SmList.out).mono ?_
  rintro e w3 ⟨vw3_0, vw3_1, rfl, hOw3_0, hsmw3_0, hOw3_1, hsmw3_1, hapw3, hbw3⟩
  have hcw3 : Below w1.heap.size w1 w3 := (ext_trans (ext_trans (ext_refl _) hbw2) hbw3)
  have HW_ : Hid (Below w.heap.size w w3) := Lib.hid (ext_trans HW.out hcw3)
  have zw3 := hcw3.size
  clear HW; have HW := HW_; clear HW_
  clear hcw3 hbw2 hbw3
  clear hOw2
  have HB_w0 : Hid (∀ k, BStr (vw3_0) k → w2.heap.size ≤ k ∧ k < w3.heap.size) := Lib.hid hOw3_0.ge
  have HO_w0 := Lib.hid hOw3_0; clear hOw3_0
  have SM_w0 := Lib.hid hsmw3_0; clear hsmw3_0
  have HB_w1 : Hid (∀ k, BI (vw3_1) k → w2.heap.size ≤ k ∧ k < w3.heap.size) := Lib.hid hOw3_1.ge
  have HO_w1 := Lib.hid hOw3_1; clear hOw3_1
  have SM_w1 := Lib.hid hsmw3_1; clear hsmw3_1
  go_wp2_with fail
  refine (to_ODS _ lList _ (HRList.out _ (ext_trans HW.out (ext_refl _))) SmList.out).mono ?_
  rintro e w4 ⟨Aw4, cw4, rfl, hOw4, hbw4⟩
  have hOO : OODS w4 (w3.heap.size) (.slice Aw4 lList.length cw4) lList := hOw4
  have hcw4 : Below w3.heap.size w3 w4 := ext_trans (ext_refl _) hbw4
  have HW_ : Hid (Below w.heap.size w w4) := Lib.hid (ext_trans HW.out hcw4)
  have zw4 := hcw4.size
  have HO_w0_ := Lib.hid (HO_w0.out.ext hcw4); clear HO_w0; have HO_w0 := HO_w0_; clear HO_w0_
  have HO_w1_ := Lib.hid (HO_w1.out.ext hcw4); clear HO_w1; have HO_w1 := HO_w1_; clear HO_w1_
  clear HW; have HW := HW_; clear HW_
  clear hbw4 hcw4
  have HB_x0 : Hid (∀ k, BODS (.slice Aw4 lList.length cw4) k → w3.heap.size ≤ k ∧ k < w4.heap.size) := Lib.hid hOO.ge
  have HO_x0 := Lib.hid hOO; clear hOO
  go_wp2_with fail
  refine (impl_CustomersOf _ lList _ ((HO_x0.out.ext (ext_refl _)).rd) SmList.out).mono ?_
  rintro e w5 ⟨vw5_0, vw5_1, rfl, hOw5_0, hsmw5_0, hOw5_1, hsmw5_1, hapw5, hbw5⟩
  have hcw5 : Below w4.heap.size w4 w5 := (ext_trans (ext_refl _) hbw5)
  have HW_ : Hid (Below w.heap.size w w5) := Lib.hid (ext_trans HW.out hcw5)
  have zw5 := hcw5.size
  have HO_w0_ := Lib.hid (HO_w0.out.ext hcw5); clear HO_w0; have HO_w0 := HO_w0_; clear HO_w0_
  have HO_w1_ := Lib.hid (HO_w1.out.ext hcw5); clear HO_w1; have HO_w1 := HO_w1_; clear HO_w1_
  have HO_x0_ := Lib.hid (HO_x0.out.ext hcw5); clear HO_x0; have HO_x0 := HO_x0_; clear HO_x0_
  clear HW; have HW := HW_; clear HW_
  clear hcw5 hbw5
  have HB_g0 : Hid (∀ k, BStr (vw5_0) k → w4.heap.size ≤ k ∧ k < w5.heap.size) := Lib.hid hOw5_0.ge
  have HO_g0 := Lib.hid hOw5_0; clear hOw5_0
  have SM_g0 := Lib.hid hsmw5_0; clear hsmw5_0
  have HB_g1 : Hid (∀ k, BI (vw5_1) k → w4.heap.size ≤ k ∧ k < w5.heap.size) := Lib.hid hOw5_1.ge
  have HO_g1 := Lib.hid hOw5_1; clear hOw5_1
  have SM_g1 := Lib.hid hsmw5_1; clear hsmw5_1
  go_wp2_with fail
  refine (eq_Str _ _ ((mCustomersOf lList).1) _ ((HO_g0.out.ext (ext_refl _)).rd) ((HO_w0.out.ext (ext_refl _)).rd)).mono ?_
  rintro e w6 ⟨rfl, hbw6⟩
  have hcw6 : Below w5.heap.size w5 w6 := ext_trans (ext_refl _) hbw6
  have HW_ : Hid (Below w.heap.size w w6) := Lib.hid (ext_trans HW.out hcw6)
  have zw6 := hcw6.size
  have HO_w0_ := Lib.hid (HO_w0.out.ext hcw6); clear HO_w0; have HO_w0 := HO_w0_; clear HO_w0_
  have HO_w1_ := Lib.hid (HO_w1.out.ext hcw6); clear HO_w1; have HO_w1 := HO_w1_; clear HO_w1_
  have HO_x0_ := Lib.hid (HO_x0.out.ext hcw6); clear HO_x0; have HO_x0 := HO_x0_; clear HO_x0_
  have HO_g0_ := Lib.hid (HO_g0.out.ext hcw6); clear HO_g0; have HO_g0 := HO_g0_; clear HO_g0_
  have HO_g1_ := Lib.hid (HO_g1.out.ext hcw6); clear HO_g1; have HO_g1 := HO_g1_; clear HO_g1_
  clear HW; have HW := HW_; clear HW_
  clear hbw6 hcw6
  go_wp2_with fail
  refine (eq_I _ _ ((mCustomersOf lList).2.1) _ ((HO_g1.out.ext (ext_refl _)).rd) ((HO_w1.out.ext (ext_refl _)).rd)).mono ?_
  rintro e w7 ⟨rfl, hbw7⟩
  have hcw7 : Below w6.heap.size w6 w7 := ext_trans (ext_refl _) hbw7
  have HW_ : Hid (Below w.heap.size w w7) := Lib.hid (ext_trans HW.out hcw7)
  have zw7 := hcw7.size
  have HO_w0_ := Lib.hid (HO_w0.out.ext hcw7); clear HO_w0; have HO_w0 := HO_w0_; clear HO_w0_
  have HO_w1_ := Lib.hid (HO_w1.out.ext hcw7); clear HO_w1; have HO_w1 := HO_w1_; clear HO_w1_
  have HO_x0_ := Lib.hid (HO_x0.out.ext hcw7); clear HO_x0; have HO_x0 := HO_x0_; clear HO_x0_
  have HO_g0_ := Lib.hid (HO_g0.out.ext hcw7); clear HO_g0; have HO_g0 := HO_g0_; clear HO_g0_
  have HO_g1_ := Lib.hid (HO_g1.out.ext hcw7); clear HO_g1; have HO_g1 := HO_g1_; clear HO_g1_
  clear HW; have HW := HW_; clear HW_
  clear hbw7 hcw7
  go_wp2_with fail
  refine (to_ODS _ lList _ (HRList.out _ (ext_trans HW.out (ext_refl _))) SmList.out).mono ?_
  rintro e w8 ⟨Aw8, cw8, rfl, hOw8, hbw8⟩
  go_wp2_with fail
  refine (eq_ODS _ _ lList _ ((HO_x0.out.ext (ext_trans (ext_refl _) hbw8)).rd) hOw8.rd).mono ?_
  rintro e w9 ⟨rfl, hbw9⟩
  have hcw9 : Below w7.heap.size w7 w9 := (ext_trans (ext_trans (ext_refl _) hbw8) hbw9)
  have HW_ : Hid (Below w.heap.size w w9) := Lib.hid (ext_trans HW.out hcw9)
  have zw9 := hcw9.size
  have HO_w0_ := Lib.hid (HO_w0.out.ext hcw9); clear HO_w0; have HO_w0 := HO_w0_; clear HO_w0_
  have HO_w1_ := Lib.hid (HO_w1.out.ext hcw9); clear HO_w1; have HO_w1 := HO_w1_; clear HO_w1_
  have HO_x0_ := Lib.hid (HO_x0.out.ext hcw9); clear HO_x0; have HO_x0 := HO_x0_; clear HO_x0_
  have HO_g0_ := Lib.hid (HO_g0.out.ext hcw9); clear HO_g0; have HO_g0 := HO_g0_; clear HO_g0_
  have HO_g1_ := Lib.hid (HO_g1.out.ext hcw9); clear HO_g1; have HO_g1 := HO_g1_; clear HO_g1_
  clear HW; have HW := HW_; clear HW_
  clear hcw9 hbw8 hbw9
  clear hOw8
  go_wp2_with fail
  refine (mark_ODS _ _ lList 1 (by omega) (by first | omega | (have q_List := SmList.out; unfold SmODS at q_List; have q_w0 := SM_w0.out; unfold SmStr at q_w0; have q_w1 := SM_w1.out; unfold SmI at q_w1; have q_g0 := SM_g0.out; unfold SmStr at q_g0; have q_g1 := SM_g1.out; unfold SmI at q_g1; omega)) _ SmList.out (HO_x0.out.ext (ext_refl _))).mono ?_
  rintro e w10 ⟨rfl, hOw10, hgw10⟩
  have zw10 := hgw10.size
  have HW_ : Hid (Below w.heap.size w w10) := Lib.hid (Chg.ext (ext_trans HW.out (ext_refl _)) hgw10 (fun k hk => by have := HB_x0.out k hk; omega)); clear HW; have HW := HW_; clear HW_
  have HO_w0_ := Lib.hid ((HO_w0.out.ext (ext_refl _)).chg hgw10 (fun k hk hs => by have h1 := HB_w0.out k hk; have h2 := HB_x0.out k hs; omega)); clear HO_w0; have HO_w0 := HO_w0_; clear HO_w0_
  have HO_w1_ := Lib.hid ((HO_w1.out.ext (ext_refl _)).chg hgw10 (fun k hk hs => by have h1 := HB_w1.out k hk; have h2 := HB_x0.out k hs; omega)); clear HO_w1; have HO_w1 := HO_w1_; clear HO_w1_
  have HO_g0_ := Lib.hid ((HO_g0.out.ext (ext_refl _)).chg hgw10 (fun k hk hs => by have h1 := HB_g0.out k hk; have h2 := HB_x0.out k hs; omega)); clear HO_g0; have HO_g0 := HO_g0_; clear HO_g0_
  have HO_g1_ := Lib.hid ((HO_g1.out.ext (ext_refl _)).chg hgw10 (fun k hk hs => by have h1 := HB_g1.out k hk; have h2 := HB_x0.out k hs; omega)); clear HO_g1; have HO_g1 := HO_g1_; clear HO_g1_
  clear HO_x0; have HO_x0 := Lib.hid hOw10; clear hOw10
  clear hgw10
  go_wp2_with fail
  refine (eq_Str _ _ ((mCustomersOf lList).1) _ ((HO_g0.out.ext (ext_refl _)).rd) ((HO_w0.out.ext (ext_refl _)).rd)).mono ?_
  rintro e w11 ⟨rfl, hbw11⟩
  have hcw11 : Below w10.heap.size w10 w11 := ext_trans (ext_refl _) hbw11
  have HW_ : Hid (Below w.heap.size w w11) := Lib.hid (ext_trans HW.out hcw11)
  have zw11 := hcw11.size
  have HO_w0_ := Lib.hid (HO_w0.out.ext hcw11); clear HO_w0; have HO_w0 := HO_w0_; clear HO_w0_
  have HO_w1_ := Lib.hid (HO_w1.out.ext hcw11); clear HO_w1; have HO_w1 := HO_w1_; clear HO_w1_
  have HO_x0_ := Lib.hid (HO_x0.out.ext hcw11); clear HO_x0; have HO_x0 := HO_x0_; clear HO_x0_
  have HO_g0_ := Lib.hid (HO_g0.out.ext hcw11); clear HO_g0; have HO_g0 := HO_g0_; clear HO_g0_
  have HO_g1_ := Lib.hid (HO_g1.out.ext hcw11); clear HO_g1; have HO_g1 := HO_g1_; clear HO_g1_
  clear HW; have HW := HW_; clear HW_
  clear hbw11 hcw11
  go_wp2_with fail
  refine (eq_I _ _ ((mCustomersOf lList).2.1) _ ((HO_g1.out.ext (ext_refl _)).rd) ((HO_w1.out.ext (ext_refl _)).rd)).mono ?_
  rintro e w12 ⟨rfl, hbw12⟩
  have hcw12 : Below w11.heap.size w11 w12 := ext_trans (ext_refl _) hbw12
  have HW_ : Hid (Below w.heap.size w w12) := Lib.hid (ext_trans HW.out hcw12)
  have zw12 := hcw12.size
  have HO_w0_ := Lib.hid (HO_w0.out.ext hcw12); clear HO_w0; have HO_w0 := HO_w0_; clear HO_w0_
  have HO_w1_ := Lib.hid (HO_w1.out.ext hcw12); clear HO_w1; have HO_w1 := HO_w1_; clear HO_w1_
  have HO_x0_ := Lib.hid (HO_x0.out.ext hcw12); clear HO_x0; have HO_x0 := HO_x0_; clear HO_x0_
  have HO_g0_ := Lib.hid (HO_g0.out.ext hcw12); clear HO_g0; have HO_g0 := HO_g0_; clear HO_g0_
  have HO_g1_ := Lib.hid (HO_g1.out.ext hcw12); clear HO_g1; have HO_g1 := HO_g1_; clear HO_g1_
  clear HW; have HW := HW_; clear HW_
  clear hbw12 hcw12
  go_wp2_with fail
  refine (mark_Str _ _ ((mCustomersOf lList).1) 1 (by omega) (by first | omega | (have q_List := SmList.out; unfold SmODS at q_List; have q_w0 := SM_w0.out; unfold SmStr at q_w0; have q_w1 := SM_w1.out; unfold SmI at q_w1; have q_g0 := SM_g0.out; unfold SmStr at q_g0; have q_g1 := SM_g1.out; unfold SmI at q_g1; omega)) _ SM_g0.out (HO_g0.out.ext (ext_refl _))).mono ?_
  rintro e w13 ⟨rfl, hOw13, hgw13⟩
  have zw13 := hgw13.size
  have HW_ : Hid (Below w.heap.size w w13) := Lib.hid (Chg.ext (ext_trans HW.out (ext_refl _)) hgw13 (fun k hk => by have := HB_g0.out k hk; omega)); clear HW; have HW := HW_; clear HW_
  have HO_w0_ := Lib.hid ((HO_w0.out.ext (ext_refl _)).chg hgw13 (fun k hk hs => by have h1 := HB_w0.out k hk; have h2 := HB_g0.out k hs; omega)); clear HO_w0; have HO_w0 := HO_w0_; clear HO_w0_
  have HO_w1_ := Lib.hid ((HO_w1.out.ext (ext_refl _)).chg hgw13 (fun k hk hs => by have h1 := HB_w1.out k hk; have h2 := HB_g0.out k hs; omega)); clear HO_w1; have HO_w1 := HO_w1_; clear HO_w1_
  have HO_x0_ := Lib.hid ((HO_x0.out.ext (ext_refl _)).chg hgw13 (fun k hk hs => by have h1 := HB_x0.out k hk; have h2 := HB_g0.out k hs; omega)); clear HO_x0; have HO_x0 := HO_x0_; clear HO_x0_
  have HO_g1_ := Lib.hid ((HO_g1.out.ext (ext_refl _)).chg hgw13 (fun k hk hs => by have h1 := HB_g1.out k hk; have h2 := HB_g0.out k hs; (first | omega | exact hapw18 k hs hk | exact hapw18 k hk hs | exact hapw3 k hs hk | exact hapw3 k hk hs | exact hapw5 k hs hk | exact hapw5 k hk hs))); clear HO_g1; have HO_g1 := HO_g1_; clear HO_g1_
  clear HO_g0; have HO_g0 := Lib.hid hOw13; clear hOw13
  clear hgw13
  go_wp2_with fail
  refine (mark_I _ _ ((mCustomersOf lList).2.1) (1 + (((mCustomersOf lList).1).length : Int)) (by omega) (by first | omega | (have q_List := SmList.out; unfold SmODS at q_List; have q_w0 := SM_w0.out; unfold SmStr at q_w0; have q_w1 := SM_w1.out; unfold SmI at q_w1; have q_g0 := SM_g0.out; unfold SmStr at q_g0; have q_g1 := SM_g1.out; unfold SmI at q_g1; omega)) _ SM_g1.out (HO_g1.out.ext (ext_refl _))).mono ?_
  rintro e w14 ⟨rfl, hOw14, hgw14⟩
  have zw14 := hgw14.size
  have HW_ : Hid (Below w.heap.size w w14) := Lib.hid (Chg.ext (ext_trans HW.out (ext_refl _)) hgw14 (fun k hk => by have := HB_g1.out k hk; omega)); clear HW; have HW := HW_; clear HW_
  have HO_w0_ := Lib.hid ((HO_w0.out.ext (ext_refl _)).chg hgw14 (fun k hk hs => by have h1 := HB_w0.out k hk; have h2 := HB_g1.out k hs; omega)); clear HO_w0; have HO_w0 := HO_w0_; clear HO_w0_
  have HO_w1_ := Lib.hid ((HO_w1.out.ext (ext_refl _)).chg hgw14 (fun k hk hs => by have h1 := HB_w1.out k hk; have h2 := HB_g1.out k hs; omega)); clear HO_w1; have HO_w1 := HO_w1_; clear HO_w1_
  have HO_x0_ := Lib.hid ((HO_x0.out.ext (ext_refl _)).chg hgw14 (fun k hk hs => by have h1 := HB_x0.out k hk; have h2 := HB_g1.out k hs; omega)); clear HO_x0; have HO_x0 := HO_x0_; clear HO_x0_
  have HO_g0_ := Lib.hid ((HO_g0.out.ext (ext_refl _)).chg hgw14 (fun k hk hs => by have h1 := HB_g0.out k hk; have h2 := HB_g1.out k hs; (first | omega | exact hapw18 k hs hk | exact hapw18 k hk hs | exact hapw3 k hs hk | exact hapw3 k hk hs | exact hapw5 k hs hk | exact hapw5 k hk hs))); clear HO_g0; have HO_g0 := HO_g0_; clear HO_g0_
  clear HO_g1; have HO_g1 := Lib.hid hOw14; clear hOw14
  clear hgw14
  go_wp2_with fail
  refine (held_Str _ ((mCustomersOf lList).1) 1 (by omega) (by first | omega | (have q_List := SmList.out; unfold SmODS at q_List; have q_w0 := SM_w0.out; unfold SmStr at q_w0; have q_w1 := SM_w1.out; unfold SmI at q_w1; have q_g0 := SM_g0.out; unfold SmStr at q_g0; have q_g1 := SM_g1.out; unfold SmI at q_g1; omega)) _ SM_g0.out ((HO_g0.out.ext (ext_refl _)).rd)).mono ?_
  rintro e w15 ⟨rfl, hbw15⟩
  have hcw15 : Below w14.heap.size w14 w15 := ext_trans (ext_refl _) hbw15
  have HW_ : Hid (Below w.heap.size w w15) := Lib.hid (ext_trans HW.out hcw15)
  have zw15 := hcw15.size
  have HO_w0_ := Lib.hid (HO_w0.out.ext hcw15); clear HO_w0; have HO_w0 := HO_w0_; clear HO_w0_
  have HO_w1_ := Lib.hid (HO_w1.out.ext hcw15); clear HO_w1; have HO_w1 := HO_w1_; clear HO_w1_
  have HO_x0_ := Lib.hid (HO_x0.out.ext hcw15); clear HO_x0; have HO_x0 := HO_x0_; clear HO_x0_
  have HO_g0_ := Lib.hid (HO_g0.out.ext hcw15); clear HO_g0; have HO_g0 := HO_g0_; clear HO_g0_
  have HO_g1_ := Lib.hid (HO_g1.out.ext hcw15); clear HO_g1; have HO_g1 := HO_g1_; clear HO_g1_
  clear HW; have HW := HW_; clear HW_
  clear hbw15 hcw15
  go_wp2_with fail
  refine (held_I _ ((mCustomersOf lList).2.1) (1 + (((mCustomersOf lList).1).length : Int)) (by omega) (by first | omega | (have q_List := SmList.out; unfold SmODS at q_List; have q_w0 := SM_w0.out; unfold SmStr at q_w0; have q_w1 := SM_w1.out; unfold SmI at q_w1; have q_g0 := SM_g0.out; unfold SmStr at q_g0; have q_g1 := SM_g1.out; unfold SmI at q_g1; omega)) _ SM_g1.out ((HO_g1.out.ext (ext_refl _)).rd)).mono ?_
  rintro e w16 ⟨rfl, hbw16⟩
  have hcw16 : Below w15.heap.size w15 w16 := ext_trans (ext_refl _) hbw16
  have HW_ : Hid (Below w.heap.size w w16) := Lib.hid (ext_trans HW.out hcw16)
  have zw16 := hcw16.size
  have HO_w0_ := Lib.hid (HO_w0.out.ext hcw16); clear HO_w0; have HO_w0 := HO_w0_; clear HO_w0_
  have HO_w1_ := Lib.hid (HO_w1.out.ext hcw16); clear HO_w1; have HO_w1 := HO_w1_; clear HO_w1_
  have HO_x0_ := Lib.hid (HO_x0.out.ext hcw16); clear HO_x0; have HO_x0 := HO_x0_; clear HO_x0_
  have HO_g0_ := Lib.hid (HO_g0.out.ext hcw16); clear HO_g0; have HO_g0 := HO_g0_; clear HO_g0_
  have HO_g1_ := Lib.hid (HO_g1.out.ext hcw16); clear HO_g1; have HO_g1 := HO_g1_; clear HO_g1_
  clear HW; have HW := HW_; clear HW_
  clear hbw16 hcw16
  go_wp2_with fail
  refine (to_ODS _ lList _ (HRList.out _ (ext_trans HW.out (ext_refl _))) SmList.out).mono ?_
  rintro e w17 ⟨Aw17, cw17, rfl, hOw17, hbw17⟩
  go_wp2_with fail
  refine (impl_CustomersOf _ lList _ hOw17.rd SmList.out).mono ?_
  rintro e w18 ⟨vw18_0, vw18_1, rfl, hOw18_0, hsmw18_0, hOw18_1, hsmw18_1, hapw18, hbw18⟩
  have hcw18 : Below w16.heap.size w16 w18 := (ext_trans (ext_trans (ext_refl _) hbw17) hbw18)
  have HW_ : Hid (Below w.heap.size w w18) := Lib.hid (ext_trans HW.out hcw18)
  have zw18 := hcw18.size
  have HO_w0_ := Lib.hid (HO_w0.out.ext hcw18); clear HO_w0; have HO_w0 := HO_w0_; clear HO_w0_
  have HO_w1_ := Lib.hid (HO_w1.out.ext hcw18); clear HO_w1; have HO_w1 := HO_w1_; clear HO_w1_
  have HO_x0_ := Lib.hid (HO_x0.out.ext hcw18); clear HO_x0; have HO_x0 := HO_x0_; clear HO_x0_
  have HO_g0_ := Lib.hid (HO_g0.out.ext hcw18); clear HO_g0; have HO_g0 := HO_g0_; clear HO_g0_
  have HO_g1_ := Lib.hid (HO_g1.out.ext hcw18); clear HO_g1; have HO_g1 := HO_g1_; clear HO_g1_
  clear HW; have HW := HW_; clear HW_
  clear hcw18 hbw17 hbw18
  clear hOw17
  have HB_h0 : Hid (∀ k, BStr (vw18_0) k → w17.heap.size ≤ k ∧ k < w18.heap.size) := Lib.hid hOw18_0.ge
  have HO_h0 := Lib.hid hOw18_0; clear hOw18_0
  have SM_h0 := Lib.hid hsmw18_0; clear hsmw18_0
  have HB_h1 : Hid (∀ k, BI (vw18_1) k → w17.heap.size ≤ k ∧ k < w18.heap.size) := Lib.hid hOw18_1.ge
  have HO_h1 := Lib.hid hOw18_1; clear hOw18_1
  have SM_h1 := Lib.hid hsmw18_1; clear hsmw18_1
  go_wp2_with fail
  refine (eq_Str _ _ ((mCustomersOf lList).1) _ ((HO_h0.out.ext (ext_refl _)).rd) ((HO_w0.out.ext (ext_refl _)).rd)).mono ?_
  rintro e w19 ⟨rfl, hbw19⟩
  have hcw19 : Below w18.heap.size w18 w19 := ext_trans (ext_refl _) hbw19
  have HW_ : Hid (Below w.heap.size w w19) := Lib.hid (ext_trans HW.out hcw19)
  have zw19 := hcw19.size
  have HO_w0_ := Lib.hid (HO_w0.out.ext hcw19); clear HO_w0; have HO_w0 := HO_w0_; clear HO_w0_
  have HO_w1_ := Lib.hid (HO_w1.out.ext hcw19); clear HO_w1; have HO_w1 := HO_w1_; clear HO_w1_
  have HO_x0_ := Lib.hid (HO_x0.out.ext hcw19); clear HO_x0; have HO_x0 := HO_x0_; clear HO_x0_
  have HO_g0_ := Lib.hid (HO_g0.out.ext hcw19); clear HO_g0; have HO_g0 := HO_g0_; clear HO_g0_
  have HO_g1_ := Lib.hid (HO_g1.out.ext hcw19); clear HO_g1; have HO_g1 := HO_g1_; clear HO_g1_
  have HO_h0_ := Lib.hid (HO_h0.out.ext hcw19); clear HO_h0; have HO_h0 := HO_h0_; clear HO_h0_
  have HO_h1_ := Lib.hid (HO_h1.out.ext hcw19); clear HO_h1; have HO_h1 := HO_h1_; clear HO_h1_
  clear HW; have HW := HW_; clear HW_
  clear hbw19 hcw19
  go_wp2_with fail
  refine (eq_I _ _ ((mCustomersOf lList).2.1) _ ((HO_h1.out.ext (ext_refl _)).rd) ((HO_w1.out.ext (ext_refl _)).rd)).mono ?_
  rintro e w20 ⟨rfl, hbw20⟩
  have hcw20 : Below w19.heap.size w19 w20 := ext_trans (ext_refl _) hbw20
  have HW_ : Hid (Below w.heap.size w w20) := Lib.hid (ext_trans HW.out hcw20)
  have zw20 := hcw20.size
  have HO_w0_ := Lib.hid (HO_w0.out.ext hcw20); clear HO_w0; have HO_w0 := HO_w0_; clear HO_w0_
  have HO_w1_ := Lib.hid (HO_w1.out.ext hcw20); clear HO_w1; have HO_w1 := HO_w1_; clear HO_w1_
  have HO_x0_ := Lib.hid (HO_x0.out.ext hcw20); clear HO_x0; have HO_x0 := HO_x0_; clear HO_x0_
  have HO_g0_ := Lib.hid (HO_g0.out.ext hcw20); clear HO_g0; have HO_g0 := HO_g0_; clear HO_g0_
  have HO_g1_ := Lib.hid (HO_g1.out.ext hcw20); clear HO_g1; have HO_g1 := HO_g1_; clear HO_g1_
  have HO_h0_ := Lib.hid (HO_h0.out.ext hcw20); clear HO_h0; have HO_h0 := HO_h0_; clear HO_h0_
  have HO_h1_ := Lib.hid (HO_h1.out.ext hcw20); clear HO_h1; have HO_h1 := HO_h1_; clear HO_h1_
  clear HW; have HW := HW_; clear HW_
  clear hbw20 hcw20
  go_wp2_with fail
  refine (held_Str _ ((mCustomersOf lList).1) 1 (by omega) (by first | omega | (have q_List := SmList.out; unfold SmODS at q_List; have q_w0 := SM_w0.out; unfold SmStr at q_w0; have q_w1 := SM_w1.out; unfold SmI at q_w1; have q_g0 := SM_g0.out; unfold SmStr at q_g0; have q_g1 := SM_g1.out; unfold SmI at q_g1; have q_h0 := SM_h0.out; unfold SmStr at q_h0; have q_h1 := SM_h1.out; unfold SmI at q_h1; omega)) _ SM_g0.out ((HO_g0.out.ext (ext_refl _)).rd)).mono ?_
  rintro e w21 ⟨rfl, hbw21⟩
  have hcw21 : Below w20.heap.size w20 w21 := ext_trans (ext_refl _) hbw21
  have HW_ : Hid (Below w.heap.size w w21) := Lib.hid (ext_trans HW.out hcw21)
  have zw21 := hcw21.size
  have HO_w0_ := Lib.hid (HO_w0.out.ext hcw21); clear HO_w0; have HO_w0 := HO_w0_; clear HO_w0_
  have HO_w1_ := Lib.hid (HO_w1.out.ext hcw21); clear HO_w1; have HO_w1 := HO_w1_; clear HO_w1_
  have HO_x0_ := Lib.hid (HO_x0.out.ext hcw21); clear HO_x0; have HO_x0 := HO_x0_; clear HO_x0_
  have HO_g0_ := Lib.hid (HO_g0.out.ext hcw21); clear HO_g0; have HO_g0 := HO_g0_; clear HO_g0_
  have HO_g1_ := Lib.hid (HO_g1.out.ext hcw21); clear HO_g1; have HO_g1 := HO_g1_; clear HO_g1_
  have HO_h0_ := Lib.hid (HO_h0.out.ext hcw21); clear HO_h0; have HO_h0 := HO_h0_; clear HO_h0_
  have HO_h1_ := Lib.hid (HO_h1.out.ext hcw21); clear HO_h1; have HO_h1 := HO_h1_; clear HO_h1_
  clear HW; have HW := HW_; clear HW_
  clear hbw21 hcw21
  go_wp2_with fail
  refine (held_I _ ((mCustomersOf lList).2.1) (1 + (((mCustomersOf lList).1).length : Int)) (by omega) (by first | omega | (have q_List := SmList.out; unfold SmODS at q_List; have q_w0 := SM_w0.out; unfold SmStr at q_w0; have q_w1 := SM_w1.out; unfold SmI at q_w1; have q_g0 := SM_g0.out; unfold SmStr at q_g0; have q_g1 := SM_g1.out; unfold SmI at q_g1; have q_h0 := SM_h0.out; unfold SmStr at q_h0; have q_h1 := SM_h1.out; unfold SmI at q_h1; omega)) _ SM_g1.out ((HO_g1.out.ext (ext_refl _)).rd)).mono ?_
  rintro e w22 ⟨rfl, hbw22⟩
  have hcw22 : Below w21.heap.size w21 w22 := ext_trans (ext_refl _) hbw22
  have HW_ : Hid (Below w.heap.size w w22) := Lib.hid (ext_trans HW.out hcw22)
  have zw22 := hcw22.size
  have HO_w0_ := Lib.hid (HO_w0.out.ext hcw22); clear HO_w0; have HO_w0 := HO_w0_; clear HO_w0_
  have HO_w1_ := Lib.hid (HO_w1.out.ext hcw22); clear HO_w1; have HO_w1 := HO_w1_; clear HO_w1_
  have HO_x0_ := Lib.hid (HO_x0.out.ext hcw22); clear HO_x0; have HO_x0 := HO_x0_; clear HO_x0_
  have HO_g0_ := Lib.hid (HO_g0.out.ext hcw22); clear HO_g0; have HO_g0 := HO_g0_; clear HO_g0_
  have HO_g1_ := Lib.hid (HO_g1.out.ext hcw22); clear HO_g1; have HO_g1 := HO_g1_; clear HO_g1_
  have HO_h0_ := Lib.hid (HO_h0.out.ext hcw22); clear HO_h0; have HO_h0 := HO_h0_; clear HO_h0_
  have HO_h1_ := Lib.hid (HO_h1.out.ext hcw22); clear HO_h1; have HO_h1 := HO_h1_; clear HO_h1_
  clear HW; have HW := HW_; clear HW_
  clear hbw22 hcw22
  go_wp2_with fail
  go_ret
  exact ⟨rfl, ext_trans HW.out (ext_refl _)⟩

theorem rd_FnExactCustomersOf : ∀ t ∈ Try.f8.params.toList, Try.prog.readableRec t = true ∧ t < Try.prog.types.size := by
  have h : Try.f8.params.toList.all (fun t => Try.prog.readableRec t && decide (t < Try.prog.types.size)) = true := by kernel_rfl
  intro t ht
  have := List.all_eq_true.1 h t ht
  simpa using this

set_option maxRecDepth 100000 in
theorem lifted_FnExactCustomersOf (os : Os) (started : os.Started) (H : Type) (enc : TypeId × Value → H) :
    ReturnsInHanded {} Try.checked os 8 .any (Rows.fnExactCustomersOfSpec.pre6 enc Try.prog Try.f8 Rows.fnExactCustomersOfRow.domain false) (Rows.fnExactCustomersOfSpec.post enc Try.prog Try.f8 false true false false) := by
  refine returnsInHanded_of_change (C := Try.checked) own_knob started (by kernel_rfl) Try.func8
    (ChangeSpec.witness6 (enc := enc) (C := Try.checked) false ⟨#[], #[.slice none 0 0], []⟩ 8 (by kernel_rfl) (by kernel_rfl) (by kernel_rfl) (by kernel_rfl)) ?_
  intro W base args ds gs before hval0 hW hcnd _
  have hval : ∀ (j : Nat) t v, Try.f8.params[j]? = some t → args[j]? = some v → Value.okWide Try.prog W .any base t v := hval0
  have hW' : DataW.Whole enc Try.prog Try.f8.params.toList (Rows.fnExactCustomersOfSpec).vars false W args.toList ds gs before := hW
  obtain ⟨p, q, hA0, hV, _, hfz, hnd⟩ := hW
  have hA : DataW.TrodAll enc Try.prog W 0 (fun _ => true) true Try.f8.params.toList args.toList ds p := hA0
  rw [Try.params8] at hA hval
  obtain ⟨v0, vs0, d0, ds0, p0, q0, ha0, hd0, hp0, h0, rr0⟩ := trodAll_cons hA
  subst hd0 hp0
  obtain ⟨e1, e2, e3⟩ := trodAll_nil rr0
  subst e1 e2 e3
  obtain rfl : args = #[v0] := by cases args; simp_all
  obtain ⟨rfl, rfl⟩ := trodVars_none hV
  obtain ⟨l0, hR0, hl0⟩ := open_ODS (hval 0 22 v0 rfl rfl) h0
  clear hA0 hval0
  refine (law_FnExactCustomersOf v0 l0 W hR0 hl0).mono fun e W' ⟨he, hb⟩ => ?_
  subst he
  exact ⟨_, rfl, law_post rd_FnExactCustomersOf rfl rfl hW' rfl hb⟩

theorem holds_FnExactCustomersOf : Rows.FnExactCustomersOfSaid :=
  OpenClaim.holds_of_wide 8 Try.f8 rfl rfl rfl rfl rfl rfl rfl ⟨rfl, rfl, rfl, rfl, rfl⟩ rfl rfl rfl rfl rfl (by kernel_rfl) Try.func8 (by kernel_rfl)
    (of_decide_eq_true (by kernel_rfl)) (by unfold Func.isWrapper; first | (rw [if_pos (by decide +kernel)]; kernel_rfl) | (rw [if_neg (by decide +kernel)]; exact ⟨rfl, rfl⟩))
    (fun os started H enc _ => lifted_FnExactCustomersOf os started H enc)


end Go.Proofs.Ytpfbdafnieljiaa
