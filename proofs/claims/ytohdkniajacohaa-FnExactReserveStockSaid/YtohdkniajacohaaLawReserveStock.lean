/-
  The law FnExactReserveStock: the program answers as the reference, for all arguments; no condition. The walk and the row; printed by genlaw.py and genrow.py.
-/
import Derived.Test.YtohdkniajacohaaRsv
import Derived.Test.YtohdkniajacohaaOrdM
import Derived.ChangeMaps5
import Derived.Deep.RegionHeld3
import Derived.Deep.DrawnRows
namespace Go.Proofs.Ytohdkniajacohaa
open Go.ChangeShapes Go.WideShapes Go.ChangeAt Go.RowKit Go.Sort
set_option linter.unusedVariables false
attribute [local go_sem ↓] Go.wp_at_zero Go.wp_at_succ

set_option maxHeartbeats 2000000 in
set_option maxRecDepth 100000 in
theorem law_FnExactReserveStock (vList : Value) (lList : List OD) (iStock : Int) (w : World) (hRList : RODS w vList lList) (hlList : LenODS lList) :
    Calls Try.prog 6 #[vList, .int .i64 iStock] w (Ret (.bool true) w) := by
  obtain ⟨AList, cList, hvList⟩ : ∃ A c, vList = .slice A lList.length c := by obtain ⟨A, c, h, _⟩ := hRList.open_; exact ⟨A, c, h⟩
  subst hvList
  have HRList : Hid (∀ W', Below w.heap.size w W' → RODS W' (.slice AList lList.length cList) lList) := Lib.hid fun W' h => hRList.ext h; clear hRList
  have HlList := Lib.hid hlList; clear hlList
  have HW : Hid (Below w.heap.size w w) := Lib.hid (ext_refl w)
  go_enter Try.func6, Try.ntmps6
  have hp0 : (0 : Int) ≤ 1048576 := by omega
  have hq0 : (1048576 : Int) ≤ 1048576 := by omega
  go_wp2_with fail
  refine (sz_ODS _ lList 1048576 hp0 hq0 _ HlList.out (HRList.out _ (ext_trans HW.out (ext_refl _)))).mono ?_
  rintro e w1 ⟨rfl, hbw1⟩
  have hcw1 : Below w.heap.size w w1 := ext_trans (ext_refl _) hbw1
  have HW_ : Hid (Below w.heap.size w w1) := Lib.hid (ext_trans HW.out hcw1)
  have zw1 := hcw1.size
  clear HW; have HW := HW_; clear HW_
  clear hbw1 hcw1
  obtain ⟨hqw1, hrw1⟩ := szODS_le lList hq0
  go_wp2_with fail
  · go_ret
    exact ⟨rfl, ext_trans HW.out (ext_refl _)⟩
  have hpw1 : 0 ≤ szODS lList 1048576 := by assumption
  obtain ⟨huList, hsmList⟩ := ok_ODS hq0 hpw1
  have SmList := Lib.hid hsmList; clear hsmList
  go_wp2_with fail
  refine (to_ODS _ lList _ (HRList.out _ (ext_trans HW.out (ext_refl _))) SmList.out).mono ?_
  rintro e w2 ⟨Aw2, cw2, rfl, hOw2, hbw2⟩
  go_wp2_with fail
  refine (spec_ReserveStock _ lList iStock _ hOw2.rd SmList.out).mono ?_
  rintro e w3 ⟨vw3_0, rfl, hOw3_0, hsmw3_0, hbw3⟩
  have hcw3 : Below w1.heap.size w1 w3 := (ext_trans (ext_trans (ext_refl _) hbw2) hbw3)
  have HW_ : Hid (Below w.heap.size w w3) := Lib.hid (ext_trans HW.out hcw3)
  have zw3 := hcw3.size
  clear HW; have HW := HW_; clear HW_
  clear hcw3 hbw2 hbw3
  clear hOw2
  have HB_w0 : Hid (∀ k, BI (vw3_0) k → w2.heap.size ≤ k ∧ k < w3.heap.size) := Lib.hid hOw3_0.ge
  have HO_w0 := Lib.hid hOw3_0; clear hOw3_0
  have SM_w0 := Lib.hid hsmw3_0; clear hsmw3_0
  go_wp2_with fail
  refine (to_ODS _ lList _ (HRList.out _ (ext_trans HW.out (ext_refl _))) SmList.out).mono ?_
  rintro e w4 ⟨Aw4, cw4, rfl, hOw4, hbw4⟩
  have hOO : OODS w4 (w3.heap.size) (.slice Aw4 lList.length cw4) lList := hOw4
  have hcw4 : Below w3.heap.size w3 w4 := ext_trans (ext_refl _) hbw4
  have HW_ : Hid (Below w.heap.size w w4) := Lib.hid (ext_trans HW.out hcw4)
  have zw4 := hcw4.size
  have HO_w0_ := Lib.hid (HO_w0.out.ext hcw4); clear HO_w0; have HO_w0 := HO_w0_; clear HO_w0_
  clear HW; have HW := HW_; clear HW_
  clear hbw4 hcw4
  have HB_x0 : Hid (∀ k, BODS (.slice Aw4 lList.length cw4) k → w3.heap.size ≤ k ∧ k < w4.heap.size) := Lib.hid hOO.ge
  have HO_x0 := Lib.hid hOO; clear hOO
  go_wp2_with fail
  refine (impl_ReserveStock _ lList iStock _ ((HO_x0.out.ext (ext_refl _)).rd) SmList.out).mono ?_
  rintro e w5 ⟨vw5_0, rfl, hOw5_0, hsmw5_0, hbw5⟩
  have hcw5 : Below w4.heap.size w4 w5 := (ext_trans (ext_refl _) hbw5)
  have HW_ : Hid (Below w.heap.size w w5) := Lib.hid (ext_trans HW.out hcw5)
  have zw5 := hcw5.size
  have HO_w0_ := Lib.hid (HO_w0.out.ext hcw5); clear HO_w0; have HO_w0 := HO_w0_; clear HO_w0_
  have HO_x0_ := Lib.hid (HO_x0.out.ext hcw5); clear HO_x0; have HO_x0 := HO_x0_; clear HO_x0_
  clear HW; have HW := HW_; clear HW_
  clear hcw5 hbw5
  have HB_g0 : Hid (∀ k, BI (vw5_0) k → w4.heap.size ≤ k ∧ k < w5.heap.size) := Lib.hid hOw5_0.ge
  have HO_g0 := Lib.hid hOw5_0; clear hOw5_0
  have SM_g0 := Lib.hid hsmw5_0; clear hsmw5_0
  go_wp2_with fail
  refine (eq_I _ _ ((mReserveStock lList iStock).1) _ ((HO_g0.out.ext (ext_refl _)).rd) ((HO_w0.out.ext (ext_refl _)).rd)).mono ?_
  rintro e w6 ⟨rfl, hbw6⟩
  have hcw6 : Below w5.heap.size w5 w6 := ext_trans (ext_refl _) hbw6
  have HW_ : Hid (Below w.heap.size w w6) := Lib.hid (ext_trans HW.out hcw6)
  have zw6 := hcw6.size
  have HO_w0_ := Lib.hid (HO_w0.out.ext hcw6); clear HO_w0; have HO_w0 := HO_w0_; clear HO_w0_
  have HO_x0_ := Lib.hid (HO_x0.out.ext hcw6); clear HO_x0; have HO_x0 := HO_x0_; clear HO_x0_
  have HO_g0_ := Lib.hid (HO_g0.out.ext hcw6); clear HO_g0; have HO_g0 := HO_g0_; clear HO_g0_
  clear HW; have HW := HW_; clear HW_
  clear hbw6 hcw6
  go_wp2_with fail
  refine (to_ODS _ lList _ (HRList.out _ (ext_trans HW.out (ext_refl _))) SmList.out).mono ?_
  rintro e w7 ⟨Aw7, cw7, rfl, hOw7, hbw7⟩
  go_wp2_with fail
  refine (eq_ODS _ _ lList _ ((HO_x0.out.ext (ext_trans (ext_refl _) hbw7)).rd) hOw7.rd).mono ?_
  rintro e w8 ⟨rfl, hbw8⟩
  have hcw8 : Below w6.heap.size w6 w8 := (ext_trans (ext_trans (ext_refl _) hbw7) hbw8)
  have HW_ : Hid (Below w.heap.size w w8) := Lib.hid (ext_trans HW.out hcw8)
  have zw8 := hcw8.size
  have HO_w0_ := Lib.hid (HO_w0.out.ext hcw8); clear HO_w0; have HO_w0 := HO_w0_; clear HO_w0_
  have HO_x0_ := Lib.hid (HO_x0.out.ext hcw8); clear HO_x0; have HO_x0 := HO_x0_; clear HO_x0_
  have HO_g0_ := Lib.hid (HO_g0.out.ext hcw8); clear HO_g0; have HO_g0 := HO_g0_; clear HO_g0_
  clear HW; have HW := HW_; clear HW_
  clear hcw8 hbw7 hbw8
  clear hOw7
  go_wp2_with fail
  refine (mark_ODS _ _ lList 1 (by omega) (by first | omega | (have q_List := SmList.out; unfold SmODS at q_List; have q_w0 := SM_w0.out; unfold SmI at q_w0; have q_g0 := SM_g0.out; unfold SmI at q_g0; omega)) _ SmList.out (HO_x0.out.ext (ext_refl _))).mono ?_
  rintro e w9 ⟨rfl, hOw9, hgw9⟩
  have zw9 := hgw9.size
  have HW_ : Hid (Below w.heap.size w w9) := Lib.hid (Chg.ext (ext_trans HW.out (ext_refl _)) hgw9 (fun k hk => by have := HB_x0.out k hk; omega)); clear HW; have HW := HW_; clear HW_
  have HO_w0_ := Lib.hid ((HO_w0.out.ext (ext_refl _)).chg hgw9 (fun k hk hs => by have h1 := HB_w0.out k hk; have h2 := HB_x0.out k hs; omega)); clear HO_w0; have HO_w0 := HO_w0_; clear HO_w0_
  have HO_g0_ := Lib.hid ((HO_g0.out.ext (ext_refl _)).chg hgw9 (fun k hk hs => by have h1 := HB_g0.out k hk; have h2 := HB_x0.out k hs; omega)); clear HO_g0; have HO_g0 := HO_g0_; clear HO_g0_
  clear HO_x0; have HO_x0 := Lib.hid hOw9; clear hOw9
  clear hgw9
  go_wp2_with fail
  refine (eq_I _ _ ((mReserveStock lList iStock).1) _ ((HO_g0.out.ext (ext_refl _)).rd) ((HO_w0.out.ext (ext_refl _)).rd)).mono ?_
  rintro e w10 ⟨rfl, hbw10⟩
  have hcw10 : Below w9.heap.size w9 w10 := ext_trans (ext_refl _) hbw10
  have HW_ : Hid (Below w.heap.size w w10) := Lib.hid (ext_trans HW.out hcw10)
  have zw10 := hcw10.size
  have HO_w0_ := Lib.hid (HO_w0.out.ext hcw10); clear HO_w0; have HO_w0 := HO_w0_; clear HO_w0_
  have HO_x0_ := Lib.hid (HO_x0.out.ext hcw10); clear HO_x0; have HO_x0 := HO_x0_; clear HO_x0_
  have HO_g0_ := Lib.hid (HO_g0.out.ext hcw10); clear HO_g0; have HO_g0 := HO_g0_; clear HO_g0_
  clear HW; have HW := HW_; clear HW_
  clear hbw10 hcw10
  go_wp2_with fail
  refine (mark_I _ _ ((mReserveStock lList iStock).1) 1 (by omega) (by first | omega | (have q_List := SmList.out; unfold SmODS at q_List; have q_w0 := SM_w0.out; unfold SmI at q_w0; have q_g0 := SM_g0.out; unfold SmI at q_g0; omega)) _ SM_g0.out (HO_g0.out.ext (ext_refl _))).mono ?_
  rintro e w11 ⟨rfl, hOw11, hgw11⟩
  have zw11 := hgw11.size
  have HW_ : Hid (Below w.heap.size w w11) := Lib.hid (Chg.ext (ext_trans HW.out (ext_refl _)) hgw11 (fun k hk => by have := HB_g0.out k hk; omega)); clear HW; have HW := HW_; clear HW_
  have HO_w0_ := Lib.hid ((HO_w0.out.ext (ext_refl _)).chg hgw11 (fun k hk hs => by have h1 := HB_w0.out k hk; have h2 := HB_g0.out k hs; omega)); clear HO_w0; have HO_w0 := HO_w0_; clear HO_w0_
  have HO_x0_ := Lib.hid ((HO_x0.out.ext (ext_refl _)).chg hgw11 (fun k hk hs => by have h1 := HB_x0.out k hk; have h2 := HB_g0.out k hs; omega)); clear HO_x0; have HO_x0 := HO_x0_; clear HO_x0_
  clear HO_g0; have HO_g0 := Lib.hid hOw11; clear hOw11
  clear hgw11
  go_wp2_with fail
  refine (held_I _ ((mReserveStock lList iStock).1) 1 (by omega) (by first | omega | (have q_List := SmList.out; unfold SmODS at q_List; have q_w0 := SM_w0.out; unfold SmI at q_w0; have q_g0 := SM_g0.out; unfold SmI at q_g0; omega)) _ SM_g0.out ((HO_g0.out.ext (ext_refl _)).rd)).mono ?_
  rintro e w12 ⟨rfl, hbw12⟩
  have hcw12 : Below w11.heap.size w11 w12 := ext_trans (ext_refl _) hbw12
  have HW_ : Hid (Below w.heap.size w w12) := Lib.hid (ext_trans HW.out hcw12)
  have zw12 := hcw12.size
  have HO_w0_ := Lib.hid (HO_w0.out.ext hcw12); clear HO_w0; have HO_w0 := HO_w0_; clear HO_w0_
  have HO_x0_ := Lib.hid (HO_x0.out.ext hcw12); clear HO_x0; have HO_x0 := HO_x0_; clear HO_x0_
  have HO_g0_ := Lib.hid (HO_g0.out.ext hcw12); clear HO_g0; have HO_g0 := HO_g0_; clear HO_g0_
  clear HW; have HW := HW_; clear HW_
  clear hbw12 hcw12
  go_wp2_with fail
  refine (to_ODS _ lList _ (HRList.out _ (ext_trans HW.out (ext_refl _))) SmList.out).mono ?_
  rintro e w13 ⟨Aw13, cw13, rfl, hOw13, hbw13⟩
  go_wp2_with fail
  refine (impl_ReserveStock _ lList iStock _ hOw13.rd SmList.out).mono ?_
  rintro e w14 ⟨vw14_0, rfl, hOw14_0, hsmw14_0, hbw14⟩
  have hcw14 : Below w12.heap.size w12 w14 := (ext_trans (ext_trans (ext_refl _) hbw13) hbw14)
  have HW_ : Hid (Below w.heap.size w w14) := Lib.hid (ext_trans HW.out hcw14)
  have zw14 := hcw14.size
  have HO_w0_ := Lib.hid (HO_w0.out.ext hcw14); clear HO_w0; have HO_w0 := HO_w0_; clear HO_w0_
  have HO_x0_ := Lib.hid (HO_x0.out.ext hcw14); clear HO_x0; have HO_x0 := HO_x0_; clear HO_x0_
  have HO_g0_ := Lib.hid (HO_g0.out.ext hcw14); clear HO_g0; have HO_g0 := HO_g0_; clear HO_g0_
  clear HW; have HW := HW_; clear HW_
  clear hcw14 hbw13 hbw14
  clear hOw13
  have HB_h0 : Hid (∀ k, BI (vw14_0) k → w13.heap.size ≤ k ∧ k < w14.heap.size) := Lib.hid hOw14_0.ge
  have HO_h0 := Lib.hid hOw14_0; clear hOw14_0
  have SM_h0 := Lib.hid hsmw14_0; clear hsmw14_0
  go_wp2_with fail
  refine (eq_I _ _ ((mReserveStock lList iStock).1) _ ((HO_h0.out.ext (ext_refl _)).rd) ((HO_w0.out.ext (ext_refl _)).rd)).mono ?_
  rintro e w15 ⟨rfl, hbw15⟩
  have hcw15 : Below w14.heap.size w14 w15 := ext_trans (ext_refl _) hbw15
  have HW_ : Hid (Below w.heap.size w w15) := Lib.hid (ext_trans HW.out hcw15)
  have zw15 := hcw15.size
  have HO_w0_ := Lib.hid (HO_w0.out.ext hcw15); clear HO_w0; have HO_w0 := HO_w0_; clear HO_w0_
  have HO_x0_ := Lib.hid (HO_x0.out.ext hcw15); clear HO_x0; have HO_x0 := HO_x0_; clear HO_x0_
  have HO_g0_ := Lib.hid (HO_g0.out.ext hcw15); clear HO_g0; have HO_g0 := HO_g0_; clear HO_g0_
  have HO_h0_ := Lib.hid (HO_h0.out.ext hcw15); clear HO_h0; have HO_h0 := HO_h0_; clear HO_h0_
  clear HW; have HW := HW_; clear HW_
  clear hbw15 hcw15
  go_wp2_with fail
  refine (held_I _ ((mReserveStock lList iStock).1) 1 (by omega) (by first | omega | (have q_List := SmList.out; unfold SmODS at q_List; have q_w0 := SM_w0.out; unfold SmI at q_w0; have q_g0 := SM_g0.out; unfold SmI at q_g0; have q_h0 := SM_h0.out; unfold SmI at q_h0; omega)) _ SM_g0.out ((HO_g0.out.ext (ext_refl _)).rd)).mono ?_
  rintro e w16 ⟨rfl, hbw16⟩
  have hcw16 : Below w15.heap.size w15 w16 := ext_trans (ext_refl _) hbw16
  have HW_ : Hid (Below w.heap.size w w16) := Lib.hid (ext_trans HW.out hcw16)
  have zw16 := hcw16.size
  have HO_w0_ := Lib.hid (HO_w0.out.ext hcw16); clear HO_w0; have HO_w0 := HO_w0_; clear HO_w0_
  have HO_x0_ := Lib.hid (HO_x0.out.ext hcw16); clear HO_x0; have HO_x0 := HO_x0_; clear HO_x0_
  have HO_g0_ := Lib.hid (HO_g0.out.ext hcw16); clear HO_g0; have HO_g0 := HO_g0_; clear HO_g0_
  have HO_h0_ := Lib.hid (HO_h0.out.ext hcw16); clear HO_h0; have HO_h0 := HO_h0_; clear HO_h0_
  clear HW; have HW := HW_; clear HW_
  clear hbw16 hcw16
  go_wp2_with fail
  go_ret
  exact ⟨rfl, ext_trans HW.out (ext_refl _)⟩

theorem rd_FnExactReserveStock : ∀ t ∈ Try.f6.params.toList, Try.prog.readableRec t = true ∧ t < Try.prog.types.size := by
  have h : Try.f6.params.toList.all (fun t => Try.prog.readableRec t && decide (t < Try.prog.types.size)) = true := by kernel_rfl
  intro t ht
  have := List.all_eq_true.1 h t ht
  simpa using this

set_option maxRecDepth 100000 in
theorem lifted_FnExactReserveStock (os : Os) (started : os.Started) (H : Type) (enc : TypeId × Value → H) :
    ReturnsInHanded {} Try.checked os 6 .any (Rows.fnExactReserveStockSpec.pre6 enc Try.prog Try.f6 Rows.fnExactReserveStockRow.domain false) (Rows.fnExactReserveStockSpec.post enc Try.prog Try.f6 false true false false) := by
  refine returnsInHanded_of_change (C := Try.checked) own_knob started (by kernel_rfl) Try.func6
    (ChangeSpec.witness6 (enc := enc) (C := Try.checked) false ⟨#[], #[.slice none 0 0, .int .i64 0], []⟩ 8 (by kernel_rfl) (by kernel_rfl) (by kernel_rfl) (by kernel_rfl)) ?_
  intro W base args ds gs before hval0 hW hcnd _
  have hval : ∀ (j : Nat) t v, Try.f6.params[j]? = some t → args[j]? = some v → Value.okWide Try.prog W .any base t v := hval0
  have hW' : DataW.Whole enc Try.prog Try.f6.params.toList (Rows.fnExactReserveStockSpec).vars false W args.toList ds gs before := hW
  obtain ⟨p, q, hA0, hV, _, hfz, hnd⟩ := hW
  have hA : DataW.TrodAll enc Try.prog W 0 (fun _ => true) true Try.f6.params.toList args.toList ds p := hA0
  rw [Try.params6] at hA hval
  obtain ⟨v0, vs0, d0, ds0, p0, q0, ha0, hd0, hp0, h0, rr0⟩ := trodAll_cons hA
  subst hd0 hp0
  obtain ⟨v1, vs1, d1, ds1, p1, q1, ha1, hd1, hp1, h1, rr1⟩ := trodAll_cons rr0
  subst ha1 hd1 hp1
  obtain ⟨e1, e2, e3⟩ := trodAll_nil rr1
  subst e1 e2 e3
  obtain rfl : args = #[v0, v1] := by cases args; simp_all
  obtain ⟨rfl, rfl⟩ := trodVars_none hV
  obtain ⟨l0, hR0, hl0⟩ := open_ODS (hval 0 22 v0 rfl rfl) h0
  obtain ⟨i1, rfl, rfl, rfl, wf1⟩ := open_int Try.underlying2 (hval 1 2 v1 rfl rfl) h1
  clear hA0 hval0
  refine (law_FnExactReserveStock v0 l0 i1 W hR0 hl0).mono fun e W' ⟨he, hb⟩ => ?_
  subst he
  exact ⟨_, rfl, law_post rd_FnExactReserveStock rfl rfl hW' rfl hb⟩

theorem holds_FnExactReserveStock : Rows.FnExactReserveStockSaid :=
  OpenClaim.holds_of_wide 6 Try.f6 rfl rfl rfl rfl rfl rfl rfl ⟨rfl, rfl, rfl, rfl, rfl⟩ rfl rfl rfl rfl rfl (by kernel_rfl) Try.func6 (by kernel_rfl)
    (of_decide_eq_true (by kernel_rfl)) (by unfold Func.isWrapper; first | (rw [if_pos (by decide +kernel)]; kernel_rfl) | (rw [if_neg (by decide +kernel)]; exact ⟨rfl, rfl⟩))
    (fun os started H enc _ => lifted_FnExactReserveStock os started H enc)


end Go.Proofs.Ytohdkniajacohaa
