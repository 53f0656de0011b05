/-
  The law FnExactFirstShort: the program answers as the reference, for all arguments; no condition. The walk and the row; printed by genlaw.py and genrow.py.
-/
import Derived.Test.YtohdkniajacohaaShort
import Derived.Test.YtohdkniajacohaaOrdM
import Derived.ChangeMaps5
import Derived.Deep.RegionHeld3
import Derived.Deep.DrawnRows
namespace Go.Proofs.Ytohdkniajacohaa
open Go.ChangeShapes Go.WideShapes Go.ChangeAt Go.RowKit Go.Sort
set_option linter.unusedVariables false
attribute [local go_sem ↓] Go.wp_at_zero Go.wp_at_succ

set_option maxHeartbeats 2000000 in
set_option maxRecDepth 100000 in
theorem law_FnExactFirstShort (vList : Value) (lList : List OD) (iStock : Int) (iEach : Int) (w : World) (hRList : RODS w vList lList) (hlList : LenODS lList) :
    Calls Try.prog 5 #[vList, .int .i64 iStock, .int .i64 iEach] w (Ret (.bool true) w) := by
  obtain ⟨AList, cList, hvList⟩ : ∃ A c, vList = .slice A lList.length c := by obtain ⟨A, c, h, _⟩ := hRList.open_; exact ⟨A, c, h⟩
  subst hvList
  have HRList : Hid (∀ W', Below w.heap.size w W' → RODS W' (.slice AList lList.length cList) lList) := Lib.hid fun W' h => hRList.ext h; clear hRList
  have HlList := Lib.hid hlList; clear hlList
  have HW : Hid (Below w.heap.size w w) := Lib.hid (ext_refl w)
  go_enter Try.func5, Try.ntmps5
  have hp0 : (0 : Int) ≤ 1048576 := by omega
  have hq0 : (1048576 : Int) ≤ 1048576 := by omega
  go_wp2_with fail
  refine (sz_ODS _ lList 1048576 hp0 hq0 _ HlList.out (HRList.out _ (ext_trans HW.out (ext_refl _)))).mono ?_
  rintro e w1 ⟨rfl, hbw1⟩
  have hcw1 : Below w.heap.size w w1 := ext_trans (ext_refl _) hbw1
  have HW_ : Hid (Below w.heap.size w w1) := Lib.hid (ext_trans HW.out hcw1)
  have zw1 := hcw1.size
  clear HW; have HW := HW_; clear HW_
  clear hbw1 hcw1
  obtain ⟨hqw1, hrw1⟩ := szODS_le lList hq0
  go_wp2_with fail
  · go_ret
    exact ⟨rfl, ext_trans HW.out (ext_refl _)⟩
  have hpw1 : 0 ≤ szODS lList 1048576 := by assumption
  obtain ⟨huList, hsmList⟩ := ok_ODS hq0 hpw1
  have SmList := Lib.hid hsmList; clear hsmList
  go_wp2_with fail
  refine (to_ODS _ lList _ (HRList.out _ (ext_trans HW.out (ext_refl _))) SmList.out).mono ?_
  rintro e w2 ⟨Aw2, cw2, rfl, hOw2, hbw2⟩
  go_wp2_with fail
  refine (spec_FirstShort _ lList iStock iEach _ hOw2.rd SmList.out).mono ?_
  rintro e w3 ⟨rfl, hbw3⟩
  have hcw3 : Below w1.heap.size w1 w3 := (ext_trans (ext_trans (ext_refl _) hbw2) hbw3)
  have HW_ : Hid (Below w.heap.size w w3) := Lib.hid (ext_trans HW.out hcw3)
  have zw3 := hcw3.size
  clear HW; have HW := HW_; clear HW_
  clear hcw3 hbw2 hbw3
  clear hOw2
  go_wp2_with fail
  refine (to_ODS _ lList _ (HRList.out _ (ext_trans HW.out (ext_refl _))) SmList.out).mono ?_
  rintro e w4 ⟨Aw4, cw4, rfl, hOw4, hbw4⟩
  have hOO : OODS w4 (w3.heap.size) (.slice Aw4 lList.length cw4) lList := hOw4
  have hcw4 : Below w3.heap.size w3 w4 := ext_trans (ext_refl _) hbw4
  have HW_ : Hid (Below w.heap.size w w4) := Lib.hid (ext_trans HW.out hcw4)
  have zw4 := hcw4.size
  clear HW; have HW := HW_; clear HW_
  clear hbw4 hcw4
  have HB_x0 : Hid (∀ k, BODS (.slice Aw4 lList.length cw4) k → w3.heap.size ≤ k ∧ k < w4.heap.size) := Lib.hid hOO.ge
  have HO_x0 := Lib.hid hOO; clear hOO
  go_wp2_with fail
  refine (impl_FirstShort _ lList iStock iEach _ ((HO_x0.out.ext (ext_refl _)).rd) SmList.out).mono ?_
  rintro e w5 ⟨rfl, hbw5⟩
  have hcw5 : Below w4.heap.size w4 w5 := (ext_trans (ext_refl _) hbw5)
  have HW_ : Hid (Below w.heap.size w w5) := Lib.hid (ext_trans HW.out hcw5)
  have zw5 := hcw5.size
  have HO_x0_ := Lib.hid (HO_x0.out.ext hcw5); clear HO_x0; have HO_x0 := HO_x0_; clear HO_x0_
  clear HW; have HW := HW_; clear HW_
  clear hcw5 hbw5
  go_wp2_with fail
  refine (to_ODS _ lList _ (HRList.out _ (ext_trans HW.out (ext_refl _))) SmList.out).mono ?_
  rintro e w6 ⟨Aw6, cw6, rfl, hOw6, hbw6⟩
  go_wp2_with fail
  refine (eq_ODS _ _ lList _ ((HO_x0.out.ext (ext_trans (ext_refl _) hbw6)).rd) hOw6.rd).mono ?_
  rintro e w7 ⟨rfl, hbw7⟩
  have hcw7 : Below w5.heap.size w5 w7 := (ext_trans (ext_trans (ext_refl _) hbw6) hbw7)
  have HW_ : Hid (Below w.heap.size w w7) := Lib.hid (ext_trans HW.out hcw7)
  have zw7 := hcw7.size
  have HO_x0_ := Lib.hid (HO_x0.out.ext hcw7); clear HO_x0; have HO_x0 := HO_x0_; clear HO_x0_
  clear HW; have HW := HW_; clear HW_
  clear hcw7 hbw6 hbw7
  clear hOw6
  go_wp2_with fail
  go_ret
  exact ⟨rfl, ext_trans HW.out (ext_refl _)⟩

theorem rd_FnExactFirstShort : ∀ t ∈ Try.f5.params.toList, Try.prog.readableRec t = true ∧ t < Try.prog.types.size := by
  have h : Try.f5.params.toList.all (fun t => Try.prog.readableRec t && decide (t < Try.prog.types.size)) = true := by kernel_rfl
  intro t ht
  have := List.all_eq_true.1 h t ht
  simpa using this

set_option maxRecDepth 100000 in
theorem lifted_FnExactFirstShort (os : Os) (started : os.Started) (H : Type) (enc : TypeId × Value → H) :
    ReturnsInHanded {} Try.checked os 5 .any (Rows.fnExactFirstShortSpec.pre6 enc Try.prog Try.f5 Rows.fnExactFirstShortRow.domain false) (Rows.fnExactFirstShortSpec.post enc Try.prog Try.f5 false true false false) := by
  refine returnsInHanded_of_change (C := Try.checked) own_knob started (by kernel_rfl) Try.func5
    (ChangeSpec.witness6 (enc := enc) (C := Try.checked) false ⟨#[], #[.slice none 0 0, .int .i64 0, .int .i64 0], []⟩ 8 (by kernel_rfl) (by kernel_rfl) (by kernel_rfl) (by kernel_rfl)) ?_
  intro W base args ds gs before hval0 hW hcnd _
  have hval : ∀ (j : Nat) t v, Try.f5.params[j]? = some t → args[j]? = some v → Value.okWide Try.prog W .any base t v := hval0
  have hW' : DataW.Whole enc Try.prog Try.f5.params.toList (Rows.fnExactFirstShortSpec).vars false W args.toList ds gs before := hW
  obtain ⟨p, q, hA0, hV, _, hfz, hnd⟩ := hW
  have hA : DataW.TrodAll enc Try.prog W 0 (fun _ => true) true Try.f5.params.toList args.toList ds p := hA0
  rw [Try.params5] at hA hval
  obtain ⟨v0, vs0, d0, ds0, p0, q0, ha0, hd0, hp0, h0, rr0⟩ := trodAll_cons hA
  subst hd0 hp0
  obtain ⟨v1, vs1, d1, ds1, p1, q1, ha1, hd1, hp1, h1, rr1⟩ := trodAll_cons rr0
  subst ha1 hd1 hp1
  obtain ⟨v2, vs2, d2, ds2, p2, q2, ha2, hd2, hp2, h2, rr2⟩ := trodAll_cons rr1
  subst ha2 hd2 hp2
  obtain ⟨e1, e2, e3⟩ := trodAll_nil rr2
  subst e1 e2 e3
  obtain rfl : args = #[v0, v1, v2] := by cases args; simp_all
  obtain ⟨rfl, rfl⟩ := trodVars_none hV
  obtain ⟨l0, hR0, hl0⟩ := open_ODS (hval 0 22 v0 rfl rfl) h0
  obtain ⟨i1, rfl, rfl, rfl, wf1⟩ := open_int Try.underlying2 (hval 1 2 v1 rfl rfl) h1
  obtain ⟨i2, rfl, rfl, rfl, wf2⟩ := open_int Try.underlying2 (hval 2 2 v2 rfl rfl) h2
  clear hA0 hval0
  refine (law_FnExactFirstShort v0 l0 i1 i2 W hR0 hl0).mono fun e W' ⟨he, hb⟩ => ?_
  subst he
  exact ⟨_, rfl, law_post rd_FnExactFirstShort rfl rfl hW' rfl hb⟩

theorem holds_FnExactFirstShort : Rows.FnExactFirstShortSaid :=
  OpenClaim.holds_of_wide 5 Try.f5 rfl rfl rfl rfl rfl rfl rfl ⟨rfl, rfl, rfl, rfl, rfl⟩ rfl rfl rfl rfl rfl (by kernel_rfl) Try.func5 (by kernel_rfl)
    (of_decide_eq_true (by kernel_rfl)) (by unfold Func.isWrapper; first | (rw [if_pos (by decide +kernel)]; kernel_rfl) | (rw [if_neg (by decide +kernel)]; exact ⟨rfl, rfl⟩))
    (fun os started H enc _ => lifted_FnExactFirstShort os started H enc)


end Go.Proofs.Ytohdkniajacohaa
