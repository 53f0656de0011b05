/-
  The law FnExactDeskWords: the program answers as the reference, for all arguments; no condition. The walk and the row; printed by genlaw.py and genrow.py.
-/
import Derived.Test.YtfbeflpmjibmmaaDeskW
import Derived.ChangeMaps5
import Derived.Deep.RegionHeld3
import Derived.Deep.DrawnRows
namespace Go.Proofs.Ytfbeflpmjibmmaa
open Go.ChangeShapes Go.WideShapes Go.ChangeAt Go.RowKit Go.Sort
set_option linter.unusedVariables false
attribute [local go_sem ↓] Go.wp_at_zero Go.wp_at_succ

set_option maxHeartbeats 2000000 in
set_option maxRecDepth 100000 in
theorem law_FnExactDeskWords  (w : World)  :
    Calls Try.prog 3 #[] w (Ret (.bool true) w) := by
  have HW : Hid (Below w.heap.size w w) := Lib.hid (ext_refl w)
  go_enter Try.func3, Try.ntmps3
  go_wp2_with fail
  refine (spec_DeskWords  _ ).mono ?_
  rintro e w1 ⟨vw1_0, rfl, hOw1_0, hsmw1_0, hbw1⟩
  have hcw1 : Below w.heap.size w w1 := (ext_trans (ext_refl _) hbw1)
  have HW_ : Hid (Below w.heap.size w w1) := Lib.hid (ext_trans HW.out hcw1)
  have zw1 := hcw1.size
  clear HW; have HW := HW_; clear HW_
  clear hcw1 hbw1
  have HB_w0 : Hid (∀ k, BStr (vw1_0) k → w.heap.size ≤ k ∧ k < w1.heap.size) := Lib.hid hOw1_0.ge
  have HO_w0 := Lib.hid hOw1_0; clear hOw1_0
  have SM_w0 := Lib.hid hsmw1_0; clear hsmw1_0
  go_wp2_with fail
  refine (impl_DeskWords  _ ).mono ?_
  rintro e w2 ⟨vw2_0, rfl, hOw2_0, hsmw2_0, hbw2⟩
  have hcw2 : Below w1.heap.size w1 w2 := (ext_trans (ext_refl _) hbw2)
  have HW_ : Hid (Below w.heap.size w w2) := Lib.hid (ext_trans HW.out hcw2)
  have zw2 := hcw2.size
  have HO_w0_ := Lib.hid (HO_w0.out.ext hcw2); clear HO_w0; have HO_w0 := HO_w0_; clear HO_w0_
  clear HW; have HW := HW_; clear HW_
  clear hcw2 hbw2
  have HB_g0 : Hid (∀ k, BStr (vw2_0) k → w1.heap.size ≤ k ∧ k < w2.heap.size) := Lib.hid hOw2_0.ge
  have HO_g0 := Lib.hid hOw2_0; clear hOw2_0
  have SM_g0 := Lib.hid hsmw2_0; clear hsmw2_0
  go_wp2_with fail
  refine (eq_Str _ _ dwL _ ((HO_g0.out.ext (ext_refl _)).rd) ((HO_w0.out.ext (ext_refl _)).rd)).mono ?_
  rintro e w3 ⟨rfl, hbw3⟩
  have hcw3 : Below w2.heap.size w2 w3 := ext_trans (ext_refl _) hbw3
  have HW_ : Hid (Below w.heap.size w w3) := Lib.hid (ext_trans HW.out hcw3)
  have zw3 := hcw3.size
  have HO_w0_ := Lib.hid (HO_w0.out.ext hcw3); clear HO_w0; have HO_w0 := HO_w0_; clear HO_w0_
  have HO_g0_ := Lib.hid (HO_g0.out.ext hcw3); clear HO_g0; have HO_g0 := HO_g0_; clear HO_g0_
  clear HW; have HW := HW_; clear HW_
  clear hbw3 hcw3
  go_wp2_with fail
  refine (mark_Str _ _ dwL 1 (by omega) (by first | omega | (have q_w0 := SM_w0.out; unfold SmStr at q_w0; have q_g0 := SM_g0.out; unfold SmStr at q_g0; omega)) _ SM_g0.out (HO_g0.out.ext (ext_refl _))).mono ?_
  rintro e w4 ⟨rfl, hOw4, hgw4⟩
  have zw4 := hgw4.size
  have HW_ : Hid (Below w.heap.size w w4) := Lib.hid (Chg.ext (ext_trans HW.out (ext_refl _)) hgw4 (fun k hk => by have := HB_g0.out k hk; omega)); clear HW; have HW := HW_; clear HW_
  have HO_w0_ := Lib.hid ((HO_w0.out.ext (ext_refl _)).chg hgw4 (fun k hk hs => by have h1 := HB_w0.out k hk; have h2 := HB_g0.out k hs; omega)); clear HO_w0; have HO_w0 := HO_w0_; clear HO_w0_
  clear HO_g0; have HO_g0 := Lib.hid hOw4; clear hOw4
  clear hgw4
  go_wp2_with fail
  refine (held_Str _ dwL 1 (by omega) (by first | omega | (have q_w0 := SM_w0.out; unfold SmStr at q_w0; have q_g0 := SM_g0.out; unfold SmStr at q_g0; omega)) _ SM_g0.out ((HO_g0.out.ext (ext_refl _)).rd)).mono ?_
  rintro e w5 ⟨rfl, hbw5⟩
  have hcw5 : Below w4.heap.size w4 w5 := ext_trans (ext_refl _) hbw5
  have HW_ : Hid (Below w.heap.size w w5) := Lib.hid (ext_trans HW.out hcw5)
  have zw5 := hcw5.size
  have HO_w0_ := Lib.hid (HO_w0.out.ext hcw5); clear HO_w0; have HO_w0 := HO_w0_; clear HO_w0_
  have HO_g0_ := Lib.hid (HO_g0.out.ext hcw5); clear HO_g0; have HO_g0 := HO_g0_; clear HO_g0_
  clear HW; have HW := HW_; clear HW_
  clear hbw5 hcw5
  go_wp2_with fail
  refine (impl_DeskWords  _ ).mono ?_
  rintro e w6 ⟨vw6_0, rfl, hOw6_0, hsmw6_0, hbw6⟩
  have hcw6 : Below w5.heap.size w5 w6 := (ext_trans (ext_refl _) hbw6)
  have HW_ : Hid (Below w.heap.size w w6) := Lib.hid (ext_trans HW.out hcw6)
  have zw6 := hcw6.size
  have HO_w0_ := Lib.hid (HO_w0.out.ext hcw6); clear HO_w0; have HO_w0 := HO_w0_; clear HO_w0_
  have HO_g0_ := Lib.hid (HO_g0.out.ext hcw6); clear HO_g0; have HO_g0 := HO_g0_; clear HO_g0_
  clear HW; have HW := HW_; clear HW_
  clear hcw6 hbw6
  have HB_h0 : Hid (∀ k, BStr (vw6_0) k → w5.heap.size ≤ k ∧ k < w6.heap.size) := Lib.hid hOw6_0.ge
  have HO_h0 := Lib.hid hOw6_0; clear hOw6_0
  have SM_h0 := Lib.hid hsmw6_0; clear hsmw6_0
  go_wp2_with fail
  refine (eq_Str _ _ dwL _ ((HO_h0.out.ext (ext_refl _)).rd) ((HO_w0.out.ext (ext_refl _)).rd)).mono ?_
  rintro e w7 ⟨rfl, hbw7⟩
  have hcw7 : Below w6.heap.size w6 w7 := ext_trans (ext_refl _) hbw7
  have HW_ : Hid (Below w.heap.size w w7) := Lib.hid (ext_trans HW.out hcw7)
  have zw7 := hcw7.size
  have HO_w0_ := Lib.hid (HO_w0.out.ext hcw7); clear HO_w0; have HO_w0 := HO_w0_; clear HO_w0_
  have HO_g0_ := Lib.hid (HO_g0.out.ext hcw7); clear HO_g0; have HO_g0 := HO_g0_; clear HO_g0_
  have HO_h0_ := Lib.hid (HO_h0.out.ext hcw7); clear HO_h0; have HO_h0 := HO_h0_; clear HO_h0_
  clear HW; have HW := HW_; clear HW_
  clear hbw7 hcw7
  go_wp2_with fail
  refine (held_Str _ dwL 1 (by omega) (by first | omega | (have q_w0 := SM_w0.out; unfold SmStr at q_w0; have q_g0 := SM_g0.out; unfold SmStr at q_g0; have q_h0 := SM_h0.out; unfold SmStr at q_h0; omega)) _ SM_g0.out ((HO_g0.out.ext (ext_refl _)).rd)).mono ?_
  rintro e w8 ⟨rfl, hbw8⟩
  have hcw8 : Below w7.heap.size w7 w8 := ext_trans (ext_refl _) hbw8
  have HW_ : Hid (Below w.heap.size w w8) := Lib.hid (ext_trans HW.out hcw8)
  have zw8 := hcw8.size
  have HO_w0_ := Lib.hid (HO_w0.out.ext hcw8); clear HO_w0; have HO_w0 := HO_w0_; clear HO_w0_
  have HO_g0_ := Lib.hid (HO_g0.out.ext hcw8); clear HO_g0; have HO_g0 := HO_g0_; clear HO_g0_
  have HO_h0_ := Lib.hid (HO_h0.out.ext hcw8); clear HO_h0; have HO_h0 := HO_h0_; clear HO_h0_
  clear HW; have HW := HW_; clear HW_
  clear hbw8 hcw8
  go_wp2_with fail
  go_ret
  exact ⟨rfl, ext_trans HW.out (ext_refl _)⟩

theorem rd_FnExactDeskWords : ∀ t ∈ Try.f3.params.toList, Try.prog.readableRec t = true ∧ t < Try.prog.types.size := by
  have h : Try.f3.params.toList.all (fun t => Try.prog.readableRec t && decide (t < Try.prog.types.size)) = true := by kernel_rfl
  intro t ht
  have := List.all_eq_true.1 h t ht
  simpa using this

set_option maxRecDepth 100000 in
theorem lifted_FnExactDeskWords (os : Os) (started : os.Started) (H : Type) (enc : TypeId × Value → H) :
    ReturnsInHanded {} Try.checked os 3 .any (Rows.fnExactDeskWordsSpec.pre6 enc Try.prog Try.f3 Rows.fnExactDeskWordsRow.domain false) (Rows.fnExactDeskWordsSpec.post enc Try.prog Try.f3 false true false false) := by
  refine returnsInHanded_of_change (C := Try.checked) own_knob started (by kernel_rfl) Try.func3
    (ChangeSpec.witness6 (enc := enc) (C := Try.checked) false ⟨#[], #[], []⟩ 8 (by kernel_rfl) (by kernel_rfl) (by kernel_rfl) (by kernel_rfl)) ?_
  intro W base args ds gs before hval0 hW hcnd _
  have hval : ∀ (j : Nat) t v, Try.f3.params[j]? = some t → args[j]? = some v → Value.okWide Try.prog W .any base t v := hval0
  have hW' : DataW.Whole enc Try.prog Try.f3.params.toList (Rows.fnExactDeskWordsSpec).vars false W args.toList ds gs before := hW
  obtain ⟨p, q, hA0, hV, _, hfz, hnd⟩ := hW
  have hA : DataW.TrodAll enc Try.prog W 0 (fun _ => true) true Try.f3.params.toList args.toList ds p := hA0
  rw [Try.params3] at hA hval
  obtain ⟨e1, e2, e3⟩ := trodAll_none hA
  subst e2 e3
  obtain rfl : args = #[] := by cases args; simp_all
  obtain ⟨rfl, rfl⟩ := trodVars_none hV
  clear hA0 hval0
  refine (law_FnExactDeskWords  W ).mono fun e W' ⟨he, hb⟩ => ?_
  subst he
  exact ⟨_, rfl, law_post rd_FnExactDeskWords rfl rfl hW' rfl hb⟩

theorem holds_FnExactDeskWords : Rows.FnExactDeskWordsSaid :=
  OpenClaim.holds_of_wide 3 Try.f3 rfl rfl rfl rfl rfl rfl rfl ⟨rfl, rfl, rfl, rfl, rfl⟩ rfl rfl rfl rfl rfl (by kernel_rfl) Try.func3 (by kernel_rfl)
    (of_decide_eq_true (by kernel_rfl)) (by unfold Func.isWrapper; first | (rw [if_pos (by decide +kernel)]; kernel_rfl) | (rw [if_neg (by decide +kernel)]; exact ⟨rfl, rfl⟩))
    (fun os started H enc _ => lifted_FnExactDeskWords os started H enc)


end Go.Proofs.Ytfbeflpmjibmmaa
