/-
  The law FnExactSameOrders: the program answers as the reference, for all arguments; no condition. The walk and the row; printed by genlaw.py and genrow.py.
-/
import Derived.Test.YtpfbdafnieljiaaOrders
import Derived.ChangeMaps5
import Derived.Deep.RegionHeld3
import Derived.Deep.DrawnRows
namespace Go.Proofs.Ytpfbdafnieljiaa
open Go.ChangeShapes Go.WideShapes Go.ChangeAt Go.RowKit Go.Sort
set_option linter.unusedVariables false
attribute [local go_sem ↓] Go.wp_at_zero Go.wp_at_succ

set_option maxHeartbeats 2000000 in
set_option maxRecDepth 100000 in
theorem law_FnExactSameOrders (vA : Value) (lA : List OD) (vB : Value) (lB : List OD) (w : World) (hRA : RODS w vA lA) (hlA : LenODS lA) (hRB : RODS w vB lB) (hlB : LenODS lB) :
    Calls Try.prog 3 #[vA, vB] w (Ret (.bool true) w) := by
  obtain ⟨AA, cA, hvA⟩ : ∃ A c, vA = .slice A lA.length c := by obtain ⟨A, c, h, _⟩ := hRA.open_; exact ⟨A, c, h⟩
  subst hvA
  have HRA : Hid (∀ W', Below w.heap.size w W' → RODS W' (.slice AA lA.length cA) lA) := Lib.hid fun W' h => hRA.ext h; clear hRA
  have HlA := Lib.hid hlA; clear hlA
  obtain ⟨AB, cB, hvB⟩ : ∃ A c, vB = .slice A lB.length c := by obtain ⟨A, c, h, _⟩ := hRB.open_; exact ⟨A, c, h⟩
  subst hvB
  have HRB : Hid (∀ W', Below w.heap.size w W' → RODS W' (.slice AB lB.length cB) lB) := Lib.hid fun W' h => hRB.ext h; clear hRB
  have HlB := Lib.hid hlB; clear hlB
  have HW : Hid (Below w.heap.size w w) := Lib.hid (ext_refl w)
  go_enter Try.func3, Try.ntmps3
  have hp0 : (0 : Int) ≤ 1048576 := by omega
  have hq0 : (1048576 : Int) ≤ 1048576 := by omega
  go_wp2_with fail
  refine (sz_ODS _ lA 1048576 hp0 hq0 _ HlA.out (HRA.out _ (ext_trans HW.out (ext_refl _)))).mono ?_
  rintro e w1 ⟨rfl, hbw1⟩
  have hcw1 : Below w.heap.size w w1 := ext_trans (ext_refl _) hbw1
  have HW_ : Hid (Below w.heap.size w w1) := Lib.hid (ext_trans HW.out hcw1)
  have zw1 := hcw1.size
  clear HW; have HW := HW_; clear HW_
  clear hbw1 hcw1
  obtain ⟨hqw1, hrw1⟩ := szODS_le lA hq0
  go_wp2_with fail
  · go_ret
    exact ⟨rfl, ext_trans HW.out (ext_refl _)⟩
  have hpw1 : 0 ≤ szODS lA 1048576 := by assumption
  go_wp2_with fail
  refine (sz_ODS _ lB (szODS lA 1048576) hpw1 hqw1 _ HlB.out (HRB.out _ (ext_trans HW.out (ext_refl _)))).mono ?_
  rintro e w2 ⟨rfl, hbw2⟩
  have hcw2 : Below w1.heap.size w1 w2 := ext_trans (ext_refl _) hbw2
  have HW_ : Hid (Below w.heap.size w w2) := Lib.hid (ext_trans HW.out hcw2)
  have zw2 := hcw2.size
  clear HW; have HW := HW_; clear HW_
  clear hbw2 hcw2
  obtain ⟨hqw2, hrw2⟩ := szODS_le lB hqw1
  go_wp2_with fail
  · go_ret
    exact ⟨rfl, ext_trans HW.out (ext_refl _)⟩
  have hpw2 : 0 ≤ szODS lB (szODS lA 1048576) := by assumption
  obtain ⟨huB, hsmB⟩ := ok_ODS hqw1 hpw2
  have SmB := Lib.hid hsmB; clear hsmB
  obtain ⟨huA, hsmA⟩ := ok_ODS hq0 huB
  have SmA := Lib.hid hsmA; clear hsmA
  go_wp2_with fail
  refine (to_ODS _ lA _ (HRA.out _ (ext_trans HW.out (ext_refl _))) SmA.out).mono ?_
  rintro e w3 ⟨Aw3, cw3, rfl, hOw3, hbw3⟩
  go_wp2_with fail
  refine (to_ODS _ lB _ (HRB.out _ (ext_trans HW.out (ext_trans (ext_refl _) hbw3))) SmB.out).mono ?_
  rintro e w4 ⟨Aw4, cw4, rfl, hOw4, hbw4⟩
  go_wp2_with fail
  refine (spec_SameOrders _ lA _ lB _ (hOw3.ext hbw4).rd SmA.out hOw4.rd SmB.out).mono ?_
  rintro e w5 ⟨rfl, hbw5⟩
  have hcw5 : Below w2.heap.size w2 w5 := (ext_trans (ext_trans (ext_trans (ext_refl _) hbw3) hbw4) hbw5)
  have HW_ : Hid (Below w.heap.size w w5) := Lib.hid (ext_trans HW.out hcw5)
  have zw5 := hcw5.size
  clear HW; have HW := HW_; clear HW_
  clear hcw5 hbw3 hbw4 hbw5
  clear hOw3 hOw4
  go_wp2_with fail
  refine (to_ODS _ lA _ (HRA.out _ (ext_trans HW.out (ext_refl _))) SmA.out).mono ?_
  rintro e w6 ⟨Aw6, cw6, rfl, hOw6, hbw6⟩
  have hOO : OODS w6 (w5.heap.size) (.slice Aw6 lA.length cw6) lA := hOw6
  have hcw6 : Below w5.heap.size w5 w6 := ext_trans (ext_refl _) hbw6
  have HW_ : Hid (Below w.heap.size w w6) := Lib.hid (ext_trans HW.out hcw6)
  have zw6 := hcw6.size
  clear HW; have HW := HW_; clear HW_
  clear hbw6 hcw6
  have HB_x0 : Hid (∀ k, BODS (.slice Aw6 lA.length cw6) k → w5.heap.size ≤ k ∧ k < w6.heap.size) := Lib.hid hOO.ge
  have HO_x0 := Lib.hid hOO; clear hOO
  go_wp2_with fail
  refine (to_ODS _ lB _ (HRB.out _ (ext_trans HW.out (ext_refl _))) SmB.out).mono ?_
  rintro e w7 ⟨Aw7, cw7, rfl, hOw7, hbw7⟩
  have hOO : OODS w7 (w6.heap.size) (.slice Aw7 lB.length cw7) lB := hOw7
  have hcw7 : Below w6.heap.size w6 w7 := ext_trans (ext_refl _) hbw7
  have HW_ : Hid (Below w.heap.size w w7) := Lib.hid (ext_trans HW.out hcw7)
  have zw7 := hcw7.size
  have HO_x0_ := Lib.hid (HO_x0.out.ext hcw7); clear HO_x0; have HO_x0 := HO_x0_; clear HO_x0_
  clear HW; have HW := HW_; clear HW_
  clear hbw7 hcw7
  have HB_x1 : Hid (∀ k, BODS (.slice Aw7 lB.length cw7) k → w6.heap.size ≤ k ∧ k < w7.heap.size) := Lib.hid hOO.ge
  have HO_x1 := Lib.hid hOO; clear hOO
  go_wp2_with fail
  refine (impl_SameOrders _ lA _ lB _ ((HO_x0.out.ext (ext_refl _)).rd) SmA.out ((HO_x1.out.ext (ext_refl _)).rd) SmB.out).mono ?_
  rintro e w8 ⟨rfl, hbw8⟩
  have hcw8 : Below w7.heap.size w7 w8 := (ext_trans (ext_refl _) hbw8)
  have HW_ : Hid (Below w.heap.size w w8) := Lib.hid (ext_trans HW.out hcw8)
  have zw8 := hcw8.size
  have HO_x0_ := Lib.hid (HO_x0.out.ext hcw8); clear HO_x0; have HO_x0 := HO_x0_; clear HO_x0_
  have HO_x1_ := Lib.hid (HO_x1.out.ext hcw8); clear HO_x1; have HO_x1 := HO_x1_; clear HO_x1_
  clear HW; have HW := HW_; clear HW_
  clear hcw8 hbw8
  go_wp2_with fail
  refine (to_ODS _ lA _ (HRA.out _ (ext_trans HW.out (ext_refl _))) SmA.out).mono ?_
  rintro e w9 ⟨Aw9, cw9, rfl, hOw9, hbw9⟩
  go_wp2_with fail
  refine (eq_ODS _ _ lA _ ((HO_x0.out.ext (ext_trans (ext_refl _) hbw9)).rd) hOw9.rd).mono ?_
  rintro e w10 ⟨rfl, hbw10⟩
  have hcw10 : Below w8.heap.size w8 w10 := (ext_trans (ext_trans (ext_refl _) hbw9) hbw10)
  have HW_ : Hid (Below w.heap.size w w10) := Lib.hid (ext_trans HW.out hcw10)
  have zw10 := hcw10.size
  have HO_x0_ := Lib.hid (HO_x0.out.ext hcw10); clear HO_x0; have HO_x0 := HO_x0_; clear HO_x0_
  have HO_x1_ := Lib.hid (HO_x1.out.ext hcw10); clear HO_x1; have HO_x1 := HO_x1_; clear HO_x1_
  clear HW; have HW := HW_; clear HW_
  clear hcw10 hbw9 hbw10
  clear hOw9
  go_wp2_with fail
  refine (to_ODS _ lB _ (HRB.out _ (ext_trans HW.out (ext_refl _))) SmB.out).mono ?_
  rintro e w11 ⟨Aw11, cw11, rfl, hOw11, hbw11⟩
  go_wp2_with fail
  refine (eq_ODS _ _ lB _ ((HO_x1.out.ext (ext_trans (ext_refl _) hbw11)).rd) hOw11.rd).mono ?_
  rintro e w12 ⟨rfl, hbw12⟩
  have hcw12 : Below w10.heap.size w10 w12 := (ext_trans (ext_trans (ext_refl _) hbw11) hbw12)
  have HW_ : Hid (Below w.heap.size w w12) := Lib.hid (ext_trans HW.out hcw12)
  have zw12 := hcw12.size
  have HO_x0_ := Lib.hid (HO_x0.out.ext hcw12); clear HO_x0; have HO_x0 := HO_x0_; clear HO_x0_
  have HO_x1_ := Lib.hid (HO_x1.out.ext hcw12); clear HO_x1; have HO_x1 := HO_x1_; clear HO_x1_
  clear HW; have HW := HW_; clear HW_
  clear hcw12 hbw11 hbw12
  clear hOw11
  go_wp2_with fail
  go_ret
  exact ⟨rfl, ext_trans HW.out (ext_refl _)⟩

theorem rd_FnExactSameOrders : ∀ t ∈ Try.f3.params.toList, Try.prog.readableRec t = true ∧ t < Try.prog.types.size := by
  have h : Try.f3.params.toList.all (fun t => Try.prog.readableRec t && decide (t < Try.prog.types.size)) = true := by kernel_rfl
  intro t ht
  have := List.all_eq_true.1 h t ht
  simpa using this

set_option maxRecDepth 100000 in
theorem lifted_FnExactSameOrders (os : Os) (started : os.Started) (H : Type) (enc : TypeId × Value → H) :
    ReturnsInHanded {} Try.checked os 3 .any (Rows.fnExactSameOrdersSpec.pre6 enc Try.prog Try.f3 Rows.fnExactSameOrdersRow.domain false) (Rows.fnExactSameOrdersSpec.post enc Try.prog Try.f3 false true false false) := by
  refine returnsInHanded_of_change (C := Try.checked) own_knob started (by kernel_rfl) Try.func3
    (ChangeSpec.witness6 (enc := enc) (C := Try.checked) false ⟨#[], #[.slice none 0 0, .slice none 0 0], []⟩ 8 (by kernel_rfl) (by kernel_rfl) (by kernel_rfl) (by kernel_rfl)) ?_
  intro W base args ds gs before hval0 hW hcnd _
  have hval : ∀ (j : Nat) t v, Try.f3.params[j]? = some t → args[j]? = some v → Value.okWide Try.prog W .any base t v := hval0
  have hW' : DataW.Whole enc Try.prog Try.f3.params.toList (Rows.fnExactSameOrdersSpec).vars false W args.toList ds gs before := hW
  obtain ⟨p, q, hA0, hV, _, hfz, hnd⟩ := hW
  have hA : DataW.TrodAll enc Try.prog W 0 (fun _ => true) true Try.f3.params.toList args.toList ds p := hA0
  rw [Try.params3] at hA hval
  obtain ⟨v0, vs0, d0, ds0, p0, q0, ha0, hd0, hp0, h0, rr0⟩ := trodAll_cons hA
  subst hd0 hp0
  obtain ⟨v1, vs1, d1, ds1, p1, q1, ha1, hd1, hp1, h1, rr1⟩ := trodAll_cons rr0
  subst ha1 hd1 hp1
  obtain ⟨e1, e2, e3⟩ := trodAll_nil rr1
  subst e1 e2 e3
  obtain rfl : args = #[v0, v1] := by cases args; simp_all
  obtain ⟨rfl, rfl⟩ := trodVars_none hV
  obtain ⟨l0, hR0, hl0⟩ := open_ODS (hval 0 22 v0 rfl rfl) h0
  obtain ⟨l1, hR1, hl1⟩ := open_ODS (hval 1 22 v1 rfl rfl) h1
  clear hA0 hval0
  refine (law_FnExactSameOrders v0 l0 v1 l1 W hR0 hl0 hR1 hl1).mono fun e W' ⟨he, hb⟩ => ?_
  subst he
  exact ⟨_, rfl, law_post rd_FnExactSameOrders rfl rfl hW' rfl hb⟩

theorem holds_FnExactSameOrders : Rows.FnExactSameOrdersSaid :=
  OpenClaim.holds_of_wide 3 Try.f3 rfl rfl rfl rfl rfl rfl rfl ⟨rfl, rfl, rfl, rfl, rfl⟩ rfl rfl rfl rfl rfl (by kernel_rfl) Try.func3 (by kernel_rfl)
    (of_decide_eq_true (by kernel_rfl)) (by unfold Func.isWrapper; first | (rw [if_pos (by decide +kernel)]; kernel_rfl) | (rw [if_neg (by decide +kernel)]; exact ⟨rfl, rfl⟩))
    (fun os started H enc _ => lifted_FnExactSameOrders os started H enc)


end Go.Proofs.Ytpfbdafnieljiaa
