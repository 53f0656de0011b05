/-
  The law FnExactIsLiftPlan: the program answers as the reference, for all arguments; no condition. The walk and the row; printed by genlaw.py and genrow.py.
-/
import Derived.Test.YtahcdofikfookaaLifts6
import Derived.Test.YtahcdofikfookaaRowRise
import Derived.Test.YtahcdofikfookaaRowI
import Derived.ChangeMaps5
import Derived.Deep.RegionHeld3
import Derived.Deep.DrawnRows
namespace Go.Proofs.Ytahcdofikfookaa
open Go.ChangeShapes Go.WideShapes Go.ChangeAt Go.RowKit Go.Sort
set_option linter.unusedVariables false
attribute [local go_sem ↓] Go.wp_at_zero Go.wp_at_succ

set_option maxHeartbeats 2000000 in
set_option maxRecDepth 100000 in
theorem law_FnExactIsLiftPlan (vR : Value) (rR : RS) (vPlan : Value) (xPlan : List Int) (w : World) (hRR : SR w vR rR) (hlR : LenSR rR) (hRPlan : RI w vPlan xPlan) (hlPlan : LenI xPlan) :
    Calls Try.prog 9 #[vR, vPlan] w (Ret (.bool true) w) := by
  obtain ⟨AR, cR, rfl, hOR⟩ := hRR
  have HRR : Hid (∀ W', Below w.heap.size w W' → SR W' (.agg #[.slice AR rR.cs.length cR, .int .i64 rR.reach, .int .i64 rR.setup, .int .i64 rR.easy]) rR) := Lib.hid fun W' h => SR.ext (show SR w (.agg #[.slice AR rR.cs.length cR, .int .i64 rR.reach, .int .i64 rR.setup, .int .i64 rR.easy]) rR from ⟨_, _, rfl, hOR⟩) h
  clear hOR
  have HlR := Lib.hid hlR; clear hlR
  obtain ⟨APlan, cPlan, hvPlan⟩ : ∃ A c, vPlan = .slice A xPlan.length c := by obtain ⟨_, A, c, h, _⟩ := hRPlan; exact ⟨A, c, h⟩
  subst hvPlan
  have HRPlan : Hid (∀ W', Below w.heap.size w W' → RI W' (.slice APlan xPlan.length cPlan) xPlan) := Lib.hid fun W' h => hRPlan.ext h; clear hRPlan
  have HlPlan := Lib.hid hlPlan; clear hlPlan
  have HW : Hid (Below w.heap.size w w) := Lib.hid (ext_refl w)
  go_enter Try.func9, Try.ntmps9
  go_wp2_with fail
  · go_ret
    exact ⟨rfl, ext_trans HW.out (ext_alloc (ext_refl _) _)⟩
  have hlenPlan : (xPlan.length : Int) ≤ 1048576 := by first | assumption | omega
  have SmPlan : Hid (SmI xPlan) := Lib.hid (by unfold SmI; omega)
  have hp0 : (0 : Int) ≤ 1048576 := by omega
  have hq0 : (1048576 : Int) ≤ 1048576 := by omega
  go_wp2_with fail
  refine (sz_SR _ rR 1048576 hp0 hq0 _ HlR.out (HRR.out _ (ext_trans HW.out (ext_alloc (ext_refl _) _)))).mono ?_
  rintro e w1 ⟨rfl, hbw1⟩
  have hcw1 : Below w.heap.size w w1 := ext_trans (ext_alloc (ext_refl _) _) hbw1
  have HW_ : Hid (Below w.heap.size w w1) := Lib.hid (ext_trans HW.out hcw1)
  have zw1 := hcw1.size
  clear HW; have HW := HW_; clear HW_
  have yw1 := Below.size hbw1
  simp only [World.size_alloc] at yw1
  have k_aR_0 : ∀ W', Below w1.heap.size w1 W' → W'.cell? ⟨w.heap.size, 0, none⟩ = some (.slice AR rR.cs.length cR) := fun W' h => cell_keep (cell_keep (p := ⟨w.heap.size, 0, none⟩) (v := .slice AR rR.cs.length cR) (by simp [go_sem]) hbw1) h
  have k_aR_1 : ∀ W', Below w1.heap.size w1 W' → W'.cell? ⟨w.heap.size, 1, none⟩ = some (.int .i64 rR.reach) := fun W' h => cell_keep (cell_keep (p := ⟨w.heap.size, 1, none⟩) (v := .int .i64 rR.reach) (by simp [go_sem]) hbw1) h
  have k_aR_2 : ∀ W', Below w1.heap.size w1 W' → W'.cell? ⟨w.heap.size, 2, none⟩ = some (.int .i64 rR.setup) := fun W' h => cell_keep (cell_keep (p := ⟨w.heap.size, 2, none⟩) (v := .int .i64 rR.setup) (by simp [go_sem]) hbw1) h
  have k_aR_3 : ∀ W', Below w1.heap.size w1 W' → W'.cell? ⟨w.heap.size, 3, none⟩ = some (.int .i64 rR.easy) := fun W' h => cell_keep (cell_keep (p := ⟨w.heap.size, 3, none⟩) (v := .int .i64 rR.easy) (by simp [go_sem]) hbw1) h
  have hL : Below w1.heap.size w1 w1 := ext_refl _
  have haL : ∀ o, Below w1.heap.size w1 (w1.alloc o) := fun o => ext_alloc hL o
  clear hbw1 hcw1
  obtain ⟨hqw1, hrw1⟩ := szSR_le rR hq0
  go_wp2_with fail
  · go_ret
    exact ⟨rfl, ext_trans HW.out (ext_refl _)⟩
  have hpw1 : 0 ≤ szSR rR 1048576 := by assumption
  obtain ⟨huR, hsmR⟩ := ok_SR hq0 hpw1
  have SmR := Lib.hid hsmR; clear hsmR
  go_wp2_with fail
  refine (to_SR _ rR _ (HRR.out _ (ext_trans HW.out (ext_refl _))) SmR.out).mono ?_
  rintro e w2 ⟨vw2, rfl, hOw2, hbw2⟩
  go_wp2_with fail
  refine (to_I _ xPlan _ (HRPlan.out _ (ext_trans HW.out (ext_trans (ext_refl _) hbw2))) SmPlan.out).mono ?_
  rintro e w3 ⟨Aw3, cw3, rfl, hOw3, hbw3⟩
  go_wp2_with fail
  refine (spec_IsLiftPlan _ rR _ xPlan _ (hOw2.ext hbw3).rd SmR.out hOw3.rd SmPlan.out).mono ?_
  rintro e w4 ⟨rfl, hbw4⟩
  have hcw4 : Below w1.heap.size w1 w4 := (ext_trans (ext_trans (ext_trans (ext_refl _) hbw2) hbw3) hbw4)
  have HW_ : Hid (Below w.heap.size w w4) := Lib.hid (ext_trans HW.out hcw4)
  have zw4 := hcw4.size
  clear HW; have HW := HW_; clear HW_
  replace hL : Below w1.heap.size w1 w4 := ext_trans hL hcw4
  clear haL
  have haL : ∀ o, Below w1.heap.size w1 (w4.alloc o) := fun o => ext_alloc hL o
  clear hcw4 hbw2 hbw3 hbw4
  clear hOw2 hOw3
  go_wp2_with fail
  refine (to_SR _ rR _ (HRR.out _ (ext_trans HW.out (ext_refl _))) SmR.out).mono ?_
  rintro e w5 ⟨vw5, rfl, ⟨Aw5, cw5, rfl, hOw5⟩, hbw5⟩
  have hOO : OSR w5 (w4.heap.size) (.agg #[.slice Aw5 rR.cs.length cw5, .int .i64 rR.reach, .int .i64 rR.setup, .int .i64 rR.easy]) rR := ⟨_, _, rfl, hOw5⟩
  have hcw5 : Below w4.heap.size w4 w5 := ext_trans (ext_refl _) hbw5
  have HW_ : Hid (Below w.heap.size w w5) := Lib.hid (ext_trans HW.out hcw5)
  have zw5 := hcw5.size
  clear HW; have HW := HW_; clear HW_
  replace hL : Below w1.heap.size w1 w5 := ext_trans hL hcw5
  clear haL
  have haL : ∀ o, Below w1.heap.size w1 (w5.alloc o) := fun o => ext_alloc hL o
  clear hbw5 hcw5
  have HB_x0 : Hid (∀ k, BSR (.agg #[.slice Aw5 rR.cs.length cw5, .int .i64 rR.reach, .int .i64 rR.setup, .int .i64 rR.easy]) k → w4.heap.size ≤ k ∧ k < w5.heap.size) := Lib.hid hOO.ge
  have HO_x0 := Lib.hid hOO; clear hOO
  go_wp2_with fail
  refine (to_I _ xPlan _ (HRPlan.out _ (ext_trans HW.out (ext_alloc (ext_refl _) _))) SmPlan.out).mono ?_
  rintro e w6 ⟨Aw6, cw6, rfl, hOw6, hbw6⟩
  have hOO : OI w6 (w5.heap.size + 1) (.slice Aw6 xPlan.length cw6) xPlan := by simpa only [World.size_alloc] using hOw6
  have hcw6 : Below w5.heap.size w5 w6 := ext_trans (ext_alloc (ext_refl _) _) hbw6
  have HW_ : Hid (Below w.heap.size w w6) := Lib.hid (ext_trans HW.out hcw6)
  have zw6 := hcw6.size
  have HO_x0_ := Lib.hid (HO_x0.out.ext hcw6); clear HO_x0; have HO_x0 := HO_x0_; clear HO_x0_
  clear HW; have HW := HW_; clear HW_
  have yw6 := Below.size hbw6
  simp only [World.size_alloc] at yw6
  have k_x0_0 : ∀ W', Below w6.heap.size w6 W' → W'.cell? ⟨w5.heap.size, 0, none⟩ = some (.slice Aw5 rR.cs.length cw5) := fun W' h => cell_keep (cell_keep (p := ⟨w5.heap.size, 0, none⟩) (v := .slice Aw5 rR.cs.length cw5) (by simp [go_sem]) hbw6) h
  have k_x0_1 : ∀ W', Below w6.heap.size w6 W' → W'.cell? ⟨w5.heap.size, 1, none⟩ = some (.int .i64 rR.reach) := fun W' h => cell_keep (cell_keep (p := ⟨w5.heap.size, 1, none⟩) (v := .int .i64 rR.reach) (by simp [go_sem]) hbw6) h
  have k_x0_2 : ∀ W', Below w6.heap.size w6 W' → W'.cell? ⟨w5.heap.size, 2, none⟩ = some (.int .i64 rR.setup) := fun W' h => cell_keep (cell_keep (p := ⟨w5.heap.size, 2, none⟩) (v := .int .i64 rR.setup) (by simp [go_sem]) hbw6) h
  have k_x0_3 : ∀ W', Below w6.heap.size w6 W' → W'.cell? ⟨w5.heap.size, 3, none⟩ = some (.int .i64 rR.easy) := fun W' h => cell_keep (cell_keep (p := ⟨w5.heap.size, 3, none⟩) (v := .int .i64 rR.easy) (by simp [go_sem]) hbw6) h
  replace k_aR_0 : ∀ W', Below w6.heap.size w6 W' → W'.cell? ⟨w.heap.size, 0, none⟩ = some (.slice AR rR.cs.length cR) := fun W' h => k_aR_0 W' (ext_trans (ext_trans hL hcw6) h)
  replace k_aR_1 : ∀ W', Below w6.heap.size w6 W' → W'.cell? ⟨w.heap.size, 1, none⟩ = some (.int .i64 rR.reach) := fun W' h => k_aR_1 W' (ext_trans (ext_trans hL hcw6) h)
  replace k_aR_2 : ∀ W', Below w6.heap.size w6 W' → W'.cell? ⟨w.heap.size, 2, none⟩ = some (.int .i64 rR.setup) := fun W' h => k_aR_2 W' (ext_trans (ext_trans hL hcw6) h)
  replace k_aR_3 : ∀ W', Below w6.heap.size w6 W' → W'.cell? ⟨w.heap.size, 3, none⟩ = some (.int .i64 rR.easy) := fun W' h => k_aR_3 W' (ext_trans (ext_trans hL hcw6) h)
  clear hL haL
  have hL : Below w6.heap.size w6 w6 := ext_refl _
  have haL : ∀ o, Below w6.heap.size w6 (w6.alloc o) := fun o => ext_alloc hL o
  clear hbw6 hcw6
  have HB_x1 : Hid (∀ k, BI (.slice Aw6 xPlan.length cw6) k → w5.heap.size + 1 ≤ k ∧ k < w6.heap.size) := Lib.hid hOO.ge
  have HO_x1 := Lib.hid hOO; clear hOO
  go_wp2_with fail
  refine (impl_IsLiftPlan _ rR _ xPlan _ ((HO_x0.out.ext (ext_refl _)).rd) SmR.out ((HO_x1.out.ext (ext_refl _)).rd) SmPlan.out).mono ?_
  rintro e w7 ⟨rfl, hbw7⟩
  have hcw7 : Below w6.heap.size w6 w7 := (ext_trans (ext_refl _) hbw7)
  have HW_ : Hid (Below w.heap.size w w7) := Lib.hid (ext_trans HW.out hcw7)
  have zw7 := hcw7.size
  have HO_x0_ := Lib.hid (HO_x0.out.ext hcw7); clear HO_x0; have HO_x0 := HO_x0_; clear HO_x0_
  have HO_x1_ := Lib.hid (HO_x1.out.ext hcw7); clear HO_x1; have HO_x1 := HO_x1_; clear HO_x1_
  clear HW; have HW := HW_; clear HW_
  replace hL : Below w6.heap.size w6 w7 := ext_trans hL hcw7
  clear haL
  have haL : ∀ o, Below w6.heap.size w6 (w7.alloc o) := fun o => ext_alloc hL o
  clear hcw7 hbw7
  go_wp2_with fail
  go_region_held3 (fun w' => Below w6.heap.size w6 w') (first | exact ext_drew hL | exact ext_trans (by assumption) (by assumption) | assumption)
    (first
      | (go_at_call 15; (have ht := to_SR _ rR _ (HRR.out _ (ext_trans HW.out (ext_drew (ext_refl _)))) SmR.out); (with_reducible refine ht.mono ?_); clear ht; rintro e w8 ⟨vw8, rfl, hOw8, hbw8⟩)
      | (go_at_call 17; (have ht := eq_SR _ _ rR _ ((HO_x0.out.ext (ext_trans (ext_drew (ext_refl _)) hbw8)).rd) hOw8.rd); (with_reducible refine ht.mono ?_); clear ht; rintro e w9 ⟨rfl, hbw9⟩)
      | fail)
  have hcw9 : Below w7.heap.size w7 w9 := (ext_trans (ext_trans (ext_drew (ext_refl _)) hbw8) hbw9)
  have HW_ : Hid (Below w.heap.size w w9) := Lib.hid (ext_trans HW.out hcw9)
  have zw9 := hcw9.size
  have HO_x0_ := Lib.hid (HO_x0.out.ext hcw9); clear HO_x0; have HO_x0 := HO_x0_; clear HO_x0_
  have HO_x1_ := Lib.hid (HO_x1.out.ext hcw9); clear HO_x1; have HO_x1 := HO_x1_; clear HO_x1_
  clear HW; have HW := HW_; clear HW_
  replace hL : Below w6.heap.size w6 w9 := ext_trans hL hcw9
  clear haL
  have haL : ∀ o, Below w6.heap.size w6 (w9.alloc o) := fun o => ext_alloc hL o
  clear hcw9 hbw8 hbw9
  clear hOw8
  go_wp2_with fail
  refine (to_I _ xPlan _ (HRPlan.out _ (ext_trans HW.out (ext_refl _))) SmPlan.out).mono ?_
  rintro e w10 ⟨Aw10, cw10, rfl, hOw10, hbw10⟩
  go_wp2_with fail
  refine (eq_I _ _ xPlan _ ((HO_x1.out.ext (ext_trans (ext_refl _) hbw10)).rd) hOw10.rd).mono ?_
  rintro e w11 ⟨rfl, hbw11⟩
  have hcw11 : Below w9.heap.size w9 w11 := (ext_trans (ext_trans (ext_refl _) hbw10) hbw11)
  have HW_ : Hid (Below w.heap.size w w11) := Lib.hid (ext_trans HW.out hcw11)
  have zw11 := hcw11.size
  have HO_x0_ := Lib.hid (HO_x0.out.ext hcw11); clear HO_x0; have HO_x0 := HO_x0_; clear HO_x0_
  have HO_x1_ := Lib.hid (HO_x1.out.ext hcw11); clear HO_x1; have HO_x1 := HO_x1_; clear HO_x1_
  clear HW; have HW := HW_; clear HW_
  replace hL : Below w6.heap.size w6 w11 := ext_trans hL hcw11
  clear haL
  have haL : ∀ o, Below w6.heap.size w6 (w11.alloc o) := fun o => ext_alloc hL o
  clear hcw11 hbw10 hbw11
  clear hOw10
  go_wp2_with fail
  go_ret
  exact ⟨rfl, ext_trans HW.out (ext_refl _)⟩

theorem rd_FnExactIsLiftPlan : ∀ t ∈ Try.f9.params.toList, Try.prog.readableRec t = true ∧ t < Try.prog.types.size := by
  have h : Try.f9.params.toList.all (fun t => Try.prog.readableRec t && decide (t < Try.prog.types.size)) = true := by kernel_rfl
  intro t ht
  have := List.all_eq_true.1 h t ht
  simpa using this

set_option maxRecDepth 100000 in
theorem lifted_FnExactIsLiftPlan (os : Os) (started : os.Started) (H : Type) (enc : TypeId × Value → H) :
    ReturnsInHanded {} Try.checked os 9 .any (Rows.fnExactIsLiftPlanSpec.pre6 enc Try.prog Try.f9 Rows.fnExactIsLiftPlanRow.domain false) (Rows.fnExactIsLiftPlanSpec.post enc Try.prog Try.f9 false true false false) := by
  refine returnsInHanded_of_change (C := Try.checked) own_knob started (by kernel_rfl) Try.func9
    (ChangeSpec.witness6 (enc := enc) (C := Try.checked) false ⟨#[], #[.agg #[.slice none 0 0, .int .i64 0, .int .i64 0, .int .i64 0], .slice none 0 0], []⟩ 8 (by kernel_rfl) (by kernel_rfl) (by kernel_rfl) (by kernel_rfl)) ?_
  intro W base args ds gs before hval0 hW hcnd _
  have hval : ∀ (j : Nat) t v, Try.f9.params[j]? = some t → args[j]? = some v → Value.okWide Try.prog W .any base t v := hval0
  have hW' : DataW.Whole enc Try.prog Try.f9.params.toList (Rows.fnExactIsLiftPlanSpec).vars false W args.toList ds gs before := hW
  obtain ⟨p, q, hA0, hV, _, hfz, hnd⟩ := hW
  have hA : DataW.TrodAll enc Try.prog W 0 (fun _ => true) true Try.f9.params.toList args.toList ds p := hA0
  rw [Try.params9] at hA hval
  obtain ⟨v0, vs0, d0, ds0, p0, q0, ha0, hd0, hp0, h0, rr0⟩ := trodAll_cons hA
  subst hd0 hp0
  obtain ⟨v1, vs1, d1, ds1, p1, q1, ha1, hd1, hp1, h1, rr1⟩ := trodAll_cons rr0
  subst ha1 hd1 hp1
  obtain ⟨e1, e2, e3⟩ := trodAll_nil rr1
  subst e1 e2 e3
  obtain rfl : args = #[v0, v1] := by cases args; simp_all
  obtain ⟨rfl, rfl⟩ := trodVars_none hV
  obtain ⟨r0, hR0, hl0⟩ := open_SR (hval 0 24 v0 rfl rfl) h0
  obtain ⟨x1, hR1, hl1⟩ := open_IA (hval 1 22 v1 rfl rfl) h1
  clear hA0 hval0
  refine (law_FnExactIsLiftPlan v0 r0 v1 x1 W hR0 hl0 hR1 hl1).mono fun e W' ⟨he, hb⟩ => ?_
  subst he
  exact ⟨_, rfl, law_post rd_FnExactIsLiftPlan rfl rfl hW' rfl hb⟩

theorem holds_FnExactIsLiftPlan : Rows.FnExactIsLiftPlanSaid :=
  OpenClaim.holds_of_wide 9 Try.f9 rfl rfl rfl rfl rfl rfl rfl ⟨rfl, rfl, rfl, rfl, rfl⟩ rfl rfl rfl rfl rfl (by kernel_rfl) Try.func9 (by kernel_rfl)
    (of_decide_eq_true (by kernel_rfl)) (by unfold Func.isWrapper; first | (rw [if_pos (by decide +kernel)]; kernel_rfl) | (rw [if_neg (by decide +kernel)]; exact ⟨rfl, rfl⟩))
    (fun os started H enc _ => lifted_FnExactIsLiftPlan os started H enc)


end Go.Proofs.Ytahcdofikfookaa
