/-
  The law FnExactRiseText: the program answers as the reference, for all arguments; no condition. The walk and the row; printed by genlaw.py and genrow.py.
-/
import Derived.Test.YtlgmelkcokkcdaaDoorRisT
import Derived.Test.YtlgmelkcokkcdaaDoorRowRise
import Derived.Test.YtlgmelkcokkcdaaDoorDoor
import Derived.ChangeMaps5
import Derived.Deep.RegionHeld3
import Derived.Deep.DrawnRows
namespace Go.Proofs.YtlgmelkcokkcdaaDoor
open Go.ChangeShapes Go.WideShapes Go.ChangeAt Go.RowKit Go.Sort
set_option linter.unusedVariables false
attribute [local go_sem ↓] Go.wp_at_zero Go.wp_at_succ

set_option maxHeartbeats 2000000 in
set_option maxRecDepth 100000 in
theorem law_FnExactRiseText (vR : Value) (rR : RS) (w : World) (hEnv : LayF w) (hRR : SR w vR rR) (hlR : LenSR rR) :
    Calls Tryd.prog 4 #[vR] w (Ret (.bool true) w) := by
  have HEV : Hid (∀ W', Below w.heap.size w W' → LayF W') := Lib.hid fun W' h => hEnv.ext h; clear hEnv
  obtain ⟨AR, cR, rfl, hOR⟩ := hRR
  have HRR : Hid (∀ W', Below w.heap.size w W' → SR W' (.agg #[.slice AR rR.cs.length cR, .int .i64 rR.reach, .int .i64 rR.setup, .int .i64 rR.easy]) rR) := Lib.hid fun W' h => SR.ext (show SR w (.agg #[.slice AR rR.cs.length cR, .int .i64 rR.reach, .int .i64 rR.setup, .int .i64 rR.easy]) rR from ⟨_, _, rfl, hOR⟩) h
  clear hOR
  have HlR := Lib.hid hlR; clear hlR
  have HW : Hid (Below w.heap.size w w) := Lib.hid (ext_refl w)
  go_enter Tryd.func4, Tryd.ntmps4
  have hp0 : (0 : Int) ≤ 1048576 := by omega
  have hq0 : (1048576 : Int) ≤ 1048576 := by omega
  go_wp2_with fail
  refine (sz_SR _ rR 1048576 hp0 hq0 _ HlR.out (HRR.out _ (ext_trans HW.out (ext_alloc (ext_refl _) _)))).mono ?_
  rintro e w1 ⟨rfl, hbw1⟩
  have hcw1 : Below w.heap.size w w1 := ext_trans (ext_alloc (ext_refl _) _) hbw1
  have HW_ : Hid (Below w.heap.size w w1) := Lib.hid (ext_trans HW.out hcw1)
  have zw1 := hcw1.size
  clear HW; have HW := HW_; clear HW_
  have yw1 := Below.size hbw1
  simp only [World.size_alloc] at yw1
  have k_aR_0 : ∀ W', Below w1.heap.size w1 W' → W'.cell? ⟨w.heap.size, 0, none⟩ = some (.slice AR rR.cs.length cR) := fun W' h => cell_keep (cell_keep (p := ⟨w.heap.size, 0, none⟩) (v := .slice AR rR.cs.length cR) (by simp [go_sem]) hbw1) h
  have k_aR_1 : ∀ W', Below w1.heap.size w1 W' → W'.cell? ⟨w.heap.size, 1, none⟩ = some (.int .i64 rR.reach) := fun W' h => cell_keep (cell_keep (p := ⟨w.heap.size, 1, none⟩) (v := .int .i64 rR.reach) (by simp [go_sem]) hbw1) h
  have k_aR_2 : ∀ W', Below w1.heap.size w1 W' → W'.cell? ⟨w.heap.size, 2, none⟩ = some (.int .i64 rR.setup) := fun W' h => cell_keep (cell_keep (p := ⟨w.heap.size, 2, none⟩) (v := .int .i64 rR.setup) (by simp [go_sem]) hbw1) h
  have k_aR_3 : ∀ W', Below w1.heap.size w1 W' → W'.cell? ⟨w.heap.size, 3, none⟩ = some (.int .i64 rR.easy) := fun W' h => cell_keep (cell_keep (p := ⟨w.heap.size, 3, none⟩) (v := .int .i64 rR.easy) (by simp [go_sem]) hbw1) h
  have hL : Below w1.heap.size w1 w1 := ext_refl _
  have haL : ∀ o, Below w1.heap.size w1 (w1.alloc o) := fun o => ext_alloc hL o
  clear hbw1 hcw1
  obtain ⟨hqw1, hrw1⟩ := szSR_le rR hq0
  go_wp2_with fail
  · go_ret
    exact ⟨rfl, ext_trans HW.out (ext_refl _)⟩
  have hpw1 : 0 ≤ szSR rR 1048576 := by assumption
  obtain ⟨huR, hsmR⟩ := ok_SR hq0 hpw1
  have SmR := Lib.hid hsmR; clear hsmR
  go_wp2_with fail
  refine (to_SR _ rR _ (HRR.out _ (ext_trans HW.out (ext_refl _))) SmR.out).mono ?_
  rintro e w2 ⟨vw2, rfl, hOw2, hbw2⟩
  go_wp2_with fail
  refine (spec_RiseText _ rR _ hOw2.rd SmR.out (HEV.out _ (ext_trans HW.out (ext_trans (ext_refl _) hbw2)))).mono ?_
  rintro e w3 ⟨rfl, hbw3⟩
  have hcw3 : Below w1.heap.size w1 w3 := (ext_trans (ext_trans (ext_refl _) hbw2) hbw3)
  have HW_ : Hid (Below w.heap.size w w3) := Lib.hid (ext_trans HW.out hcw3)
  have zw3 := hcw3.size
  clear HW; have HW := HW_; clear HW_
  replace hL : Below w1.heap.size w1 w3 := ext_trans hL hcw3
  clear haL
  have haL : ∀ o, Below w1.heap.size w1 (w3.alloc o) := fun o => ext_alloc hL o
  clear hcw3 hbw2 hbw3
  clear hOw2
  go_wp2_with fail
  refine (to_SR _ rR _ (HRR.out _ (ext_trans HW.out (ext_refl _))) SmR.out).mono ?_
  rintro e w4 ⟨vw4, rfl, ⟨Aw4, cw4, rfl, hOw4⟩, hbw4⟩
  have hOO : OSR w4 (w3.heap.size) (.agg #[.slice Aw4 rR.cs.length cw4, .int .i64 rR.reach, .int .i64 rR.setup, .int .i64 rR.easy]) rR := ⟨_, _, rfl, hOw4⟩
  have hcw4 : Below w3.heap.size w3 w4 := ext_trans (ext_refl _) hbw4
  have HW_ : Hid (Below w.heap.size w w4) := Lib.hid (ext_trans HW.out hcw4)
  have zw4 := hcw4.size
  clear HW; have HW := HW_; clear HW_
  replace hL : Below w1.heap.size w1 w4 := ext_trans hL hcw4
  clear haL
  have haL : ∀ o, Below w1.heap.size w1 (w4.alloc o) := fun o => ext_alloc hL o
  clear hbw4 hcw4
  have HB_x0 : Hid (∀ k, BSR (.agg #[.slice Aw4 rR.cs.length cw4, .int .i64 rR.reach, .int .i64 rR.setup, .int .i64 rR.easy]) k → w3.heap.size ≤ k ∧ k < w4.heap.size) := Lib.hid hOO.ge
  have HO_x0 := Lib.hid hOO; clear hOO
  go_wp2_with fail
  refine (impl_RiseText _ rR _ ((HO_x0.out.ext (ext_alloc (ext_refl _) _)).rd) SmR.out (HEV.out _ (ext_trans HW.out (ext_alloc (ext_refl _) _)))).mono ?_
  rintro e w5 ⟨rfl, hbw5⟩
  have hcw5 : Below w4.heap.size w4 w5 := (ext_trans (ext_alloc (ext_refl _) _) hbw5)
  have HW_ : Hid (Below w.heap.size w w5) := Lib.hid (ext_trans HW.out hcw5)
  have zw5 := hcw5.size
  have HO_x0_ := Lib.hid (HO_x0.out.ext hcw5); clear HO_x0; have HO_x0 := HO_x0_; clear HO_x0_
  clear HW; have HW := HW_; clear HW_
  have yw5 := Below.size hbw5
  simp only [World.size_alloc] at yw5
  have k_x0_0 : ∀ W', Below w5.heap.size w5 W' → W'.cell? ⟨w4.heap.size, 0, none⟩ = some (.slice Aw4 rR.cs.length cw4) := fun W' h => cell_keep (cell_keep (p := ⟨w4.heap.size, 0, none⟩) (v := .slice Aw4 rR.cs.length cw4) (by simp [go_sem]) hbw5) h
  have k_x0_1 : ∀ W', Below w5.heap.size w5 W' → W'.cell? ⟨w4.heap.size, 1, none⟩ = some (.int .i64 rR.reach) := fun W' h => cell_keep (cell_keep (p := ⟨w4.heap.size, 1, none⟩) (v := .int .i64 rR.reach) (by simp [go_sem]) hbw5) h
  have k_x0_2 : ∀ W', Below w5.heap.size w5 W' → W'.cell? ⟨w4.heap.size, 2, none⟩ = some (.int .i64 rR.setup) := fun W' h => cell_keep (cell_keep (p := ⟨w4.heap.size, 2, none⟩) (v := .int .i64 rR.setup) (by simp [go_sem]) hbw5) h
  have k_x0_3 : ∀ W', Below w5.heap.size w5 W' → W'.cell? ⟨w4.heap.size, 3, none⟩ = some (.int .i64 rR.easy) := fun W' h => cell_keep (cell_keep (p := ⟨w4.heap.size, 3, none⟩) (v := .int .i64 rR.easy) (by simp [go_sem]) hbw5) h
  replace k_aR_0 : ∀ W', Below w5.heap.size w5 W' → W'.cell? ⟨w.heap.size, 0, none⟩ = some (.slice AR rR.cs.length cR) := fun W' h => k_aR_0 W' (ext_trans (ext_trans hL hcw5) h)
  replace k_aR_1 : ∀ W', Below w5.heap.size w5 W' → W'.cell? ⟨w.heap.size, 1, none⟩ = some (.int .i64 rR.reach) := fun W' h => k_aR_1 W' (ext_trans (ext_trans hL hcw5) h)
  replace k_aR_2 : ∀ W', Below w5.heap.size w5 W' → W'.cell? ⟨w.heap.size, 2, none⟩ = some (.int .i64 rR.setup) := fun W' h => k_aR_2 W' (ext_trans (ext_trans hL hcw5) h)
  replace k_aR_3 : ∀ W', Below w5.heap.size w5 W' → W'.cell? ⟨w.heap.size, 3, none⟩ = some (.int .i64 rR.easy) := fun W' h => k_aR_3 W' (ext_trans (ext_trans hL hcw5) h)
  clear hL haL
  have hL : Below w5.heap.size w5 w5 := ext_refl _
  have haL : ∀ o, Below w5.heap.size w5 (w5.alloc o) := fun o => ext_alloc hL o
  clear hcw5 hbw5
  go_wp2_with fail
  go_region_held3 (fun w' => Below w5.heap.size w5 w') (first | exact ext_drew hL | exact ext_trans (by assumption) (by assumption) | assumption)
    (first
      | (go_at_call 12; (have ht := to_SR _ rR _ (HRR.out _ (ext_trans HW.out (ext_drew (ext_refl _)))) SmR.out); (with_reducible refine ht.mono ?_); clear ht; rintro e w6 ⟨vw6, rfl, hOw6, hbw6⟩)
      | (go_at_call 14; (have ht := eq_SR _ _ rR _ ((HO_x0.out.ext (ext_trans (ext_drew (ext_refl _)) hbw6)).rd) hOw6.rd); (with_reducible refine ht.mono ?_); clear ht; rintro e w7 ⟨rfl, hbw7⟩)
      | fail)
  have hcw7 : Below w5.heap.size w5 w7 := (ext_trans (ext_trans (ext_drew (ext_refl _)) hbw6) hbw7)
  have HW_ : Hid (Below w.heap.size w w7) := Lib.hid (ext_trans HW.out hcw7)
  have zw7 := hcw7.size
  have HO_x0_ := Lib.hid (HO_x0.out.ext hcw7); clear HO_x0; have HO_x0 := HO_x0_; clear HO_x0_
  clear HW; have HW := HW_; clear HW_
  replace hL : Below w5.heap.size w5 w7 := ext_trans hL hcw7
  clear haL
  have haL : ∀ o, Below w5.heap.size w5 (w7.alloc o) := fun o => ext_alloc hL o
  clear hcw7 hbw6 hbw7
  clear hOw6
  go_wp2_with fail
  go_ret
  exact ⟨rfl, ext_trans HW.out (ext_refl _)⟩

theorem rd_FnExactRiseText : ∀ t ∈ Tryd.f4.params.toList, Tryd.prog.readableRec t = true ∧ t < Tryd.prog.types.size := by
  have h : Tryd.f4.params.toList.all (fun t => Tryd.prog.readableRec t && decide (t < Tryd.prog.types.size)) = true := by kernel_rfl
  intro t ht
  have := List.all_eq_true.1 h t ht
  simpa using this

set_option maxRecDepth 100000 in
theorem lifted_FnExactRiseText (os : Os) (started : os.Started) (H : Type) (enc : TypeId × Value → H) :
    ReturnsInHanded {} Tryd.checked os 4 .any (fun w args => (Rows.fnExactRiseTextSpec.pre enc Tryd.prog Tryd.f4 [] false w args ∧ laidMetH Tryd.prog Rows.fnExactRiseTextRow.laid w) ∧ sizedMet enc Tryd.prog Tryd.f4 (OpenSpec.ofChange Rows.fnExactRiseTextSpec) false w args)
      (Rows.fnExactRiseTextSpec.post enc Tryd.prog Tryd.f4 false true false false) := by
  have plain : ∀ w, laidMetH Tryd.prog Rows.fnExactRiseTextRow.laid w = laidMet Tryd.prog Rows.fnExactRiseTextRow.laid w := fun w => MakeChecks.laidMetH_plain _ _ _ (by kernel_rfl)
  refine returns_door (C := Tryd.checked) (X := fun w _ => laidMetH Tryd.prog Rows.fnExactRiseTextRow.laid w) (fun _ _ _ hh h => h.of_heap hh) own_knob started (by kernel_rfl) Tryd.func4
    (ChangeSpec.witness_shaped (enc := enc) (C := Tryd.checked) (os := os) (X := fun w _ => laidMetH Tryd.prog Rows.fnExactRiseTextRow.laid w) false (World.laidAll Tryd.prog os Rows.fnExactRiseTextRow.laid) #[.agg #[.slice none 0 0, .int .i64 0, .int .i64 0, .int .i64 0]] 8 (World.laidAll_os _ _ _)
      (World.shaped_of_ZipB (by kernel_rfl) (by kernel_rfl)) (by kernel_rfl) (by kernel_rfl) (by kernel_rfl)
      (by rw [plain]; exact laidMet_laidAll _ (by kernel_rfl) (by kernel_rfl))) ?_
  intro W base args ds gs before hval0 hW hL hsh
  rw [plain] at hL
  have hEnv : LayF W := layF_of hL (by simp [Rows.fnExactRiseTextRow])
  have hval : ∀ (j : Nat) t v, Tryd.f4.params[j]? = some t → args[j]? = some v → Value.okWide Tryd.prog W .any base t v := hval0
  have hW' : DataW.Whole enc Tryd.prog Tryd.f4.params.toList (Rows.fnExactRiseTextSpec).vars false W args.toList ds gs before := hW
  obtain ⟨p, q, hA0, hV, _, hfz, hnd⟩ := hW
  have hA : DataW.TrodAll enc Tryd.prog W 0 (fun _ => true) true Tryd.f4.params.toList args.toList ds p := hA0
  rw [Tryd.params4] at hA hval
  obtain ⟨v0, vs0, d0, ds0, p0, q0, ha0, hd0, hp0, h0, rr0⟩ := trodAll_cons hA
  subst hd0 hp0
  obtain ⟨e1, e2, e3⟩ := trodAll_nil rr0
  subst e1 e2 e3
  obtain rfl : args = #[v0] := by cases args; simp_all
  obtain ⟨rfl, rfl⟩ := trodVars_none hV
  obtain ⟨r0, hR0, hl0⟩ := open_SR (hval 0 30 v0 rfl rfl) h0
  clear hA0 hval0
  refine (law_FnExactRiseText v0 r0 W hEnv hR0 hl0).mono fun e W' ⟨he, hb⟩ => ?_
  subst he
  exact ⟨_, rfl, law_post rd_FnExactRiseText rfl rfl hW' rfl hb⟩

theorem bare_FnExactRiseText : Rows.FnExactRiseTextSaid :=
  OpenClaim.holds_of_wide 4 Tryd.f4 rfl rfl rfl rfl rfl rfl rfl ⟨rfl, rfl, rfl, rfl, rfl⟩ rfl rfl rfl rfl rfl (by kernel_rfl) Tryd.func4 (by kernel_rfl)
    (of_decide_eq_true (by kernel_rfl)) (by unfold Func.isWrapper; first | (rw [if_pos (by decide +kernel)]; kernel_rfl) | (rw [if_neg (by decide +kernel)]; exact ⟨rfl, rfl⟩))
    (fun os started H enc _ => lifted_FnExactRiseText os started H enc)

theorem wants_FnExactRiseText : Tryd.f4.params.toList.all (fun u => !Tryd.prog.wantsStandIn u) = true := by kernel_rfl
theorem named_FnExactRiseText : Tryd.prog.funcNamed "loop.example/g01042/laws.FnExactRiseText" = some 4 := by kernel_rfl
theorem holds_FnExactRiseText : Rows.FnExactRiseTextCardSaid :=
  Claim7.holds_tied_plain_at .later [] Rows.fnExactRiseTextCard.laidKinds true Rows.fnExactRiseTextCard.stood.harness Rows.fnExactRiseTextCard.stood.looks
    bare_FnExactRiseText (fun _ h => by cases h) (by kernel_rfl) (fun _ h => by cases h) fnExactRiseText_row_tie rfl ⟨rfl, rfl⟩ (by kernel_rfl) rfl
    (fun f fn hf hfn => by
      obtain rfl : f = 4 := (Option.some.inj (named_FnExactRiseText.symm.trans hf)).symm
      obtain rfl : fn = Tryd.f4 := (Option.some.inj (Tryd.func4.symm.trans hfn)).symm
      exact ⟨by kernel_rfl, fun j t ht => by
        have hm : t ∈ Tryd.f4.params.toList := by simpa using Array.mem_of_getElem? ht
        exact (show Tryd.prog.wantsStandIn t = false by simpa using List.all_eq_true.1 wants_FnExactRiseText t hm)⟩)
    (by kernel_rfl)


end Go.Proofs.YtlgmelkcokkcdaaDoor
