/-
  The law FnExactReadOrder: the program answers as the reference, for all arguments; no condition. The walk and the row; printed by genlaw.py and genrow.py.
-/
import Derived.Test.YtlgmelkcokkcdaaDoorRdO2
import Derived.Test.YtlgmelkcokkcdaaDoorOrdM
import Derived.Test.YtlgmelkcokkcdaaDoorDoor
import Derived.ChangeMaps5
import Derived.Deep.RegionHeld3
import Derived.Deep.DrawnRows
namespace Go.Proofs.YtlgmelkcokkcdaaDoor
open Go.ChangeShapes Go.WideShapes Go.ChangeAt Go.RowKit Go.Sort
set_option linter.unusedVariables false
attribute [local go_sem ↓] Go.wp_at_zero Go.wp_at_succ

set_option maxHeartbeats 2000000 in
set_option maxRecDepth 100000 in
theorem law_FnExactReadOrder (sS : ByteArray) (w : World) (hEnv : Env w) (hsS : sS.size ≤ maxLen) :
    Calls Tryd.prog 3 #[.string sS] w (Ret (.bool true) w) := by
  have HEV : Hid (∀ W', Below w.heap.size w W' → Env W') := Lib.hid fun W' h => hEnv.ext h; clear hEnv
  have HSS := Lib.hid hsS; unfold maxLen at hsS
  have HW : Hid (Below w.heap.size w w) := Lib.hid (ext_refl w)
  go_enter Tryd.func3, Tryd.ntmps3
  go_wp2_with fail
  · go_ret
    exact ⟨rfl, ext_trans HW.out (ext_refl _)⟩
  have hlenS : (sS.size : Int) ≤ 1048576 := by first | assumption | omega
  clear HSS; have HSS : Hid (sS.size ≤ 1048576) := Lib.hid (by omega)
  go_wp2_with fail
  refine (spec_ReadOrder sS _ HSS.out (HEV.out _ (ext_trans HW.out (ext_refl _)))).mono ?_
  rintro e w1 ⟨vw1_0, rfl, rfl, hsmw1_0, hbw1⟩
  have hcw1 : Below w.heap.size w w1 := (ext_trans (ext_refl _) hbw1)
  have HW_ : Hid (Below w.heap.size w w1) := Lib.hid (ext_trans HW.out hcw1)
  have zw1 := hcw1.size
  clear HW; have HW := HW_; clear HW_
  clear hcw1 hbw1
  have hOO : OOD w1 (w.heap.size) (.agg #[.int .i64 (rdOv sS).id, .string (rdOv sS).cu, .int .i64 (rdOv sS).br, .int .i64 (rdOv sS).due, .int .i64 (rdOv sS).sent]) (rdOv sS) := rfl
  have HB_w0 : Hid (∀ k, BOD (.agg #[.int .i64 (rdOv sS).id, .string (rdOv sS).cu, .int .i64 (rdOv sS).br, .int .i64 (rdOv sS).due, .int .i64 (rdOv sS).sent]) k → w.heap.size ≤ k ∧ k < w1.heap.size) := Lib.hid hOO.ge
  have HO_w0 := Lib.hid hOO; clear hOO
  have SM_w0 := Lib.hid hsmw1_0; clear hsmw1_0
  go_wp2_with fail
  refine (impl_ReadOrder sS _ HSS.out (HEV.out _ (ext_trans HW.out (ext_alloc (ext_refl _) _)))).mono ?_
  rintro e w2 ⟨vw2_0, rfl, rfl, hsmw2_0, hbw2⟩
  have hcw2 : Below w1.heap.size w1 w2 := (ext_trans (ext_alloc (ext_refl _) _) hbw2)
  have HW_ : Hid (Below w.heap.size w w2) := Lib.hid (ext_trans HW.out hcw2)
  have zw2 := hcw2.size
  have HO_w0_ := Lib.hid (HO_w0.out.ext hcw2); clear HO_w0; have HO_w0 := HO_w0_; clear HO_w0_
  clear HW; have HW := HW_; clear HW_
  have yw2 := Below.size hbw2
  simp only [World.size_alloc] at yw2
  have k_w0_0 : ∀ W', Below w2.heap.size w2 W' → W'.cell? ⟨w1.heap.size, 0, none⟩ = some (.int .i64 (rdOv sS).id) := fun W' h => cell_keep (cell_keep (p := ⟨w1.heap.size, 0, none⟩) (v := .int .i64 (rdOv sS).id) (by simp [go_sem]) hbw2) h
  have k_w0_1 : ∀ W', Below w2.heap.size w2 W' → W'.cell? ⟨w1.heap.size, 1, none⟩ = some (.string (rdOv sS).cu) := fun W' h => cell_keep (cell_keep (p := ⟨w1.heap.size, 1, none⟩) (v := .string (rdOv sS).cu) (by simp [go_sem]) hbw2) h
  have k_w0_2 : ∀ W', Below w2.heap.size w2 W' → W'.cell? ⟨w1.heap.size, 2, none⟩ = some (.int .i64 (rdOv sS).br) := fun W' h => cell_keep (cell_keep (p := ⟨w1.heap.size, 2, none⟩) (v := .int .i64 (rdOv sS).br) (by simp [go_sem]) hbw2) h
  have k_w0_3 : ∀ W', Below w2.heap.size w2 W' → W'.cell? ⟨w1.heap.size, 3, none⟩ = some (.int .i64 (rdOv sS).due) := fun W' h => cell_keep (cell_keep (p := ⟨w1.heap.size, 3, none⟩) (v := .int .i64 (rdOv sS).due) (by simp [go_sem]) hbw2) h
  have k_w0_4 : ∀ W', Below w2.heap.size w2 W' → W'.cell? ⟨w1.heap.size, 4, none⟩ = some (.int .i64 (rdOv sS).sent) := fun W' h => cell_keep (cell_keep (p := ⟨w1.heap.size, 4, none⟩) (v := .int .i64 (rdOv sS).sent) (by simp [go_sem]) hbw2) h
  have hL : Below w2.heap.size w2 w2 := ext_refl _
  have haL : ∀ o, Below w2.heap.size w2 (w2.alloc o) := fun o => ext_alloc hL o
  clear hcw2 hbw2
  have hOO : OOD w2 (w1.heap.size + 1) (.agg #[.int .i64 (rdOv sS).id, .string (rdOv sS).cu, .int .i64 (rdOv sS).br, .int .i64 (rdOv sS).due, .int .i64 (rdOv sS).sent]) (rdOv sS) := by simpa only [World.size_alloc] using (show OOD w2 _ (.agg #[.int .i64 (rdOv sS).id, .string (rdOv sS).cu, .int .i64 (rdOv sS).br, .int .i64 (rdOv sS).due, .int .i64 (rdOv sS).sent]) (rdOv sS) from rfl)
  have HB_g0 : Hid (∀ k, BOD (.agg #[.int .i64 (rdOv sS).id, .string (rdOv sS).cu, .int .i64 (rdOv sS).br, .int .i64 (rdOv sS).due, .int .i64 (rdOv sS).sent]) k → w1.heap.size + 1 ≤ k ∧ k < w2.heap.size) := Lib.hid hOO.ge
  have HO_g0 := Lib.hid hOO; clear hOO
  have SM_g0 := Lib.hid hsmw2_0; clear hsmw2_0
  go_wp2_with fail
  refine (eq_OD _ _ (rdOv sS) _ ((HO_g0.out.ext (ext_alloc (ext_refl _) _)).rd) ((HO_w0.out.ext (ext_alloc (ext_refl _) _)).rd)).mono ?_
  rintro e w3 ⟨rfl, hbw3⟩
  have hcw3 : Below w2.heap.size w2 w3 := ext_trans (ext_alloc (ext_refl _) _) hbw3
  have HW_ : Hid (Below w.heap.size w w3) := Lib.hid (ext_trans HW.out hcw3)
  have zw3 := hcw3.size
  have HO_w0_ := Lib.hid (HO_w0.out.ext hcw3); clear HO_w0; have HO_w0 := HO_w0_; clear HO_w0_
  have HO_g0_ := Lib.hid (HO_g0.out.ext hcw3); clear HO_g0; have HO_g0 := HO_g0_; clear HO_g0_
  clear HW; have HW := HW_; clear HW_
  have yw3 := Below.size hbw3
  simp only [World.size_alloc] at yw3
  have k_g0_0 : ∀ W', Below w3.heap.size w3 W' → W'.cell? ⟨w2.heap.size, 0, none⟩ = some (.int .i64 (rdOv sS).id) := fun W' h => cell_keep (cell_keep (p := ⟨w2.heap.size, 0, none⟩) (v := .int .i64 (rdOv sS).id) (by simp [go_sem]) hbw3) h
  have k_g0_1 : ∀ W', Below w3.heap.size w3 W' → W'.cell? ⟨w2.heap.size, 1, none⟩ = some (.string (rdOv sS).cu) := fun W' h => cell_keep (cell_keep (p := ⟨w2.heap.size, 1, none⟩) (v := .string (rdOv sS).cu) (by simp [go_sem]) hbw3) h
  have k_g0_2 : ∀ W', Below w3.heap.size w3 W' → W'.cell? ⟨w2.heap.size, 2, none⟩ = some (.int .i64 (rdOv sS).br) := fun W' h => cell_keep (cell_keep (p := ⟨w2.heap.size, 2, none⟩) (v := .int .i64 (rdOv sS).br) (by simp [go_sem]) hbw3) h
  have k_g0_3 : ∀ W', Below w3.heap.size w3 W' → W'.cell? ⟨w2.heap.size, 3, none⟩ = some (.int .i64 (rdOv sS).due) := fun W' h => cell_keep (cell_keep (p := ⟨w2.heap.size, 3, none⟩) (v := .int .i64 (rdOv sS).due) (by simp [go_sem]) hbw3) h
  have k_g0_4 : ∀ W', Below w3.heap.size w3 W' → W'.cell? ⟨w2.heap.size, 4, none⟩ = some (.int .i64 (rdOv sS).sent) := fun W' h => cell_keep (cell_keep (p := ⟨w2.heap.size, 4, none⟩) (v := .int .i64 (rdOv sS).sent) (by simp [go_sem]) hbw3) h
  replace k_w0_0 : ∀ W', Below w3.heap.size w3 W' → W'.cell? ⟨w1.heap.size, 0, none⟩ = some (.int .i64 (rdOv sS).id) := fun W' h => k_w0_0 W' (ext_trans (ext_trans hL hcw3) h)
  replace k_w0_1 : ∀ W', Below w3.heap.size w3 W' → W'.cell? ⟨w1.heap.size, 1, none⟩ = some (.string (rdOv sS).cu) := fun W' h => k_w0_1 W' (ext_trans (ext_trans hL hcw3) h)
  replace k_w0_2 : ∀ W', Below w3.heap.size w3 W' → W'.cell? ⟨w1.heap.size, 2, none⟩ = some (.int .i64 (rdOv sS).br) := fun W' h => k_w0_2 W' (ext_trans (ext_trans hL hcw3) h)
  replace k_w0_3 : ∀ W', Below w3.heap.size w3 W' → W'.cell? ⟨w1.heap.size, 3, none⟩ = some (.int .i64 (rdOv sS).due) := fun W' h => k_w0_3 W' (ext_trans (ext_trans hL hcw3) h)
  replace k_w0_4 : ∀ W', Below w3.heap.size w3 W' → W'.cell? ⟨w1.heap.size, 4, none⟩ = some (.int .i64 (rdOv sS).sent) := fun W' h => k_w0_4 W' (ext_trans (ext_trans hL hcw3) h)
  clear hL haL
  have hL : Below w3.heap.size w3 w3 := ext_refl _
  have haL : ∀ o, Below w3.heap.size w3 (w3.alloc o) := fun o => ext_alloc hL o
  clear hbw3 hcw3
  go_wp2_with fail
  go_ret
  exact ⟨rfl, ext_trans HW.out (ext_refl _)⟩

theorem rd_FnExactReadOrder : ∀ t ∈ Tryd.f3.params.toList, Tryd.prog.readableRec t = true ∧ t < Tryd.prog.types.size := by
  have h : Tryd.f3.params.toList.all (fun t => Tryd.prog.readableRec t && decide (t < Tryd.prog.types.size)) = true := by kernel_rfl
  intro t ht
  have := List.all_eq_true.1 h t ht
  simpa using this

set_option maxRecDepth 100000 in
theorem lifted_FnExactReadOrder (os : Os) (started : os.Started) (H : Type) (enc : TypeId × Value → H) :
    ReturnsInHanded {} Tryd.checked os 3 .any (fun w args => (Rows.fnExactReadOrderSpec.pre enc Tryd.prog Tryd.f3 [] false w args ∧ laidMetH Tryd.prog Rows.fnExactReadOrderRow.laid w) ∧ sizedMet enc Tryd.prog Tryd.f3 (OpenSpec.ofChange Rows.fnExactReadOrderSpec) false w args)
      (Rows.fnExactReadOrderSpec.post enc Tryd.prog Tryd.f3 false true false false) := by
  have plain : ∀ w, laidMetH Tryd.prog Rows.fnExactReadOrderRow.laid w = laidMet Tryd.prog Rows.fnExactReadOrderRow.laid w := fun w => MakeChecks.laidMetH_plain _ _ _ (by kernel_rfl)
  refine returns_door (C := Tryd.checked) (X := fun w _ => laidMetH Tryd.prog Rows.fnExactReadOrderRow.laid w) (fun _ _ _ hh h => h.of_heap hh) own_knob started (by kernel_rfl) Tryd.func3
    (ChangeSpec.witness_shaped (enc := enc) (C := Tryd.checked) (os := os) (X := fun w _ => laidMetH Tryd.prog Rows.fnExactReadOrderRow.laid w) false (World.laidAll Tryd.prog os Rows.fnExactReadOrderRow.laid) #[.string ⟨#[]⟩] 8 (World.laidAll_os _ _ _)
      (World.shaped_of_ZipB (by kernel_rfl) (by kernel_rfl)) (by kernel_rfl) (by kernel_rfl) (by kernel_rfl)
      (by rw [plain]; exact laidMet_laidAll _ (by kernel_rfl) (by kernel_rfl))) ?_
  intro W base args ds gs before hval0 hW hL hsh
  rw [plain] at hL
  have hEnv : Env W := env_of hL hsh (by simp [Rows.fnExactReadOrderRow]) (by simp [Rows.fnExactReadOrderRow, Rows.laid_strconv_ErrSyntax]) (by simp [Rows.fnExactReadOrderRow, Rows.laid_strconv_ErrRange])
  have hval : ∀ (j : Nat) t v, Tryd.f3.params[j]? = some t → args[j]? = some v → Value.okWide Tryd.prog W .any base t v := hval0
  have hW' : DataW.Whole enc Tryd.prog Tryd.f3.params.toList (Rows.fnExactReadOrderSpec).vars false W args.toList ds gs before := hW
  obtain ⟨p, q, hA0, hV, _, hfz, hnd⟩ := hW
  have hA : DataW.TrodAll enc Tryd.prog W 0 (fun _ => true) true Tryd.f3.params.toList args.toList ds p := hA0
  rw [Tryd.params3] at hA hval
  obtain ⟨v0, vs0, d0, ds0, p0, q0, ha0, hd0, hp0, h0, rr0⟩ := trodAll_cons hA
  subst hd0 hp0
  obtain ⟨e1, e2, e3⟩ := trodAll_nil rr0
  subst e1 e2 e3
  obtain rfl : args = #[v0] := by cases args; simp_all
  obtain ⟨rfl, rfl⟩ := trodVars_none hV
  obtain ⟨s0, rfl, rfl, rfl, ws0⟩ := Go.ChangeMaps.open_string Tryd.underlying9 (hval 0 9 v0 rfl rfl) h0
  clear hA0 hval0
  refine (law_FnExactReadOrder s0 W hEnv ws0).mono fun e W' ⟨he, hb⟩ => ?_
  subst he
  exact ⟨_, rfl, law_post rd_FnExactReadOrder rfl rfl hW' rfl hb⟩

theorem bare_FnExactReadOrder : Rows.FnExactReadOrderSaid :=
  OpenClaim.holds_of_wide 3 Tryd.f3 rfl rfl rfl rfl rfl rfl rfl ⟨rfl, rfl, rfl, rfl, rfl⟩ rfl rfl rfl rfl rfl (by kernel_rfl) Tryd.func3 (by kernel_rfl)
    (of_decide_eq_true (by kernel_rfl)) (by unfold Func.isWrapper; first | (rw [if_pos (by decide +kernel)]; kernel_rfl) | (rw [if_neg (by decide +kernel)]; exact ⟨rfl, rfl⟩))
    (fun os started H enc _ => lifted_FnExactReadOrder os started H enc)

theorem wants_FnExactReadOrder : Tryd.f3.params.toList.all (fun u => !Tryd.prog.wantsStandIn u) = true := by kernel_rfl
theorem named_FnExactReadOrder : Tryd.prog.funcNamed "loop.example/g01042/laws.FnExactReadOrder" = some 3 := by kernel_rfl
theorem holds_FnExactReadOrder : Rows.FnExactReadOrderCardSaid :=
  Claim7.holds_tied_plain_at .later [] Rows.fnExactReadOrderCard.laidKinds true Rows.fnExactReadOrderCard.stood.harness Rows.fnExactReadOrderCard.stood.looks
    bare_FnExactReadOrder (fun _ h => by cases h) (by kernel_rfl) (fun _ h => by cases h) fnExactReadOrder_row_tie rfl ⟨rfl, rfl⟩ (by kernel_rfl) rfl
    (fun f fn hf hfn => by
      obtain rfl : f = 3 := (Option.some.inj (named_FnExactReadOrder.symm.trans hf)).symm
      obtain rfl : fn = Tryd.f3 := (Option.some.inj (Tryd.func3.symm.trans hfn)).symm
      exact ⟨by kernel_rfl, fun j t ht => by
        have hm : t ∈ Tryd.f3.params.toList := by simpa using Array.mem_of_getElem? ht
        exact (show Tryd.prog.wantsStandIn t = false by simpa using List.all_eq_true.1 wants_FnExactReadOrder t hm)⟩)
    (by kernel_rfl)


end Go.Proofs.YtlgmelkcokkcdaaDoor
