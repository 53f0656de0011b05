/-
  The law FnExactOrderText: the program answers as the reference, for all arguments; no condition. The walk and the row; printed by genlaw.py and genrow.py.
-/
import Derived.Test.YtpfbdafnieljiaaDoorOrdT
import Derived.Test.YtpfbdafnieljiaaDoorOrdM
import Derived.Test.YtpfbdafnieljiaaDoorDoor
import Derived.ChangeMaps5
import Derived.Deep.RegionHeld3
import Derived.Deep.DrawnRows
namespace Go.Proofs.YtpfbdafnieljiaaDoor
open Go.ChangeShapes Go.WideShapes Go.ChangeAt Go.RowKit Go.Sort
set_option linter.unusedVariables false
attribute [local go_sem ↓] Go.wp_at_zero Go.wp_at_succ

set_option maxHeartbeats 2000000 in
set_option maxRecDepth 100000 in
theorem law_FnExactOrderText (vX : Value) (oX : OD) (w : World) (hEnv : LayF w) (hRX : ROD w vX oX) (hlX : LenOD oX) :
    Calls Tryd.prog 3 #[vX] w (Ret (.bool true) w) := by
  have HEV : Hid (∀ W', Below w.heap.size w W' → LayF W') := Lib.hid fun W' h => hEnv.ext h; clear hEnv
  obtain rfl : vX = _ := hRX
  have HRX : Hid (∀ W', Below w.heap.size w W' → ROD W' (.agg #[.int .i64 oX.id, .string oX.cu, .int .i64 oX.br, .int .i64 oX.due, .int .i64 oX.sent]) oX) := Lib.hid fun W' h => ROD.ext (show ROD w (.agg #[.int .i64 oX.id, .string oX.cu, .int .i64 oX.br, .int .i64 oX.due, .int .i64 oX.sent]) oX from rfl) h
  have HlX := Lib.hid hlX; clear hlX
  have HW : Hid (Below w.heap.size w w) := Lib.hid (ext_refl w)
  go_enter Tryd.func3, Tryd.ntmps3
  have hp0 : (0 : Int) ≤ 1048576 := by omega
  have hq0 : (1048576 : Int) ≤ 1048576 := by omega
  go_wp2_with fail
  refine (sz_OD _ oX 1048576 hp0 hq0 _ HlX.out (HRX.out _ (ext_trans HW.out (ext_alloc (ext_refl _) _)))).mono ?_
  rintro e w1 ⟨rfl, hbw1⟩
  have hcw1 : Below w.heap.size w w1 := ext_trans (ext_alloc (ext_refl _) _) hbw1
  have HW_ : Hid (Below w.heap.size w w1) := Lib.hid (ext_trans HW.out hcw1)
  have zw1 := hcw1.size
  clear HW; have HW := HW_; clear HW_
  have yw1 := Below.size hbw1
  simp only [World.size_alloc] at yw1
  have k_aX_0 : ∀ W', Below w1.heap.size w1 W' → W'.cell? ⟨w.heap.size, 0, none⟩ = some (.int .i64 oX.id) := fun W' h => cell_keep (cell_keep (p := ⟨w.heap.size, 0, none⟩) (v := .int .i64 oX.id) (by simp [go_sem]) hbw1) h
  have k_aX_1 : ∀ W', Below w1.heap.size w1 W' → W'.cell? ⟨w.heap.size, 1, none⟩ = some (.string oX.cu) := fun W' h => cell_keep (cell_keep (p := ⟨w.heap.size, 1, none⟩) (v := .string oX.cu) (by simp [go_sem]) hbw1) h
  have k_aX_2 : ∀ W', Below w1.heap.size w1 W' → W'.cell? ⟨w.heap.size, 2, none⟩ = some (.int .i64 oX.br) := fun W' h => cell_keep (cell_keep (p := ⟨w.heap.size, 2, none⟩) (v := .int .i64 oX.br) (by simp [go_sem]) hbw1) h
  have k_aX_3 : ∀ W', Below w1.heap.size w1 W' → W'.cell? ⟨w.heap.size, 3, none⟩ = some (.int .i64 oX.due) := fun W' h => cell_keep (cell_keep (p := ⟨w.heap.size, 3, none⟩) (v := .int .i64 oX.due) (by simp [go_sem]) hbw1) h
  have k_aX_4 : ∀ W', Below w1.heap.size w1 W' → W'.cell? ⟨w.heap.size, 4, none⟩ = some (.int .i64 oX.sent) := fun W' h => cell_keep (cell_keep (p := ⟨w.heap.size, 4, none⟩) (v := .int .i64 oX.sent) (by simp [go_sem]) hbw1) h
  have hL : Below w1.heap.size w1 w1 := ext_refl _
  have haL : ∀ o, Below w1.heap.size w1 (w1.alloc o) := fun o => ext_alloc hL o
  clear hbw1 hcw1
  obtain ⟨hqw1, hrw1⟩ := szOD_le oX hq0
  go_wp2_with fail
  · go_ret
    exact ⟨rfl, ext_trans HW.out (ext_refl _)⟩
  have hpw1 : 0 ≤ szOD oX 1048576 := by assumption
  obtain ⟨huX, hsmX⟩ := ok_OD hq0 hpw1
  have SmX := Lib.hid hsmX; clear hsmX
  go_wp2_with fail
  refine (to_ODv _ oX _ (HRX.out _ (ext_trans HW.out (ext_refl _))) SmX.out).mono ?_
  rintro e w2 ⟨vw2, rfl, hOw2, hbw2⟩
  go_wp2_with fail
  refine (spec_OrderText _ oX _ hOw2.rd SmX.out (HEV.out _ (ext_trans HW.out (ext_trans (ext_refl _) hbw2)))).mono ?_
  rintro e w3 ⟨rfl, hbw3⟩
  have hcw3 : Below w1.heap.size w1 w3 := (ext_trans (ext_trans (ext_refl _) hbw2) hbw3)
  have HW_ : Hid (Below w.heap.size w w3) := Lib.hid (ext_trans HW.out hcw3)
  have zw3 := hcw3.size
  clear HW; have HW := HW_; clear HW_
  replace hL : Below w1.heap.size w1 w3 := ext_trans hL hcw3
  clear haL
  have haL : ∀ o, Below w1.heap.size w1 (w3.alloc o) := fun o => ext_alloc hL o
  clear hcw3 hbw2 hbw3
  clear hOw2
  go_wp2_with fail
  refine (to_ODv _ oX _ (HRX.out _ (ext_trans HW.out (ext_refl _))) SmX.out).mono ?_
  rintro e w4 ⟨vw4, rfl, hOw4, hbw4⟩
  go_wp2_with fail
  refine (impl_OrderText _ oX _ hOw4.rd SmX.out (HEV.out _ (ext_trans HW.out (ext_trans (ext_refl _) hbw4)))).mono ?_
  rintro e w5 ⟨rfl, hbw5⟩
  have hcw5 : Below w3.heap.size w3 w5 := (ext_trans (ext_trans (ext_refl _) hbw4) hbw5)
  have HW_ : Hid (Below w.heap.size w w5) := Lib.hid (ext_trans HW.out hcw5)
  have zw5 := hcw5.size
  clear HW; have HW := HW_; clear HW_
  replace hL : Below w1.heap.size w1 w5 := ext_trans hL hcw5
  clear haL
  have haL : ∀ o, Below w1.heap.size w1 (w5.alloc o) := fun o => ext_alloc hL o
  clear hcw5 hbw4 hbw5
  clear hOw4
  go_wp2_with fail
  go_ret
  exact ⟨rfl, ext_trans HW.out (ext_refl _)⟩

theorem rd_FnExactOrderText : ∀ t ∈ Tryd.f3.params.toList, Tryd.prog.readableRec t = true ∧ t < Tryd.prog.types.size := by
  have h : Tryd.f3.params.toList.all (fun t => Tryd.prog.readableRec t && decide (t < Tryd.prog.types.size)) = true := by kernel_rfl
  intro t ht
  have := List.all_eq_true.1 h t ht
  simpa using this

set_option maxRecDepth 100000 in
theorem lifted_FnExactOrderText (os : Os) (started : os.Started) (H : Type) (enc : TypeId × Value → H) :
    ReturnsInHanded {} Tryd.checked os 3 .any (fun w args => (Rows.fnExactOrderTextSpec.pre enc Tryd.prog Tryd.f3 [] false w args ∧ laidMetH Tryd.prog Rows.fnExactOrderTextRow.laid w) ∧ sizedMet enc Tryd.prog Tryd.f3 (OpenSpec.ofChange Rows.fnExactOrderTextSpec) false w args)
      (Rows.fnExactOrderTextSpec.post enc Tryd.prog Tryd.f3 false true false false) := by
  have plain : ∀ w, laidMetH Tryd.prog Rows.fnExactOrderTextRow.laid w = laidMet Tryd.prog Rows.fnExactOrderTextRow.laid w := fun w => MakeChecks.laidMetH_plain _ _ _ (by kernel_rfl)
  refine returns_door (C := Tryd.checked) (X := fun w _ => laidMetH Tryd.prog Rows.fnExactOrderTextRow.laid w) (fun _ _ _ hh h => h.of_heap hh) own_knob started (by kernel_rfl) Tryd.func3
    (ChangeSpec.witness_shaped (enc := enc) (C := Tryd.checked) (os := os) (X := fun w _ => laidMetH Tryd.prog Rows.fnExactOrderTextRow.laid w) false (World.laidAll Tryd.prog os Rows.fnExactOrderTextRow.laid) #[.agg #[.int .i64 0, .string ⟨#[]⟩, .int .i64 0, .int .i64 0, .int .i64 0]] 8 (World.laidAll_os _ _ _)
      (World.shaped_of_ZipB (by kernel_rfl) (by kernel_rfl)) (by kernel_rfl) (by kernel_rfl) (by kernel_rfl)
      (by rw [plain]; exact laidMet_laidAll _ (by kernel_rfl) (by kernel_rfl))) ?_
  intro W base args ds gs before hval0 hW hL hsh
  rw [plain] at hL
  have hEnv : LayF W := layF_of hL (by simp [Rows.fnExactOrderTextRow])
  have hval : ∀ (j : Nat) t v, Tryd.f3.params[j]? = some t → args[j]? = some v → Value.okWide Tryd.prog W .any base t v := hval0
  have hW' : DataW.Whole enc Tryd.prog Tryd.f3.params.toList (Rows.fnExactOrderTextSpec).vars false W args.toList ds gs before := hW
  obtain ⟨p, q, hA0, hV, _, hfz, hnd⟩ := hW
  have hA : DataW.TrodAll enc Tryd.prog W 0 (fun _ => true) true Tryd.f3.params.toList args.toList ds p := hA0
  rw [Tryd.params3] at hA hval
  obtain ⟨v0, vs0, d0, ds0, p0, q0, ha0, hd0, hp0, h0, rr0⟩ := trodAll_cons hA
  subst hd0 hp0
  obtain ⟨e1, e2, e3⟩ := trodAll_nil rr0
  subst e1 e2 e3
  obtain rfl : args = #[v0] := by cases args; simp_all
  obtain ⟨rfl, rfl⟩ := trodVars_none hV
  obtain ⟨o0, hR0, hl0⟩ := open_OD (hval 0 23 v0 rfl rfl) h0
  clear hA0 hval0
  refine (law_FnExactOrderText v0 o0 W hEnv hR0 hl0).mono fun e W' ⟨he, hb⟩ => ?_
  subst he
  exact ⟨_, rfl, law_post rd_FnExactOrderText rfl rfl hW' rfl hb⟩

theorem bare_FnExactOrderText : Rows.FnExactOrderTextSaid :=
  OpenClaim.holds_of_wide 3 Tryd.f3 rfl rfl rfl rfl rfl rfl rfl ⟨rfl, rfl, rfl, rfl, rfl⟩ rfl rfl rfl rfl rfl (by kernel_rfl) Tryd.func3 (by kernel_rfl)
    (of_decide_eq_true (by kernel_rfl)) (by unfold Func.isWrapper; first | (rw [if_pos (by decide +kernel)]; kernel_rfl) | (rw [if_neg (by decide +kernel)]; exact ⟨rfl, rfl⟩))
    (fun os started H enc _ => lifted_FnExactOrderText os started H enc)

theorem wants_FnExactOrderText : Tryd.f3.params.toList.all (fun u => !Tryd.prog.wantsStandIn u) = true := by kernel_rfl
theorem named_FnExactOrderText : Tryd.prog.funcNamed "loop.example/g01042/laws.FnExactOrderText" = some 3 := by kernel_rfl
theorem holds_FnExactOrderText : Rows.FnExactOrderTextCardSaid :=
  Claim7.holds_tied_plain_at .later [] Rows.fnExactOrderTextCard.laidKinds true Rows.fnExactOrderTextCard.stood.harness Rows.fnExactOrderTextCard.stood.looks
    bare_FnExactOrderText (fun _ h => by cases h) (by kernel_rfl) (fun _ h => by cases h) fnExactOrderText_row_tie rfl ⟨rfl, rfl⟩ (by kernel_rfl) rfl
    (fun f fn hf hfn => by
      obtain rfl : f = 3 := (Option.some.inj (named_FnExactOrderText.symm.trans hf)).symm
      obtain rfl : fn = Tryd.f3 := (Option.some.inj (Tryd.func3.symm.trans hfn)).symm
      exact ⟨by kernel_rfl, fun j t ht => by
        have hm : t ∈ Tryd.f3.params.toList := by simpa using Array.mem_of_getElem? ht
        exact (show Tryd.prog.wantsStandIn t = false by simpa using List.all_eq_true.1 wants_FnExactOrderText t hm)⟩)
    (by kernel_rfl)


end Go.Proofs.YtpfbdafnieljiaaDoor
