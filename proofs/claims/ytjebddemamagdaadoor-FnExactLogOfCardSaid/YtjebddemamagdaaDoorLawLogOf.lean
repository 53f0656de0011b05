/-
  The law FnExactLogOf: the program answers as the reference, for all arguments; no condition. The walk and the row; printed by genlaw.py and genrow.py.
-/
import Derived.Test.YtjebddemamagdaaDoorLog16
import Derived.Test.YtjebddemamagdaaDoorEntM
import Derived.Test.YtjebddemamagdaaDoorDoor
import Derived.ChangeMaps5
import Derived.Deep.RegionHeld3
import Derived.Deep.DrawnRows
namespace Go.Proofs.YtjebddemamagdaaDoor
open Go.ChangeShapes Go.WideShapes Go.ChangeAt Go.RowKit Go.Sort
set_option linter.unusedVariables false
attribute [local go_sem ↓] Go.wp_at_zero Go.wp_at_succ

set_option maxHeartbeats 2000000 in
set_option maxRecDepth 100000 in
theorem law_FnExactLogOf (vList : Value) (lList : List EN) (w : World) (hEnv : LayF w) (hRList : RENS w vList lList) (hlList : LenENS lList) :
    Calls Tryd.prog 4 #[vList] w (Ret (.bool true) w) := by
  have HEV : Hid (∀ W', Below w.heap.size w W' → LayF W') := Lib.hid fun W' h => hEnv.ext h; clear hEnv
  obtain ⟨AList, cList, hvList⟩ : ∃ A c, vList = .slice A lList.length c := by obtain ⟨A, c, h, _⟩ := hRList.open_; exact ⟨A, c, h⟩
  subst hvList
  have HRList : Hid (∀ W', Below w.heap.size w W' → RENS W' (.slice AList lList.length cList) lList) := Lib.hid fun W' h => hRList.ext h; clear hRList
  have HlList := Lib.hid hlList; clear hlList
  have HW : Hid (Below w.heap.size w w) := Lib.hid (ext_refl w)
  go_enter Tryd.func4, Tryd.ntmps4
  have hp0 : (0 : Int) ≤ 1048576 := by omega
  have hq0 : (1048576 : Int) ≤ 1048576 := by omega
  go_wp2_with fail
  refine (sz_ENS _ lList 1048576 hp0 hq0 _ HlList.out (HRList.out _ (ext_trans HW.out (ext_refl _)))).mono ?_
  rintro e w1 ⟨rfl, hbw1⟩
  have hcw1 : Below w.heap.size w w1 := ext_trans (ext_refl _) hbw1
  have HW_ : Hid (Below w.heap.size w w1) := Lib.hid (ext_trans HW.out hcw1)
  have zw1 := hcw1.size
  clear HW; have HW := HW_; clear HW_
  clear hbw1 hcw1
  obtain ⟨hqw1, hrw1⟩ := szENS_le lList hq0
  go_wp2_with fail
  · go_ret
    exact ⟨rfl, ext_trans HW.out (ext_refl _)⟩
  have hpw1 : 0 ≤ szENS lList 1048576 := by assumption
  obtain ⟨huList, hsmList⟩ := ok_ENS hq0 hpw1
  have SmList := Lib.hid hsmList; clear hsmList
  go_wp2_with fail
  refine (to_ENS _ lList _ (HRList.out _ (ext_trans HW.out (ext_refl _))) SmList.out).mono ?_
  rintro e w2 ⟨Aw2, cw2, rfl, hOw2, hbw2⟩
  go_wp2_with fail
  refine (spec_LogOf _ lList _ hOw2.rd SmList.out (HEV.out _ (ext_trans HW.out (ext_trans (ext_refl _) hbw2)))).mono ?_
  rintro e w3 ⟨rfl, hbw3⟩
  have hcw3 : Below w1.heap.size w1 w3 := (ext_trans (ext_trans (ext_refl _) hbw2) hbw3)
  have HW_ : Hid (Below w.heap.size w w3) := Lib.hid (ext_trans HW.out hcw3)
  have zw3 := hcw3.size
  clear HW; have HW := HW_; clear HW_
  clear hcw3 hbw2 hbw3
  clear hOw2
  go_wp2_with fail
  refine (to_ENS _ lList _ (HRList.out _ (ext_trans HW.out (ext_refl _))) SmList.out).mono ?_
  rintro e w4 ⟨Aw4, cw4, rfl, hOw4, hbw4⟩
  have hOO : OENS w4 (w3.heap.size) (.slice Aw4 lList.length cw4) lList := hOw4
  have hcw4 : Below w3.heap.size w3 w4 := ext_trans (ext_refl _) hbw4
  have HW_ : Hid (Below w.heap.size w w4) := Lib.hid (ext_trans HW.out hcw4)
  have zw4 := hcw4.size
  clear HW; have HW := HW_; clear HW_
  clear hbw4 hcw4
  have HB_x0 : Hid (∀ k, BENS (.slice Aw4 lList.length cw4) k → w3.heap.size ≤ k ∧ k < w4.heap.size) := Lib.hid hOO.ge
  have HO_x0 := Lib.hid hOO; clear hOO
  go_wp2_with fail
  refine (impl_LogOf _ lList _ ((HO_x0.out.ext (ext_refl _)).rd) SmList.out (HEV.out _ (ext_trans HW.out (ext_refl _)))).mono ?_
  rintro e w5 ⟨rfl, hbw5⟩
  have hcw5 : Below w4.heap.size w4 w5 := (ext_trans (ext_refl _) hbw5)
  have HW_ : Hid (Below w.heap.size w w5) := Lib.hid (ext_trans HW.out hcw5)
  have zw5 := hcw5.size
  have HO_x0_ := Lib.hid (HO_x0.out.ext hcw5); clear HO_x0; have HO_x0 := HO_x0_; clear HO_x0_
  clear HW; have HW := HW_; clear HW_
  clear hcw5 hbw5
  go_wp2_with fail
  refine (to_ENS _ lList _ (HRList.out _ (ext_trans HW.out (ext_refl _))) SmList.out).mono ?_
  rintro e w6 ⟨Aw6, cw6, rfl, hOw6, hbw6⟩
  go_wp2_with fail
  refine (eq_ENS _ _ lList _ ((HO_x0.out.ext (ext_trans (ext_refl _) hbw6)).rd) hOw6.rd).mono ?_
  rintro e w7 ⟨rfl, hbw7⟩
  have hcw7 : Below w5.heap.size w5 w7 := (ext_trans (ext_trans (ext_refl _) hbw6) hbw7)
  have HW_ : Hid (Below w.heap.size w w7) := Lib.hid (ext_trans HW.out hcw7)
  have zw7 := hcw7.size
  have HO_x0_ := Lib.hid (HO_x0.out.ext hcw7); clear HO_x0; have HO_x0 := HO_x0_; clear HO_x0_
  clear HW; have HW := HW_; clear HW_
  clear hcw7 hbw6 hbw7
  clear hOw6
  go_wp2_with fail
  go_ret
  exact ⟨rfl, ext_trans HW.out (ext_refl _)⟩

theorem rd_FnExactLogOf : ∀ t ∈ Tryd.f4.params.toList, Tryd.prog.readableRec t = true ∧ t < Tryd.prog.types.size := by
  have h : Tryd.f4.params.toList.all (fun t => Tryd.prog.readableRec t && decide (t < Tryd.prog.types.size)) = true := by kernel_rfl
  intro t ht
  have := List.all_eq_true.1 h t ht
  simpa using this

set_option maxRecDepth 100000 in
theorem lifted_FnExactLogOf (os : Os) (started : os.Started) (H : Type) (enc : TypeId × Value → H) :
    ReturnsInHanded {} Tryd.checked os 4 .any (fun w args => (Rows.fnExactLogOfSpec.pre enc Tryd.prog Tryd.f4 [] false w args ∧ laidMetH Tryd.prog Rows.fnExactLogOfRow.laid w) ∧ sizedMet enc Tryd.prog Tryd.f4 (OpenSpec.ofChange Rows.fnExactLogOfSpec) false w args)
      (Rows.fnExactLogOfSpec.post enc Tryd.prog Tryd.f4 false true false false) := by
  have plain : ∀ w, laidMetH Tryd.prog Rows.fnExactLogOfRow.laid w = laidMet Tryd.prog Rows.fnExactLogOfRow.laid w := fun w => MakeChecks.laidMetH_plain _ _ _ (by kernel_rfl)
  refine returns_door (C := Tryd.checked) (X := fun w _ => laidMetH Tryd.prog Rows.fnExactLogOfRow.laid w) (fun _ _ _ hh h => h.of_heap hh) own_knob started (by kernel_rfl) Tryd.func4
    (ChangeSpec.witness_shaped (enc := enc) (C := Tryd.checked) (os := os) (X := fun w _ => laidMetH Tryd.prog Rows.fnExactLogOfRow.laid w) false (World.laidAll Tryd.prog os Rows.fnExactLogOfRow.laid) #[.slice none 0 0] 8 (World.laidAll_os _ _ _)
      (World.shaped_of_ZipB (by kernel_rfl) (by kernel_rfl)) (by kernel_rfl) (by kernel_rfl) (by kernel_rfl)
      (by rw [plain]; exact laidMet_laidAll _ (by kernel_rfl) (by kernel_rfl))) ?_
  intro W base args ds gs before hval0 hW hL hsh
  rw [plain] at hL
  have hEnv : LayF W := layF_of hL (by simp [Rows.fnExactLogOfRow])
  have hval : ∀ (j : Nat) t v, Tryd.f4.params[j]? = some t → args[j]? = some v → Value.okWide Tryd.prog W .any base t v := hval0
  have hW' : DataW.Whole enc Tryd.prog Tryd.f4.params.toList (Rows.fnExactLogOfSpec).vars false W args.toList ds gs before := hW
  obtain ⟨p, q, hA0, hV, _, hfz, hnd⟩ := hW
  have hA : DataW.TrodAll enc Tryd.prog W 0 (fun _ => true) true Tryd.f4.params.toList args.toList ds p := hA0
  rw [Tryd.params4] at hA hval
  obtain ⟨v0, vs0, d0, ds0, p0, q0, ha0, hd0, hp0, h0, rr0⟩ := trodAll_cons hA
  subst hd0 hp0
  obtain ⟨e1, e2, e3⟩ := trodAll_nil rr0
  subst e1 e2 e3
  obtain rfl : args = #[v0] := by cases args; simp_all
  obtain ⟨rfl, rfl⟩ := trodVars_none hV
  obtain ⟨l0, hR0, hl0⟩ := open_ENS (hval 0 30 v0 rfl rfl) h0
  clear hA0 hval0
  refine (law_FnExactLogOf v0 l0 W hEnv hR0 hl0).mono fun e W' ⟨he, hb⟩ => ?_
  subst he
  exact ⟨_, rfl, law_post rd_FnExactLogOf rfl rfl hW' rfl hb⟩

theorem bare_FnExactLogOf : Rows.FnExactLogOfSaid :=
  OpenClaim.holds_of_wide 4 Tryd.f4 rfl rfl rfl rfl rfl rfl rfl ⟨rfl, rfl, rfl, rfl, rfl⟩ rfl rfl rfl rfl rfl (by kernel_rfl) Tryd.func4 (by kernel_rfl)
    (of_decide_eq_true (by kernel_rfl)) (by unfold Func.isWrapper; first | (rw [if_pos (by decide +kernel)]; kernel_rfl) | (rw [if_neg (by decide +kernel)]; exact ⟨rfl, rfl⟩))
    (fun os started H enc _ => lifted_FnExactLogOf os started H enc)

theorem wants_FnExactLogOf : Tryd.f4.params.toList.all (fun u => !Tryd.prog.wantsStandIn u) = true := by kernel_rfl
theorem named_FnExactLogOf : Tryd.prog.funcNamed "loop.example/g01042/laws.FnExactLogOf" = some 4 := by kernel_rfl
theorem holds_FnExactLogOf : Rows.FnExactLogOfCardSaid :=
  Claim7.holds_tied_plain_at .later [] Rows.fnExactLogOfCard.laidKinds true Rows.fnExactLogOfCard.stood.harness Rows.fnExactLogOfCard.stood.looks
    bare_FnExactLogOf (fun _ h => by cases h) (by kernel_rfl) (fun _ h => by cases h) fnExactLogOf_row_tie rfl ⟨rfl, rfl⟩ (by kernel_rfl) rfl
    (fun f fn hf hfn => by
      obtain rfl : f = 4 := (Option.some.inj (named_FnExactLogOf.symm.trans hf)).symm
      obtain rfl : fn = Tryd.f4 := (Option.some.inj (Tryd.func4.symm.trans hfn)).symm
      exact ⟨by kernel_rfl, fun j t ht => by
        have hm : t ∈ Tryd.f4.params.toList := by simpa using Array.mem_of_getElem? ht
        exact (show Tryd.prog.wantsStandIn t = false by simpa using List.all_eq_true.1 wants_FnExactLogOf t hm)⟩)
    (by kernel_rfl)


end Go.Proofs.YtjebddemamagdaaDoor
