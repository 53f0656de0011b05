/-
  The law FnExactRunDesk: the program answers as the reference, for all arguments; no condition. The walk and the row; printed by genlaw.py and genrow.py.
-/
import Derived.Test.YtfgopboddkhckaaGreatDoorKa21
import Derived.Test.YtfgopboddkhckaaGreatDoorKa22
import Derived.Test.YtfgopboddkhckaaGreatDoorKa23
import Derived.Test.YtfgopboddkhckaaGreatDoorKa24
import Derived.Test.YtfgopboddkhckaaGreatDoorKa25
import Derived.Test.YtfgopboddkhckaaGreatDoorKa36
import Derived.ChangeMaps5
import Derived.Deep.RegionHeld3
import Derived.Deep.DrawnRows
namespace Go.Proofs.YtfgopboddkhckaaGreatDoor
open Go.ChangeShapes Go.WideShapes Go.ChangeAt Go.RowKit Go.Sort
set_option linter.unusedVariables false
attribute [local go_sem ↓] Go.wp_at_zero Go.wp_at_succ

set_option maxHeartbeats 2000000 in
set_option maxRecDepth 100000 in
theorem law_FnExactRunDesk (sText : ByteArray) (w : World) (hEnv : EnvK w) (hsText : sText.size ≤ maxLen) :
    Calls Tryz.prog 3 #[.string sText] w (Ret (.bool true) w) := by
  have HEV : Hid (∀ W', Below w.heap.size w W' → EnvK W') := Lib.hid fun W' h => hEnv.ext h; clear hEnv
  have HSText := Lib.hid hsText; unfold maxLen at hsText
  have HW : Hid (Below w.heap.size w w) := Lib.hid (ext_refl w)
  go_enter Tryz.func3, Tryz.ntmps3
  go_wp2_with fail
  · go_ret
    exact ⟨rfl, ext_trans HW.out (ext_refl _)⟩
  have hlenText : (sText.size : Int) ≤ 1048576 := by first | assumption | omega
  clear HSText; have HSText : Hid (sText.size ≤ 1048576) := Lib.hid (by omega)
  go_wp2_with fail
  refine (spec_RunDesk sText _ HSText.out (HEV.out _ (ext_trans HW.out (ext_refl _)))).mono ?_
  rintro e w1 ⟨rfl, hbw1⟩
  have hcw1 : Below w.heap.size w w1 := (ext_trans (ext_refl _) hbw1)
  have HW_ : Hid (Below w.heap.size w w1) := Lib.hid (ext_trans HW.out hcw1)
  have zw1 := hcw1.size
  clear HW; have HW := HW_; clear HW_
  clear hcw1 hbw1
  go_wp2_with fail
  refine (impl_RunDesk sText _ HSText.out (HEV.out _ (ext_trans HW.out (ext_refl _)))).mono ?_
  rintro e w2 ⟨rfl, hbw2⟩
  have hcw2 : Below w1.heap.size w1 w2 := (ext_trans (ext_refl _) hbw2)
  have HW_ : Hid (Below w.heap.size w w2) := Lib.hid (ext_trans HW.out hcw2)
  have zw2 := hcw2.size
  clear HW; have HW := HW_; clear HW_
  clear hcw2 hbw2
  go_wp2_with fail
  go_ret
  exact ⟨rfl, ext_trans HW.out (ext_refl _)⟩

theorem rd_FnExactRunDesk : ∀ t ∈ Tryz.f3.params.toList, Tryz.prog.readableRec t = true ∧ t < Tryz.prog.types.size := by
  have h : Tryz.f3.params.toList.all (fun t => Tryz.prog.readableRec t && decide (t < Tryz.prog.types.size)) = true := by kernel_rfl
  intro t ht
  have := List.all_eq_true.1 h t ht
  simpa using this

set_option maxRecDepth 100000 in
theorem lifted_FnExactRunDesk (os : Os) (started : os.Started) (H : Type) (enc : TypeId × Value → H) :
    ReturnsInHanded {} Tryz.checked os 3 .any (fun w args => (Rows.fnExactRunDeskSpec.pre enc Tryz.prog Tryz.f3 [] false w args ∧ laidMetH Tryz.prog Rows.fnExactRunDeskRow.laid w) ∧ sizedMet enc Tryz.prog Tryz.f3 (OpenSpec.ofChange Rows.fnExactRunDeskSpec) false w args)
      (Rows.fnExactRunDeskSpec.post enc Tryz.prog Tryz.f3 false true false false) := by
  have plain : ∀ w, laidMetH Tryz.prog Rows.fnExactRunDeskRow.laid w = laidMet Tryz.prog Rows.fnExactRunDeskRow.laid w := fun w => MakeChecks.laidMetH_plain _ _ _ (by kernel_rfl)
  refine returns_door (C := Tryz.checked) (X := fun w _ => laidMetH Tryz.prog Rows.fnExactRunDeskRow.laid w) (fun _ _ _ hh h => h.of_heap hh) own_knob started (by kernel_rfl) Tryz.func3
    (ChangeSpec.witness_shaped (enc := enc) (C := Tryz.checked) (os := os) (X := fun w _ => laidMetH Tryz.prog Rows.fnExactRunDeskRow.laid w) false (World.laidAll Tryz.prog os Rows.fnExactRunDeskRow.laid) #[.string ⟨#[]⟩] 8 (World.laidAll_os _ _ _)
      (World.shaped_of_ZipB (by kernel_rfl) (by kernel_rfl)) (by kernel_rfl) (by kernel_rfl) (by kernel_rfl)
      (by rw [plain]; exact laidMet_laidAll _ (by kernel_rfl) (by kernel_rfl))) ?_
  intro W base args ds gs before hval0 hW hL hsh
  rw [plain] at hL
  have hEnv : EnvK W := ⟨env_of hL hsh (by simp [Rows.fnExactRunDeskRow]) (by simp [Rows.fnExactRunDeskRow, Rows.laid_strconv_ErrSyntax]) (by simp [Rows.fnExactRunDeskRow, Rows.laid_strconv_ErrRange]), lib_of hL (by simp [Rows.fnExactRunDeskRow]), cod_of hL (by simp [Rows.fnExactRunDeskRow])⟩
  have hval : ∀ (j : Nat) t v, Tryz.f3.params[j]? = some t → args[j]? = some v → Value.okWide Tryz.prog W .any base t v := hval0
  have hW' : DataW.Whole enc Tryz.prog Tryz.f3.params.toList (Rows.fnExactRunDeskSpec).vars false W args.toList ds gs before := hW
  obtain ⟨p, q, hA0, hV, _, hfz, hnd⟩ := hW
  have hA : DataW.TrodAll enc Tryz.prog W 0 (fun _ => true) true Tryz.f3.params.toList args.toList ds p := hA0
  rw [Tryz.params3] at hA hval
  obtain ⟨v0, vs0, d0, ds0, p0, q0, ha0, hd0, hp0, h0, rr0⟩ := trodAll_cons hA
  subst hd0 hp0
  obtain ⟨e1, e2, e3⟩ := trodAll_nil rr0
  subst e1 e2 e3
  obtain rfl : args = #[v0] := by cases args; simp_all
  obtain ⟨dg1, dg2, rfl⟩ := gs_two _ _ hV
  obtain ⟨s0, rfl, rfl, rfl, ws0⟩ := Go.ChangeMaps.open_string Tryz.underlying9 (hval 0 9 v0 rfl rfl) h0
  clear hA0 hval0
  refine (law_FnExactRunDesk s0 W hEnv ws0).mono fun e W' ⟨he, hb⟩ => ?_
  subst he
  exact ⟨_, rfl, law_postVs rd_FnExactRunDesk rfl (fun n hn => vK n (by have h := hn; simp [Rows.fnExactRunDeskSpec] at h; first | exact h | exact h.symm)) hW' rfl hb⟩

theorem bare_FnExactRunDesk : Rows.FnExactRunDeskSaid :=
  OpenClaim.holds_of_wide 3 Tryz.f3 rfl rfl rfl rfl rfl rfl rfl ⟨rfl, rfl, rfl, rfl, rfl⟩ rfl rfl rfl rfl rfl (by kernel_rfl) Tryz.func3 (by kernel_rfl)
    (of_decide_eq_true (by kernel_rfl)) (by unfold Func.isWrapper; first | (rw [if_pos (by decide +kernel)]; kernel_rfl) | (rw [if_neg (by decide +kernel)]; exact ⟨rfl, rfl⟩))
    (fun os started H enc _ => lifted_FnExactRunDesk os started H enc)

theorem wants_FnExactRunDesk : Tryz.f3.params.toList.all (fun u => !Tryz.prog.wantsStandIn u) = true := by kernel_rfl
theorem named_FnExactRunDesk : Tryz.prog.funcNamed "loop.example/g01042/laws.FnExactRunDesk" = some 3 := by kernel_rfl
theorem holds_FnExactRunDesk : Rows.FnExactRunDeskCardSaid :=
  Claim7.holds_tied_plain_at .later [] Rows.fnExactRunDeskCard.laidKinds true Rows.fnExactRunDeskCard.stood.harness Rows.fnExactRunDeskCard.stood.looks
    bare_FnExactRunDesk (fun _ h => by cases h) (by kernel_rfl) (fun _ h => by cases h) fnExactRunDesk_row_tie rfl ⟨rfl, rfl⟩ (by kernel_rfl) rfl
    (fun f fn hf hfn => by
      obtain rfl : f = 3 := (Option.some.inj (named_FnExactRunDesk.symm.trans hf)).symm
      obtain rfl : fn = Tryz.f3 := (Option.some.inj (Tryz.func3.symm.trans hfn)).symm
      exact ⟨by kernel_rfl, fun j t ht => by
        have hm : t ∈ Tryz.f3.params.toList := by simpa using Array.mem_of_getElem? ht
        exact (show Tryz.prog.wantsStandIn t = false by simpa using List.all_eq_true.1 wants_FnExactRunDesk t hm)⟩)
    (by kernel_rfl)


end Go.Proofs.YtfgopboddkhckaaGreatDoor
