/-
  The law FnExactSumOfWhat: the program answers as the reference, for all arguments; no condition. The walk and the row; printed by genlaw.py and genrow.py.
-/
import Derived.Test.YtjebddemamagdaaDoorLog12
import Derived.Test.YtjebddemamagdaaDoorDoor
import Derived.ChangeMaps5
import Derived.Deep.RegionHeld3
import Derived.Deep.DrawnRows
namespace Go.Proofs.YtjebddemamagdaaDoor
open Go.ChangeShapes Go.WideShapes Go.ChangeAt Go.RowKit Go.Sort
set_option linter.unusedVariables false
attribute [local go_sem ↓] Go.wp_at_zero Go.wp_at_succ

set_option maxHeartbeats 2000000 in
set_option maxRecDepth 100000 in
theorem law_FnExactSumOfWhat (sLog : ByteArray) (sWhat : ByteArray) (iFrom : Int) (iTo : Int) (w : World) (hEnv : Env w) (hsLog : sLog.size ≤ maxLen) (hsWhat : sWhat.size ≤ maxLen) :
    Calls Tryd.prog 7 #[.string sLog, .string sWhat, .int .i64 iFrom, .int .i64 iTo] w (Ret (.bool true) w) := by
  have HEV : Hid (∀ W', Below w.heap.size w W' → Env W') := Lib.hid fun W' h => hEnv.ext h; clear hEnv
  have HSLog := Lib.hid hsLog; unfold maxLen at hsLog
  have HSWhat := Lib.hid hsWhat; unfold maxLen at hsWhat
  have HW : Hid (Below w.heap.size w w) := Lib.hid (ext_refl w)
  go_enter Tryd.func7, Tryd.ntmps7
  go_wp2_with fail
  · go_ret
    exact ⟨rfl, ext_trans HW.out (ext_refl _)⟩
  have hlenLog : (sLog.size : Int) ≤ 1048576 := by first | assumption | omega
  clear HSLog; have HSLog : Hid (sLog.size ≤ 1048576) := Lib.hid (by omega)
  go_wp2_with fail
  · go_ret
    exact ⟨rfl, ext_trans HW.out (ext_refl _)⟩
  have hlenLog : (sLog.size : Int) ≤ 1048576 := by first | assumption | omega
  clear HSLog; have HSLog : Hid (sLog.size ≤ 1048576) := Lib.hid (by omega)
  have hlenWhat : (sWhat.size : Int) ≤ 1048576 := by first | assumption | omega
  clear HSWhat; have HSWhat : Hid (sWhat.size ≤ 1048576) := Lib.hid (by omega)
  go_wp2_with fail
  refine (spec_SumOfWhat sLog sWhat iFrom iTo _ HSLog.out HSWhat.out (HEV.out _ (ext_trans HW.out (ext_refl _)))).mono ?_
  rintro e w1 ⟨rfl, hbw1⟩
  have hcw1 : Below w.heap.size w w1 := (ext_trans (ext_refl _) hbw1)
  have HW_ : Hid (Below w.heap.size w w1) := Lib.hid (ext_trans HW.out hcw1)
  have zw1 := hcw1.size
  clear HW; have HW := HW_; clear HW_
  clear hcw1 hbw1
  go_wp2_with fail
  refine (impl_SumOfWhat sLog sWhat iFrom iTo _ HSLog.out HSWhat.out (HEV.out _ (ext_trans HW.out (ext_refl _)))).mono ?_
  rintro e w2 ⟨rfl, hbw2⟩
  have hcw2 : Below w1.heap.size w1 w2 := (ext_trans (ext_refl _) hbw2)
  have HW_ : Hid (Below w.heap.size w w2) := Lib.hid (ext_trans HW.out hcw2)
  have zw2 := hcw2.size
  clear HW; have HW := HW_; clear HW_
  clear hcw2 hbw2
  go_wp2_with fail
  go_ret
  exact ⟨rfl, ext_trans HW.out (ext_refl _)⟩

theorem rd_FnExactSumOfWhat : ∀ t ∈ Tryd.f7.params.toList, Tryd.prog.readableRec t = true ∧ t < Tryd.prog.types.size := by
  have h : Tryd.f7.params.toList.all (fun t => Tryd.prog.readableRec t && decide (t < Tryd.prog.types.size)) = true := by kernel_rfl
  intro t ht
  have := List.all_eq_true.1 h t ht
  simpa using this

set_option maxRecDepth 100000 in
theorem lifted_FnExactSumOfWhat (os : Os) (started : os.Started) (H : Type) (enc : TypeId × Value → H) :
    ReturnsInHanded {} Tryd.checked os 7 .any (fun w args => (Rows.fnExactSumOfWhatSpec.pre enc Tryd.prog Tryd.f7 [] false w args ∧ laidMetH Tryd.prog Rows.fnExactSumOfWhatRow.laid w) ∧ sizedMet enc Tryd.prog Tryd.f7 (OpenSpec.ofChange Rows.fnExactSumOfWhatSpec) false w args)
      (Rows.fnExactSumOfWhatSpec.post enc Tryd.prog Tryd.f7 false true false false) := by
  have plain : ∀ w, laidMetH Tryd.prog Rows.fnExactSumOfWhatRow.laid w = laidMet Tryd.prog Rows.fnExactSumOfWhatRow.laid w := fun w => MakeChecks.laidMetH_plain _ _ _ (by kernel_rfl)
  refine returns_door (C := Tryd.checked) (X := fun w _ => laidMetH Tryd.prog Rows.fnExactSumOfWhatRow.laid w) (fun _ _ _ hh h => h.of_heap hh) own_knob started (by kernel_rfl) Tryd.func7
    (ChangeSpec.witness_shaped (enc := enc) (C := Tryd.checked) (os := os) (X := fun w _ => laidMetH Tryd.prog Rows.fnExactSumOfWhatRow.laid w) false (World.laidAll Tryd.prog os Rows.fnExactSumOfWhatRow.laid) #[.string ⟨#[]⟩, .string ⟨#[]⟩, .int .i64 0, .int .i64 0] 8 (World.laidAll_os _ _ _)
      (World.shaped_of_ZipB (by kernel_rfl) (by kernel_rfl)) (by kernel_rfl) (by kernel_rfl) (by kernel_rfl)
      (by rw [plain]; exact laidMet_laidAll _ (by kernel_rfl) (by kernel_rfl))) ?_
  intro W base args ds gs before hval0 hW hL hsh
  rw [plain] at hL
  have hEnv : Env W := env_of hL hsh (by simp [Rows.fnExactSumOfWhatRow]) (by simp [Rows.fnExactSumOfWhatRow, Rows.laid_strconv_ErrSyntax]) (by simp [Rows.fnExactSumOfWhatRow, Rows.laid_strconv_ErrRange])
  have hval : ∀ (j : Nat) t v, Tryd.f7.params[j]? = some t → args[j]? = some v → Value.okWide Tryd.prog W .any base t v := hval0
  have hW' : DataW.Whole enc Tryd.prog Tryd.f7.params.toList (Rows.fnExactSumOfWhatSpec).vars false W args.toList ds gs before := hW
  obtain ⟨p, q, hA0, hV, _, hfz, hnd⟩ := hW
  have hA : DataW.TrodAll enc Tryd.prog W 0 (fun _ => true) true Tryd.f7.params.toList args.toList ds p := hA0
  rw [Tryd.params7] at hA hval
  obtain ⟨v0, vs0, d0, ds0, p0, q0, ha0, hd0, hp0, h0, rr0⟩ := trodAll_cons hA
  subst hd0 hp0
  obtain ⟨v1, vs1, d1, ds1, p1, q1, ha1, hd1, hp1, h1, rr1⟩ := trodAll_cons rr0
  subst ha1 hd1 hp1
  obtain ⟨v2, vs2, d2, ds2, p2, q2, ha2, hd2, hp2, h2, rr2⟩ := trodAll_cons rr1
  subst ha2 hd2 hp2
  obtain ⟨v3, vs3, d3, ds3, p3, q3, ha3, hd3, hp3, h3, rr3⟩ := trodAll_cons rr2
  subst ha3 hd3 hp3
  obtain ⟨e1, e2, e3⟩ := trodAll_nil rr3
  subst e1 e2 e3
  obtain rfl : args = #[v0, v1, v2, v3] := by cases args; simp_all
  obtain ⟨rfl, rfl⟩ := trodVars_none hV
  obtain ⟨s0, rfl, rfl, rfl, ws0⟩ := Go.ChangeMaps.open_string Tryd.underlying9 (hval 0 9 v0 rfl rfl) h0
  obtain ⟨s1, rfl, rfl, rfl, ws1⟩ := Go.ChangeMaps.open_string Tryd.underlying9 (hval 1 9 v1 rfl rfl) h1
  obtain ⟨i2, rfl, rfl, rfl, wf2⟩ := open_int Tryd.underlying2 (hval 2 2 v2 rfl rfl) h2
  obtain ⟨i3, rfl, rfl, rfl, wf3⟩ := open_int Tryd.underlying2 (hval 3 2 v3 rfl rfl) h3
  clear hA0 hval0
  refine (law_FnExactSumOfWhat s0 s1 i2 i3 W hEnv ws0 ws1).mono fun e W' ⟨he, hb⟩ => ?_
  subst he
  exact ⟨_, rfl, law_post rd_FnExactSumOfWhat rfl rfl hW' rfl hb⟩

theorem bare_FnExactSumOfWhat : Rows.FnExactSumOfWhatSaid :=
  OpenClaim.holds_of_wide 7 Tryd.f7 rfl rfl rfl rfl rfl rfl rfl ⟨rfl, rfl, rfl, rfl, rfl⟩ rfl rfl rfl rfl rfl (by kernel_rfl) Tryd.func7 (by kernel_rfl)
    (of_decide_eq_true (by kernel_rfl)) (by unfold Func.isWrapper; first | (rw [if_pos (by decide +kernel)]; kernel_rfl) | (rw [if_neg (by decide +kernel)]; exact ⟨rfl, rfl⟩))
    (fun os started H enc _ => lifted_FnExactSumOfWhat os started H enc)

theorem wants_FnExactSumOfWhat : Tryd.f7.params.toList.all (fun u => !Tryd.prog.wantsStandIn u) = true := by kernel_rfl
theorem named_FnExactSumOfWhat : Tryd.prog.funcNamed "loop.example/g01042/laws.FnExactSumOfWhat" = some 7 := by kernel_rfl
theorem holds_FnExactSumOfWhat : Rows.FnExactSumOfWhatCardSaid :=
  Claim7.holds_tied_plain_at .later [] Rows.fnExactSumOfWhatCard.laidKinds true Rows.fnExactSumOfWhatCard.stood.harness Rows.fnExactSumOfWhatCard.stood.looks
    bare_FnExactSumOfWhat (fun _ h => by cases h) (by kernel_rfl) (fun _ h => by cases h) fnExactSumOfWhat_row_tie rfl ⟨rfl, rfl⟩ (by kernel_rfl) rfl
    (fun f fn hf hfn => by
      obtain rfl : f = 7 := (Option.some.inj (named_FnExactSumOfWhat.symm.trans hf)).symm
      obtain rfl : fn = Tryd.f7 := (Option.some.inj (Tryd.func7.symm.trans hfn)).symm
      exact ⟨by kernel_rfl, fun j t ht => by
        have hm : t ∈ Tryd.f7.params.toList := by simpa using Array.mem_of_getElem? ht
        exact (show Tryd.prog.wantsStandIn t = false by simpa using List.all_eq_true.1 wants_FnExactSumOfWhat t hm)⟩)
    (by kernel_rfl)


end Go.Proofs.YtjebddemamagdaaDoor
