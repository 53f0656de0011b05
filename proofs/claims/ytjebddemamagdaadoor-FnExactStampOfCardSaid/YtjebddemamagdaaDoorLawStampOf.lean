/-
  The law FnExactStampOf: the program answers as the reference, for all arguments; no condition. The walk and the row; printed by genlaw.py and genrow.py.
-/
import Derived.Test.YtjebddemamagdaaDoorLog3
import Derived.Test.YtjebddemamagdaaDoorEnt
import Derived.Test.YtjebddemamagdaaDoorDoor
import Derived.ChangeMaps5
import Derived.Deep.RegionHeld3
import Derived.Deep.DrawnRows
namespace Go.Proofs.YtjebddemamagdaaDoor
open Go.ChangeShapes Go.WideShapes Go.ChangeAt Go.RowKit Go.Sort
set_option linter.unusedVariables false
attribute [local go_sem ↓] Go.wp_at_zero Go.wp_at_succ

set_option maxHeartbeats 2000000 in
set_option maxRecDepth 100000 in
theorem law_FnExactStampOf (iBefore : Int) (vE : Value) (oE : EN) (w : World) (hEnv : LayF w) (hRE : REN w vE oE) (hlE : LenEN oE) :
    Calls Tryd.prog 3 #[.int .i64 iBefore, vE] w (Ret (.bool true) w) := by
  have HEV : Hid (∀ W', Below w.heap.size w W' → LayF W') := Lib.hid fun W' h => hEnv.ext h; clear hEnv
  obtain rfl : vE = _ := hRE
  have HRE : Hid (∀ W', Below w.heap.size w W' → REN W' (.agg #[.int .i64 oE.day, .string oE.what, .int .i64 oE.val]) oE) := Lib.hid fun W' h => REN.ext (show REN w (.agg #[.int .i64 oE.day, .string oE.what, .int .i64 oE.val]) oE from rfl) h
  have HlE := Lib.hid hlE; clear hlE
  have HW : Hid (Below w.heap.size w w) := Lib.hid (ext_refl w)
  go_enter Tryd.func3, Tryd.ntmps3
  have hp0 : (0 : Int) ≤ 1048576 := by omega
  have hq0 : (1048576 : Int) ≤ 1048576 := by omega
  go_wp2_with fail
  refine (sz_EN _ oE 1048576 hp0 hq0 _ HlE.out (HRE.out _ (ext_trans HW.out (ext_alloc (ext_refl _) _)))).mono ?_
  rintro e w1 ⟨rfl, hbw1⟩
  have hcw1 : Below w.heap.size w w1 := ext_trans (ext_alloc (ext_refl _) _) hbw1
  have HW_ : Hid (Below w.heap.size w w1) := Lib.hid (ext_trans HW.out hcw1)
  have zw1 := hcw1.size
  clear HW; have HW := HW_; clear HW_
  have yw1 := Below.size hbw1
  simp only [World.size_alloc] at yw1
  have k_aE_0 : ∀ W', Below w1.heap.size w1 W' → W'.cell? ⟨w.heap.size, 0, none⟩ = some (.int .i64 oE.day) := fun W' h => cell_keep (cell_keep (p := ⟨w.heap.size, 0, none⟩) (v := .int .i64 oE.day) (by simp [go_sem]) hbw1) h
  have k_aE_1 : ∀ W', Below w1.heap.size w1 W' → W'.cell? ⟨w.heap.size, 1, none⟩ = some (.string oE.what) := fun W' h => cell_keep (cell_keep (p := ⟨w.heap.size, 1, none⟩) (v := .string oE.what) (by simp [go_sem]) hbw1) h
  have k_aE_2 : ∀ W', Below w1.heap.size w1 W' → W'.cell? ⟨w.heap.size, 2, none⟩ = some (.int .i64 oE.val) := fun W' h => cell_keep (cell_keep (p := ⟨w.heap.size, 2, none⟩) (v := .int .i64 oE.val) (by simp [go_sem]) hbw1) h
  have hL : Below w1.heap.size w1 w1 := ext_refl _
  have haL : ∀ o, Below w1.heap.size w1 (w1.alloc o) := fun o => ext_alloc hL o
  clear hbw1 hcw1
  obtain ⟨hqw1, hrw1⟩ := szEN_le oE hq0
  go_wp2_with fail
  · go_ret
    exact ⟨rfl, ext_trans HW.out (ext_refl _)⟩
  have hpw1 : 0 ≤ szEN oE 1048576 := by assumption
  obtain ⟨huE, hsmE⟩ := ok_EN hq0 hpw1
  have SmE := Lib.hid hsmE; clear hsmE
  go_wp2_with fail
  refine (to_ENv _ oE _ (HRE.out _ (ext_trans HW.out (ext_refl _))) SmE.out).mono ?_
  rintro e w2 ⟨vw2, rfl, hOw2, hbw2⟩
  go_wp2_with fail
  refine (spec_StampOf iBefore _ oE _ hOw2.rd SmE.out (HEV.out _ (ext_trans HW.out (ext_trans (ext_refl _) hbw2)))).mono ?_
  rintro e w3 ⟨rfl, hbw3⟩
  have hcw3 : Below w1.heap.size w1 w3 := (ext_trans (ext_trans (ext_refl _) hbw2) hbw3)
  have HW_ : Hid (Below w.heap.size w w3) := Lib.hid (ext_trans HW.out hcw3)
  have zw3 := hcw3.size
  clear HW; have HW := HW_; clear HW_
  replace hL : Below w1.heap.size w1 w3 := ext_trans hL hcw3
  clear haL
  have haL : ∀ o, Below w1.heap.size w1 (w3.alloc o) := fun o => ext_alloc hL o
  clear hcw3 hbw2 hbw3
  clear hOw2
  go_wp2_with fail
  refine (to_ENv _ oE _ (HRE.out _ (ext_trans HW.out (ext_refl _))) SmE.out).mono ?_
  rintro e w4 ⟨vw4, rfl, hOw4, hbw4⟩
  go_wp2_with fail
  refine (impl_StampOf iBefore _ oE _ hOw4.rd SmE.out (HEV.out _ (ext_trans HW.out (ext_trans (ext_refl _) hbw4)))).mono ?_
  rintro e w5 ⟨rfl, hbw5⟩
  have hcw5 : Below w3.heap.size w3 w5 := (ext_trans (ext_trans (ext_refl _) hbw4) hbw5)
  have HW_ : Hid (Below w.heap.size w w5) := Lib.hid (ext_trans HW.out hcw5)
  have zw5 := hcw5.size
  clear HW; have HW := HW_; clear HW_
  replace hL : Below w1.heap.size w1 w5 := ext_trans hL hcw5
  clear haL
  have haL : ∀ o, Below w1.heap.size w1 (w5.alloc o) := fun o => ext_alloc hL o
  clear hcw5 hbw4 hbw5
  clear hOw4
  go_wp2_with fail
  go_ret
  exact ⟨rfl, ext_trans HW.out (ext_refl _)⟩

theorem rd_FnExactStampOf : ∀ t ∈ Tryd.f3.params.toList, Tryd.prog.readableRec t = true ∧ t < Tryd.prog.types.size := by
  have h : Tryd.f3.params.toList.all (fun t => Tryd.prog.readableRec t && decide (t < Tryd.prog.types.size)) = true := by kernel_rfl
  intro t ht
  have := List.all_eq_true.1 h t ht
  simpa using this

set_option maxRecDepth 100000 in
theorem lifted_FnExactStampOf (os : Os) (started : os.Started) (H : Type) (enc : TypeId × Value → H) :
    ReturnsInHanded {} Tryd.checked os 3 .any (fun w args => (Rows.fnExactStampOfSpec.pre enc Tryd.prog Tryd.f3 [] false w args ∧ laidMetH Tryd.prog Rows.fnExactStampOfRow.laid w) ∧ sizedMet enc Tryd.prog Tryd.f3 (OpenSpec.ofChange Rows.fnExactStampOfSpec) false w args)
      (Rows.fnExactStampOfSpec.post enc Tryd.prog Tryd.f3 false true false false) := by
  have plain : ∀ w, laidMetH Tryd.prog Rows.fnExactStampOfRow.laid w = laidMet Tryd.prog Rows.fnExactStampOfRow.laid w := fun w => MakeChecks.laidMetH_plain _ _ _ (by kernel_rfl)
  refine returns_door (C := Tryd.checked) (X := fun w _ => laidMetH Tryd.prog Rows.fnExactStampOfRow.laid w) (fun _ _ _ hh h => h.of_heap hh) own_knob started (by kernel_rfl) Tryd.func3
    (ChangeSpec.witness_shaped (enc := enc) (C := Tryd.checked) (os := os) (X := fun w _ => laidMetH Tryd.prog Rows.fnExactStampOfRow.laid w) false (World.laidAll Tryd.prog os Rows.fnExactStampOfRow.laid) #[.int .i64 0, .agg #[.int .i64 0, .string ⟨#[]⟩, .int .i64 0]] 8 (World.laidAll_os _ _ _)
      (World.shaped_of_ZipB (by kernel_rfl) (by kernel_rfl)) (by kernel_rfl) (by kernel_rfl) (by kernel_rfl)
      (by rw [plain]; exact laidMet_laidAll _ (by kernel_rfl) (by kernel_rfl))) ?_
  intro W base args ds gs before hval0 hW hL hsh
  rw [plain] at hL
  have hEnv : LayF W := layF_of hL (by simp [Rows.fnExactStampOfRow])
  have hval : ∀ (j : Nat) t v, Tryd.f3.params[j]? = some t → args[j]? = some v → Value.okWide Tryd.prog W .any base t v := hval0
  have hW' : DataW.Whole enc Tryd.prog Tryd.f3.params.toList (Rows.fnExactStampOfSpec).vars false W args.toList ds gs before := hW
  obtain ⟨p, q, hA0, hV, _, hfz, hnd⟩ := hW
  have hA : DataW.TrodAll enc Tryd.prog W 0 (fun _ => true) true Tryd.f3.params.toList args.toList ds p := hA0
  rw [Tryd.params3] at hA hval
  obtain ⟨v0, vs0, d0, ds0, p0, q0, ha0, hd0, hp0, h0, rr0⟩ := trodAll_cons hA
  subst hd0 hp0
  obtain ⟨v1, vs1, d1, ds1, p1, q1, ha1, hd1, hp1, h1, rr1⟩ := trodAll_cons rr0
  subst ha1 hd1 hp1
  obtain ⟨e1, e2, e3⟩ := trodAll_nil rr1
  subst e1 e2 e3
  obtain rfl : args = #[v0, v1] := by cases args; simp_all
  obtain ⟨rfl, rfl⟩ := trodVars_none hV
  obtain ⟨i0, rfl, rfl, rfl, wf0⟩ := open_int Tryd.underlying2 (hval 0 2 v0 rfl rfl) h0
  obtain ⟨o1, hR1, hl1⟩ := open_EN (hval 1 23 v1 rfl rfl) h1
  clear hA0 hval0
  refine (law_FnExactStampOf i0 v1 o1 W hEnv hR1 hl1).mono fun e W' ⟨he, hb⟩ => ?_
  subst he
  exact ⟨_, rfl, law_post rd_FnExactStampOf rfl rfl hW' rfl hb⟩

theorem bare_FnExactStampOf : Rows.FnExactStampOfSaid :=
  OpenClaim.holds_of_wide 3 Tryd.f3 rfl rfl rfl rfl rfl rfl rfl ⟨rfl, rfl, rfl, rfl, rfl⟩ rfl rfl rfl rfl rfl (by kernel_rfl) Tryd.func3 (by kernel_rfl)
    (of_decide_eq_true (by kernel_rfl)) (by unfold Func.isWrapper; first | (rw [if_pos (by decide +kernel)]; kernel_rfl) | (rw [if_neg (by decide +kernel)]; exact ⟨rfl, rfl⟩))
    (fun os started H enc _ => lifted_FnExactStampOf os started H enc)

theorem wants_FnExactStampOf : Tryd.f3.params.toList.all (fun u => !Tryd.prog.wantsStandIn u) = true := by kernel_rfl
theorem named_FnExactStampOf : Tryd.prog.funcNamed "loop.example/g01042/laws.FnExactStampOf" = some 3 := by kernel_rfl
theorem holds_FnExactStampOf : Rows.FnExactStampOfCardSaid :=
  Claim7.holds_tied_plain_at .later [] Rows.fnExactStampOfCard.laidKinds true Rows.fnExactStampOfCard.stood.harness Rows.fnExactStampOfCard.stood.looks
    bare_FnExactStampOf (fun _ h => by cases h) (by kernel_rfl) (fun _ h => by cases h) fnExactStampOf_row_tie rfl ⟨rfl, rfl⟩ (by kernel_rfl) rfl
    (fun f fn hf hfn => by
      obtain rfl : f = 3 := (Option.some.inj (named_FnExactStampOf.symm.trans hf)).symm
      obtain rfl : fn = Tryd.f3 := (Option.some.inj (Tryd.func3.symm.trans hfn)).symm
      exact ⟨by kernel_rfl, fun j t ht => by
        have hm : t ∈ Tryd.f3.params.toList := by simpa using Array.mem_of_getElem? ht
        exact (show Tryd.prog.wantsStandIn t = false by simpa using List.all_eq_true.1 wants_FnExactStampOf t hm)⟩)
    (by kernel_rfl)


end Go.Proofs.YtjebddemamagdaaDoor
