/-
  The law FnExactDeskText: the program answers as the reference, for all arguments; no condition. The walk and the row; printed by genlaw.py and genrow.py.
-/
import Derived.Test.YtoefoljhgnfoiaaGreatDoorVDk
import Derived.Test.YtoefoljhgnfoiaaGreatDoorDkO
import Derived.Test.YtoefoljhgnfoiaaGreatDoorDoor
import Derived.ChangeMaps5
import Derived.Deep.RegionHeld3
import Derived.Deep.DrawnRows
namespace Go.Proofs.YtoefoljhgnfoiaaGreatDoor
open Go.ChangeShapes Go.WideShapes Go.ChangeAt Go.RowKit Go.Sort
set_option linter.unusedVariables false
attribute [local go_sem ↓] Go.wp_at_zero Go.wp_at_succ

set_option maxHeartbeats 2000000 in
set_option maxRecDepth 100000 in
theorem law_FnExactDeskText (vD : Value) (dD : DK) (w : World) (hEnv : Env w) (hRD : RDK w vD dD) (hlD : LenDK dD) :
    Calls Tryz.prog 4 #[vD] w (Ret (.bool true) w) := by
  have HEV : Hid (∀ W', Below w.heap.size w W' → Env W') := Lib.hid fun W' h => hEnv.ext h; clear hEnv
  obtain ⟨AD, cD, BD, eD, rfl, hOD⟩ := hRD
  have HRD : Hid (∀ W', Below w.heap.size w W' → RDK W' (.agg #[.int .i64 dD.f.l, .int .i64 dD.f.w, .int .i64 dD.f.h, .int .i64 dD.f.j, .string dD.nm, .slice AD dD.cs.length cD, .slice BD dD.wall.length eD, .string dD.log]) dD) := Lib.hid fun W' h => RDK.ext (show RDK w (.agg #[.int .i64 dD.f.l, .int .i64 dD.f.w, .int .i64 dD.f.h, .int .i64 dD.f.j, .string dD.nm, .slice AD dD.cs.length cD, .slice BD dD.wall.length eD, .string dD.log]) dD from ⟨_, _, _, _, rfl, hOD⟩) h
  clear hOD
  have HlD := Lib.hid hlD; clear hlD
  have HW : Hid (Below w.heap.size w w) := Lib.hid (ext_refl w)
  go_enter Tryz.func4, Tryz.ntmps4
  have hp0 : (0 : Int) ≤ 1048576 := by omega
  have hq0 : (1048576 : Int) ≤ 1048576 := by omega
  go_wp2_with fail
  refine (sz_DK _ dD 1048576 hp0 hq0 _ HlD.out (HRD.out _ (ext_trans HW.out (ext_alloc (ext_refl _) _)))).mono ?_
  rintro e w1 ⟨rfl, hbw1⟩
  have hcw1 : Below w.heap.size w w1 := ext_trans (ext_alloc (ext_refl _) _) hbw1
  have HW_ : Hid (Below w.heap.size w w1) := Lib.hid (ext_trans HW.out hcw1)
  have zw1 := hcw1.size
  clear HW; have HW := HW_; clear HW_
  have yw1 := Below.size hbw1
  simp only [World.size_alloc] at yw1
  have k_aD_0 : ∀ W', Below w1.heap.size w1 W' → W'.cell? ⟨w.heap.size, 0, none⟩ = some (.int .i64 dD.f.l) := fun W' h => cell_keep (cell_keep (p := ⟨w.heap.size, 0, none⟩) (v := .int .i64 dD.f.l) (by simp [go_sem]) hbw1) h
  have k_aD_1 : ∀ W', Below w1.heap.size w1 W' → W'.cell? ⟨w.heap.size, 1, none⟩ = some (.int .i64 dD.f.w) := fun W' h => cell_keep (cell_keep (p := ⟨w.heap.size, 1, none⟩) (v := .int .i64 dD.f.w) (by simp [go_sem]) hbw1) h
  have k_aD_2 : ∀ W', Below w1.heap.size w1 W' → W'.cell? ⟨w.heap.size, 2, none⟩ = some (.int .i64 dD.f.h) := fun W' h => cell_keep (cell_keep (p := ⟨w.heap.size, 2, none⟩) (v := .int .i64 dD.f.h) (by simp [go_sem]) hbw1) h
  have k_aD_3 : ∀ W', Below w1.heap.size w1 W' → W'.cell? ⟨w.heap.size, 3, none⟩ = some (.int .i64 dD.f.j) := fun W' h => cell_keep (cell_keep (p := ⟨w.heap.size, 3, none⟩) (v := .int .i64 dD.f.j) (by simp [go_sem]) hbw1) h
  have k_aD_4 : ∀ W', Below w1.heap.size w1 W' → W'.cell? ⟨w.heap.size, 4, none⟩ = some (.string dD.nm) := fun W' h => cell_keep (cell_keep (p := ⟨w.heap.size, 4, none⟩) (v := .string dD.nm) (by simp [go_sem]) hbw1) h
  have k_aD_5 : ∀ W', Below w1.heap.size w1 W' → W'.cell? ⟨w.heap.size, 5, none⟩ = some (.slice AD dD.cs.length cD) := fun W' h => cell_keep (cell_keep (p := ⟨w.heap.size, 5, none⟩) (v := .slice AD dD.cs.length cD) (by simp [go_sem]) hbw1) h
  have k_aD_6 : ∀ W', Below w1.heap.size w1 W' → W'.cell? ⟨w.heap.size, 6, none⟩ = some (.slice BD dD.wall.length eD) := fun W' h => cell_keep (cell_keep (p := ⟨w.heap.size, 6, none⟩) (v := .slice BD dD.wall.length eD) (by simp [go_sem]) hbw1) h
  have k_aD_7 : ∀ W', Below w1.heap.size w1 W' → W'.cell? ⟨w.heap.size, 7, none⟩ = some (.string dD.log) := fun W' h => cell_keep (cell_keep (p := ⟨w.heap.size, 7, none⟩) (v := .string dD.log) (by simp [go_sem]) hbw1) h
  have hL : Below w1.heap.size w1 w1 := ext_refl _
  have haL : ∀ o, Below w1.heap.size w1 (w1.alloc o) := fun o => ext_alloc hL o
  clear hbw1 hcw1
  obtain ⟨hqw1, hrw1⟩ := szDK_le dD hq0
  go_wp2_with fail
  · go_ret
    exact ⟨rfl, ext_trans HW.out (ext_refl _)⟩
  have hpw1 : 0 ≤ szDK dD 1048576 := by assumption
  obtain ⟨huD, hsmD⟩ := ok_DK hq0 hpw1
  have SmD := Lib.hid hsmD; clear hsmD
  go_wp2_with fail
  refine (to_DK _ dD _ (HRD.out _ (ext_trans HW.out (ext_refl _))) SmD.out).mono ?_
  rintro e w2 ⟨vw2, rfl, hOw2, hbw2⟩
  go_wp2_with fail
  refine (spec_DeskText _ dD _ hOw2.rd SmD.out (HEV.out _ (ext_trans HW.out (ext_trans (ext_refl _) hbw2)))).mono ?_
  rintro e w3 ⟨rfl, hbw3⟩
  have hcw3 : Below w1.heap.size w1 w3 := (ext_trans (ext_trans (ext_refl _) hbw2) hbw3)
  have HW_ : Hid (Below w.heap.size w w3) := Lib.hid (ext_trans HW.out hcw3)
  have zw3 := hcw3.size
  clear HW; have HW := HW_; clear HW_
  replace hL : Below w1.heap.size w1 w3 := ext_trans hL hcw3
  clear haL
  have haL : ∀ o, Below w1.heap.size w1 (w3.alloc o) := fun o => ext_alloc hL o
  clear hcw3 hbw2 hbw3
  clear hOw2
  go_wp2_with fail
  refine (to_DK _ dD _ (HRD.out _ (ext_trans HW.out (ext_refl _))) SmD.out).mono ?_
  rintro e w4 ⟨vw4, rfl, ⟨Aw4, cw4, Bw4, ew4, rfl, hOw4⟩, hbw4⟩
  have hOO : ODK w4 (w3.heap.size) (.agg #[.int .i64 dD.f.l, .int .i64 dD.f.w, .int .i64 dD.f.h, .int .i64 dD.f.j, .string dD.nm, .slice Aw4 dD.cs.length cw4, .slice Bw4 dD.wall.length ew4, .string dD.log]) dD := ⟨_, _, _, _, rfl, hOw4⟩
  have hcw4 : Below w3.heap.size w3 w4 := ext_trans (ext_refl _) hbw4
  have HW_ : Hid (Below w.heap.size w w4) := Lib.hid (ext_trans HW.out hcw4)
  have zw4 := hcw4.size
  clear HW; have HW := HW_; clear HW_
  replace hL : Below w1.heap.size w1 w4 := ext_trans hL hcw4
  clear haL
  have haL : ∀ o, Below w1.heap.size w1 (w4.alloc o) := fun o => ext_alloc hL o
  clear hbw4 hcw4
  have HB_x0 : Hid (∀ k, BDK (.agg #[.int .i64 dD.f.l, .int .i64 dD.f.w, .int .i64 dD.f.h, .int .i64 dD.f.j, .string dD.nm, .slice Aw4 dD.cs.length cw4, .slice Bw4 dD.wall.length ew4, .string dD.log]) k → w3.heap.size ≤ k ∧ k < w4.heap.size) := Lib.hid hOO.ge
  have HO_x0 := Lib.hid hOO; clear hOO
  go_wp2_with fail
  refine (impl_DeskText _ dD _ ((HO_x0.out.ext (ext_alloc (ext_refl _) _)).rd) SmD.out (HEV.out _ (ext_trans HW.out (ext_alloc (ext_refl _) _)))).mono ?_
  rintro e w5 ⟨rfl, hbw5⟩
  have hcw5 : Below w4.heap.size w4 w5 := (ext_trans (ext_alloc (ext_refl _) _) hbw5)
  have HW_ : Hid (Below w.heap.size w w5) := Lib.hid (ext_trans HW.out hcw5)
  have zw5 := hcw5.size
  have HO_x0_ := Lib.hid (HO_x0.out.ext hcw5); clear HO_x0; have HO_x0 := HO_x0_; clear HO_x0_
  clear HW; have HW := HW_; clear HW_
  have yw5 := Below.size hbw5
  simp only [World.size_alloc] at yw5
  have k_x0_0 : ∀ W', Below w5.heap.size w5 W' → W'.cell? ⟨w4.heap.size, 0, none⟩ = some (.int .i64 dD.f.l) := fun W' h => cell_keep (cell_keep (p := ⟨w4.heap.size, 0, none⟩) (v := .int .i64 dD.f.l) (by simp [go_sem]) hbw5) h
  have k_x0_1 : ∀ W', Below w5.heap.size w5 W' → W'.cell? ⟨w4.heap.size, 1, none⟩ = some (.int .i64 dD.f.w) := fun W' h => cell_keep (cell_keep (p := ⟨w4.heap.size, 1, none⟩) (v := .int .i64 dD.f.w) (by simp [go_sem]) hbw5) h
  have k_x0_2 : ∀ W', Below w5.heap.size w5 W' → W'.cell? ⟨w4.heap.size, 2, none⟩ = some (.int .i64 dD.f.h) := fun W' h => cell_keep (cell_keep (p := ⟨w4.heap.size, 2, none⟩) (v := .int .i64 dD.f.h) (by simp [go_sem]) hbw5) h
  have k_x0_3 : ∀ W', Below w5.heap.size w5 W' → W'.cell? ⟨w4.heap.size, 3, none⟩ = some (.int .i64 dD.f.j) := fun W' h => cell_keep (cell_keep (p := ⟨w4.heap.size, 3, none⟩) (v := .int .i64 dD.f.j) (by simp [go_sem]) hbw5) h
  have k_x0_4 : ∀ W', Below w5.heap.size w5 W' → W'.cell? ⟨w4.heap.size, 4, none⟩ = some (.string dD.nm) := fun W' h => cell_keep (cell_keep (p := ⟨w4.heap.size, 4, none⟩) (v := .string dD.nm) (by simp [go_sem]) hbw5) h
  have k_x0_5 : ∀ W', Below w5.heap.size w5 W' → W'.cell? ⟨w4.heap.size, 5, none⟩ = some (.slice Aw4 dD.cs.length cw4) := fun W' h => cell_keep (cell_keep (p := ⟨w4.heap.size, 5, none⟩) (v := .slice Aw4 dD.cs.length cw4) (by simp [go_sem]) hbw5) h
  have k_x0_6 : ∀ W', Below w5.heap.size w5 W' → W'.cell? ⟨w4.heap.size, 6, none⟩ = some (.slice Bw4 dD.wall.length ew4) := fun W' h => cell_keep (cell_keep (p := ⟨w4.heap.size, 6, none⟩) (v := .slice Bw4 dD.wall.length ew4) (by simp [go_sem]) hbw5) h
  have k_x0_7 : ∀ W', Below w5.heap.size w5 W' → W'.cell? ⟨w4.heap.size, 7, none⟩ = some (.string dD.log) := fun W' h => cell_keep (cell_keep (p := ⟨w4.heap.size, 7, none⟩) (v := .string dD.log) (by simp [go_sem]) hbw5) h
  replace k_aD_0 : ∀ W', Below w5.heap.size w5 W' → W'.cell? ⟨w.heap.size, 0, none⟩ = some (.int .i64 dD.f.l) := fun W' h => k_aD_0 W' (ext_trans (ext_trans hL hcw5) h)
  replace k_aD_1 : ∀ W', Below w5.heap.size w5 W' → W'.cell? ⟨w.heap.size, 1, none⟩ = some (.int .i64 dD.f.w) := fun W' h => k_aD_1 W' (ext_trans (ext_trans hL hcw5) h)
  replace k_aD_2 : ∀ W', Below w5.heap.size w5 W' → W'.cell? ⟨w.heap.size, 2, none⟩ = some (.int .i64 dD.f.h) := fun W' h => k_aD_2 W' (ext_trans (ext_trans hL hcw5) h)
  replace k_aD_3 : ∀ W', Below w5.heap.size w5 W' → W'.cell? ⟨w.heap.size, 3, none⟩ = some (.int .i64 dD.f.j) := fun W' h => k_aD_3 W' (ext_trans (ext_trans hL hcw5) h)
  replace k_aD_4 : ∀ W', Below w5.heap.size w5 W' → W'.cell? ⟨w.heap.size, 4, none⟩ = some (.string dD.nm) := fun W' h => k_aD_4 W' (ext_trans (ext_trans hL hcw5) h)
  replace k_aD_5 : ∀ W', Below w5.heap.size w5 W' → W'.cell? ⟨w.heap.size, 5, none⟩ = some (.slice AD dD.cs.length cD) := fun W' h => k_aD_5 W' (ext_trans (ext_trans hL hcw5) h)
  replace k_aD_6 : ∀ W', Below w5.heap.size w5 W' → W'.cell? ⟨w.heap.size, 6, none⟩ = some (.slice BD dD.wall.length eD) := fun W' h => k_aD_6 W' (ext_trans (ext_trans hL hcw5) h)
  replace k_aD_7 : ∀ W', Below w5.heap.size w5 W' → W'.cell? ⟨w.heap.size, 7, none⟩ = some (.string dD.log) := fun W' h => k_aD_7 W' (ext_trans (ext_trans hL hcw5) h)
  clear hL haL
  have hL : Below w5.heap.size w5 w5 := ext_refl _
  have haL : ∀ o, Below w5.heap.size w5 (w5.alloc o) := fun o => ext_alloc hL o
  clear hcw5 hbw5
  go_wp2_with fail
  go_region_held3 (fun w' => Below w5.heap.size w5 w') (first | exact ext_drew hL | exact ext_trans (by assumption) (by assumption) | assumption)
    (first
      | (go_at_call 7; (have ht := to_DK _ dD _ (HRD.out _ (ext_trans HW.out (ext_drew (ext_refl _)))) SmD.out); (with_reducible refine ht.mono ?_); clear ht; rintro e w6 ⟨vw6, rfl, hOw6, hbw6⟩)
      | (go_at_call 9; (have ht := eq_DK _ _ dD _ ((HO_x0.out.ext (ext_trans (ext_drew (ext_refl _)) hbw6)).rd) hOw6.rd); (with_reducible refine ht.mono ?_); clear ht; rintro e w7 ⟨rfl, hbw7⟩)
      | fail)
  have hcw7 : Below w5.heap.size w5 w7 := (ext_trans (ext_trans (ext_drew (ext_refl _)) hbw6) hbw7)
  have HW_ : Hid (Below w.heap.size w w7) := Lib.hid (ext_trans HW.out hcw7)
  have zw7 := hcw7.size
  have HO_x0_ := Lib.hid (HO_x0.out.ext hcw7); clear HO_x0; have HO_x0 := HO_x0_; clear HO_x0_
  clear HW; have HW := HW_; clear HW_
  replace hL : Below w5.heap.size w5 w7 := ext_trans hL hcw7
  clear haL
  have haL : ∀ o, Below w5.heap.size w5 (w7.alloc o) := fun o => ext_alloc hL o
  clear hcw7 hbw6 hbw7
  clear hOw6
  go_wp2_with fail
  go_ret
  exact ⟨rfl, ext_trans HW.out (ext_refl _)⟩

theorem rd_FnExactDeskText : ∀ t ∈ Tryz.f4.params.toList, Tryz.prog.readableRec t = true ∧ t < Tryz.prog.types.size := by
  have h : Tryz.f4.params.toList.all (fun t => Tryz.prog.readableRec t && decide (t < Tryz.prog.types.size)) = true := by kernel_rfl
  intro t ht
  have := List.all_eq_true.1 h t ht
  simpa using this

set_option maxRecDepth 100000 in
theorem lifted_FnExactDeskText (os : Os) (started : os.Started) (H : Type) (enc : TypeId × Value → H) :
    ReturnsInHanded {} Tryz.checked os 4 .any (fun w args => (Rows.fnExactDeskTextSpec.pre enc Tryz.prog Tryz.f4 [] false w args ∧ laidMetH Tryz.prog Rows.fnExactDeskTextRow.laid w) ∧ sizedMet enc Tryz.prog Tryz.f4 (OpenSpec.ofChange Rows.fnExactDeskTextSpec) false w args)
      (Rows.fnExactDeskTextSpec.post enc Tryz.prog Tryz.f4 false true false false) := by
  have plain : ∀ w, laidMetH Tryz.prog Rows.fnExactDeskTextRow.laid w = laidMet Tryz.prog Rows.fnExactDeskTextRow.laid w := fun w => MakeChecks.laidMetH_plain _ _ _ (by kernel_rfl)
  refine returns_door (C := Tryz.checked) (X := fun w _ => laidMetH Tryz.prog Rows.fnExactDeskTextRow.laid w) (fun _ _ _ hh h => h.of_heap hh) own_knob started (by kernel_rfl) Tryz.func4
    (ChangeSpec.witness_shaped (enc := enc) (C := Tryz.checked) (os := os) (X := fun w _ => laidMetH Tryz.prog Rows.fnExactDeskTextRow.laid w) false (World.laidAll Tryz.prog os Rows.fnExactDeskTextRow.laid) #[.agg #[.int .i64 0, .int .i64 0, .int .i64 0, .int .i64 0, .string ⟨#[]⟩, .slice none 0 0, .slice none 0 0, .string ⟨#[]⟩]] 8 (World.laidAll_os _ _ _)
      (World.shaped_of_ZipB (by kernel_rfl) (by kernel_rfl)) (by kernel_rfl) (by kernel_rfl) (by kernel_rfl)
      (by rw [plain]; exact laidMet_laidAll _ (by kernel_rfl) (by kernel_rfl))) ?_
  intro W base args ds gs before hval0 hW hL hsh
  rw [plain] at hL
  have hEnv : Env W := env_of hL hsh (by simp [Rows.fnExactDeskTextRow]) (by simp [Rows.fnExactDeskTextRow, Rows.laid_strconv_ErrSyntax]) (by simp [Rows.fnExactDeskTextRow, Rows.laid_strconv_ErrRange])
  have hval : ∀ (j : Nat) t v, Tryz.f4.params[j]? = some t → args[j]? = some v → Value.okWide Tryz.prog W .any base t v := hval0
  have hW' : DataW.Whole enc Tryz.prog Tryz.f4.params.toList (Rows.fnExactDeskTextSpec).vars false W args.toList ds gs before := hW
  obtain ⟨p, q, hA0, hV, _, hfz, hnd⟩ := hW
  have hA : DataW.TrodAll enc Tryz.prog W 0 (fun _ => true) true Tryz.f4.params.toList args.toList ds p := hA0
  rw [Tryz.params4] at hA hval
  obtain ⟨v0, vs0, d0, ds0, p0, q0, ha0, hd0, hp0, h0, rr0⟩ := trodAll_cons hA
  subst hd0 hp0
  obtain ⟨e1, e2, e3⟩ := trodAll_nil rr0
  subst e1 e2 e3
  obtain rfl : args = #[v0] := by cases args; simp_all
  obtain ⟨rfl, rfl⟩ := trodVars_none hV
  obtain ⟨d0, hR0, hl0⟩ := open_DK (hval 0 29 v0 rfl rfl) h0
  clear hA0 hval0
  refine (law_FnExactDeskText v0 d0 W hEnv hR0 hl0).mono fun e W' ⟨he, hb⟩ => ?_
  subst he
  exact ⟨_, rfl, law_post rd_FnExactDeskText rfl rfl hW' rfl hb⟩

theorem bare_FnExactDeskText : Rows.FnExactDeskTextSaid :=
  OpenClaim.holds_of_wide 4 Tryz.f4 rfl rfl rfl rfl rfl rfl rfl ⟨rfl, rfl, rfl, rfl, rfl⟩ rfl rfl rfl rfl rfl (by kernel_rfl) Tryz.func4 (by kernel_rfl)
    (of_decide_eq_true (by kernel_rfl)) (by unfold Func.isWrapper; first | (rw [if_pos (by decide +kernel)]; kernel_rfl) | (rw [if_neg (by decide +kernel)]; exact ⟨rfl, rfl⟩))
    (fun os started H enc _ => lifted_FnExactDeskText os started H enc)

theorem wants_FnExactDeskText : Tryz.f4.params.toList.all (fun u => !Tryz.prog.wantsStandIn u) = true := by kernel_rfl
theorem named_FnExactDeskText : Tryz.prog.funcNamed "loop.example/g01042/laws.FnExactDeskText" = some 4 := by kernel_rfl
theorem holds_FnExactDeskText : Rows.FnExactDeskTextCardSaid :=
  Claim7.holds_tied_plain_at .later [] Rows.fnExactDeskTextCard.laidKinds true Rows.fnExactDeskTextCard.stood.harness Rows.fnExactDeskTextCard.stood.looks
    bare_FnExactDeskText (fun _ h => by cases h) (by kernel_rfl) (fun _ h => by cases h) fnExactDeskText_row_tie rfl ⟨rfl, rfl⟩ (by kernel_rfl) rfl
    (fun f fn hf hfn => by
      obtain rfl : f = 4 := (Option.some.inj (named_FnExactDeskText.symm.trans hf)).symm
      obtain rfl : fn = Tryz.f4 := (Option.some.inj (Tryz.func4.symm.trans hfn)).symm
      exact ⟨by kernel_rfl, fun j t ht => by
        have hm : t ∈ Tryz.f4.params.toList := by simpa using Array.mem_of_getElem? ht
        exact (show Tryz.prog.wantsStandIn t = false by simpa using List.all_eq_true.1 wants_FnExactDeskText t hm)⟩)
    (by kernel_rfl)


end Go.Proofs.YtoefoljhgnfoiaaGreatDoor
