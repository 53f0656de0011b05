/-
  The law FnExactAddEntry: the program answers as the reference, for all arguments; no condition. The walk and the row; printed by genlaw.py and genrow.py.
-/
import Derived.Test.YtjebddemamagdaaDoorLog14
import Derived.Test.YtjebddemamagdaaDoorDoor
import Derived.ChangeMaps5
import Derived.Deep.RegionHeld3
import Derived.Deep.DrawnRows
namespace Go.Proofs.YtjebddemamagdaaDoor
open Go.ChangeShapes Go.WideShapes Go.ChangeAt Go.RowKit Go.Sort
set_option linter.unusedVariables false
attribute [local go_sem ↓] Go.wp_at_zero Go.wp_at_succ

set_option maxHeartbeats 2000000 in
set_option maxRecDepth 100000 in
theorem law_FnExactAddEntry (sLog : ByteArray) (vE : Value) (oE : EN) (w : World) (hEnv : Env w) (hsLog : sLog.size ≤ maxLen) (hRE : REN w vE oE) (hlE : LenEN oE) :
    Calls Tryd.prog 8 #[.string sLog, vE] w (Ret (.bool true) w) := by
  have HEV : Hid (∀ W', Below w.heap.size w W' → Env W') := Lib.hid fun W' h => hEnv.ext h; clear hEnv
  have HSLog := Lib.hid hsLog; unfold maxLen at hsLog
  obtain rfl : vE = _ := hRE
  have HRE : Hid (∀ W', Below w.heap.size w W' → REN W' (.agg #[.int .i64 oE.day, .string oE.what, .int .i64 oE.val]) oE) := Lib.hid fun W' h => REN.ext (show REN w (.agg #[.int .i64 oE.day, .string oE.what, .int .i64 oE.val]) oE from rfl) h
  have HlE := Lib.hid hlE; clear hlE
  have HW : Hid (Below w.heap.size w w) := Lib.hid (ext_refl w)
  go_enter Tryd.func8, Tryd.ntmps8
  go_wp2_with fail
  · go_ret
    exact ⟨rfl, ext_trans HW.out (ext_alloc (ext_refl _) _)⟩
  have hlenLog : (sLog.size : Int) ≤ 1048576 := by first | assumption | omega
  clear HSLog; have HSLog : Hid (sLog.size ≤ 1048576) := Lib.hid (by omega)
  have hp0 : (0 : Int) ≤ 1048576 := by omega
  have hq0 : (1048576 : Int) ≤ 1048576 := by omega
  go_wp2_with fail
  refine (sz_EN _ oE 1048576 hp0 hq0 _ HlE.out (HRE.out _ (ext_trans HW.out (ext_alloc (ext_refl _) _)))).mono ?_
  rintro e w1 ⟨rfl, hbw1⟩
  have hcw1 : Below w.heap.size w w1 := ext_trans (ext_alloc (ext_refl _) _) hbw1
  have HW_ : Hid (Below w.heap.size w w1) := Lib.hid (ext_trans HW.out hcw1)
  have zw1 := hcw1.size
  clear HW; have HW := HW_; clear HW_
  have yw1 := Below.size hbw1
  simp only [World.size_alloc] at yw1
  have k_aE_0 : ∀ W', Below w1.heap.size w1 W' → W'.cell? ⟨w.heap.size, 0, none⟩ = some (.int .i64 oE.day) := fun W' h => cell_keep (cell_keep (p := ⟨w.heap.size, 0, none⟩) (v := .int .i64 oE.day) (by simp [go_sem]) hbw1) h
  have k_aE_1 : ∀ W', Below w1.heap.size w1 W' → W'.cell? ⟨w.heap.size, 1, none⟩ = some (.string oE.what) := fun W' h => cell_keep (cell_keep (p := ⟨w.heap.size, 1, none⟩) (v := .string oE.what) (by simp [go_sem]) hbw1) h
  have k_aE_2 : ∀ W', Below w1.heap.size w1 W' → W'.cell? ⟨w.heap.size, 2, none⟩ = some (.int .i64 oE.val) := fun W' h => cell_keep (cell_keep (p := ⟨w.heap.size, 2, none⟩) (v := .int .i64 oE.val) (by simp [go_sem]) hbw1) h
  have hL : Below w1.heap.size w1 w1 := ext_refl _
  have haL : ∀ o, Below w1.heap.size w1 (w1.alloc o) := fun o => ext_alloc hL o
  clear hbw1 hcw1
  obtain ⟨hqw1, hrw1⟩ := szEN_le oE hq0
  go_wp2_with fail
  · go_ret
    exact ⟨rfl, ext_trans HW.out (ext_refl _)⟩
  have hpw1 : 0 ≤ szEN oE 1048576 := by assumption
  obtain ⟨huE, hsmE⟩ := ok_EN hq0 hpw1
  have SmE := Lib.hid hsmE; clear hsmE
  go_wp2_with fail
  refine (to_ENv _ oE _ (HRE.out _ (ext_trans HW.out (ext_refl _))) SmE.out).mono ?_
  rintro e w2 ⟨vw2, rfl, hOw2, hbw2⟩
  go_wp2_with fail
  refine (spec_AddEntry sLog _ oE _ HSLog.out hOw2.rd SmE.out (HEV.out _ (ext_trans HW.out (ext_trans (ext_refl _) hbw2)))).mono ?_
  rintro e w3 ⟨rfl, hbw3⟩
  have hcw3 : Below w1.heap.size w1 w3 := (ext_trans (ext_trans (ext_refl _) hbw2) hbw3)
  have HW_ : Hid (Below w.heap.size w w3) := Lib.hid (ext_trans HW.out hcw3)
  have zw3 := hcw3.size
  clear HW; have HW := HW_; clear HW_
  replace hL : Below w1.heap.size w1 w3 := ext_trans hL hcw3
  clear haL
  have haL : ∀ o, Below w1.heap.size w1 (w3.alloc o) := fun o => ext_alloc hL o
  clear hcw3 hbw2 hbw3
  clear hOw2
  go_wp2_with fail
  refine (to_ENv _ oE _ (HRE.out _ (ext_trans HW.out (ext_refl _))) SmE.out).mono ?_
  rintro e w4 ⟨vw4, rfl, hOw4, hbw4⟩
  go_wp2_with fail
  refine (impl_AddEntry sLog _ oE _ HSLog.out hOw4.rd SmE.out (HEV.out _ (ext_trans HW.out (ext_trans (ext_refl _) hbw4)))).mono ?_
  rintro e w5 ⟨rfl, hbw5⟩
  have hcw5 : Below w3.heap.size w3 w5 := (ext_trans (ext_trans (ext_refl _) hbw4) hbw5)
  have HW_ : Hid (Below w.heap.size w w5) := Lib.hid (ext_trans HW.out hcw5)
  have zw5 := hcw5.size
  clear HW; have HW := HW_; clear HW_
  replace hL : Below w1.heap.size w1 w5 := ext_trans hL hcw5
  clear haL
  have haL : ∀ o, Below w1.heap.size w1 (w5.alloc o) := fun o => ext_alloc hL o
  clear hcw5 hbw4 hbw5
  clear hOw4
  go_wp2_with fail
  go_ret
  exact ⟨rfl, ext_trans HW.out (ext_refl _)⟩

theorem rd_FnExactAddEntry : ∀ t ∈ Tryd.f8.params.toList, Tryd.prog.readableRec t = true ∧ t < Tryd.prog.types.size := by
  have h : Tryd.f8.params.toList.all (fun t => Tryd.prog.readableRec t && decide (t < Tryd.prog.types.size)) = true := by kernel_rfl
  intro t ht
  have := List.all_eq_true.1 h t ht
  simpa using this

set_option maxRecDepth 100000 in
theorem lifted_FnExactAddEntry (os : Os) (started : os.Started) (H : Type) (enc : TypeId × Value → H) :
    ReturnsInHanded {} Tryd.checked os 8 .any (fun w args => (Rows.fnExactAddEntrySpec.pre enc Tryd.prog Tryd.f8 [] false w args ∧ laidMetH Tryd.prog Rows.fnExactAddEntryRow.laid w) ∧ sizedMet enc Tryd.prog Tryd.f8 (OpenSpec.ofChange Rows.fnExactAddEntrySpec) false w args)
      (Rows.fnExactAddEntrySpec.post enc Tryd.prog Tryd.f8 false true false false) := by
  have plain : ∀ w, laidMetH Tryd.prog Rows.fnExactAddEntryRow.laid w = laidMet Tryd.prog Rows.fnExactAddEntryRow.laid w := fun w => MakeChecks.laidMetH_plain _ _ _ (by kernel_rfl)
  refine returns_door (C := Tryd.checked) (X := fun w _ => laidMetH Tryd.prog Rows.fnExactAddEntryRow.laid w) (fun _ _ _ hh h => h.of_heap hh) own_knob started (by kernel_rfl) Tryd.func8
    (ChangeSpec.witness_shaped (enc := enc) (C := Tryd.checked) (os := os) (X := fun w _ => laidMetH Tryd.prog Rows.fnExactAddEntryRow.laid w) false (World.laidAll Tryd.prog os Rows.fnExactAddEntryRow.laid) #[.string ⟨#[]⟩, .agg #[.int .i64 0, .string ⟨#[]⟩, .int .i64 0]] 8 (World.laidAll_os _ _ _)
      (World.shaped_of_ZipB (by kernel_rfl) (by kernel_rfl)) (by kernel_rfl) (by kernel_rfl) (by kernel_rfl)
      (by rw [plain]; exact laidMet_laidAll _ (by kernel_rfl) (by kernel_rfl))) ?_
  intro W base args ds gs before hval0 hW hL hsh
  rw [plain] at hL
  have hEnv : Env W := env_of hL hsh (by simp [Rows.fnExactAddEntryRow]) (by simp [Rows.fnExactAddEntryRow, Rows.laid_strconv_ErrSyntax]) (by simp [Rows.fnExactAddEntryRow, Rows.laid_strconv_ErrRange])
  have hval : ∀ (j : Nat) t v, Tryd.f8.params[j]? = some t → args[j]? = some v → Value.okWide Tryd.prog W .any base t v := hval0
  have hW' : DataW.Whole enc Tryd.prog Tryd.f8.params.toList (Rows.fnExactAddEntrySpec).vars false W args.toList ds gs before := hW
  obtain ⟨p, q, hA0, hV, _, hfz, hnd⟩ := hW
  have hA : DataW.TrodAll enc Tryd.prog W 0 (fun _ => true) true Tryd.f8.params.toList args.toList ds p := hA0
  rw [Tryd.params8] at hA hval
  obtain ⟨v0, vs0, d0, ds0, p0, q0, ha0, hd0, hp0, h0, rr0⟩ := trodAll_cons hA
  subst hd0 hp0
  obtain ⟨v1, vs1, d1, ds1, p1, q1, ha1, hd1, hp1, h1, rr1⟩ := trodAll_cons rr0
  subst ha1 hd1 hp1
  obtain ⟨e1, e2, e3⟩ := trodAll_nil rr1
  subst e1 e2 e3
  obtain rfl : args = #[v0, v1] := by cases args; simp_all
  obtain ⟨rfl, rfl⟩ := trodVars_none hV
  obtain ⟨s0, rfl, rfl, rfl, ws0⟩ := Go.ChangeMaps.open_string Tryd.underlying9 (hval 0 9 v0 rfl rfl) h0
  obtain ⟨o1, hR1, hl1⟩ := open_EN (hval 1 23 v1 rfl rfl) h1
  clear hA0 hval0
  refine (law_FnExactAddEntry s0 v1 o1 W hEnv ws0 hR1 hl1).mono fun e W' ⟨he, hb⟩ => ?_
  subst he
  exact ⟨_, rfl, law_post rd_FnExactAddEntry rfl rfl hW' rfl hb⟩

theorem bare_FnExactAddEntry : Rows.FnExactAddEntrySaid :=
  OpenClaim.holds_of_wide 8 Tryd.f8 rfl rfl rfl rfl rfl rfl rfl ⟨rfl, rfl, rfl, rfl, rfl⟩ rfl rfl rfl rfl rfl (by kernel_rfl) Tryd.func8 (by kernel_rfl)
    (of_decide_eq_true (by kernel_rfl)) (by unfold Func.isWrapper; first | (rw [if_pos (by decide +kernel)]; kernel_rfl) | (rw [if_neg (by decide +kernel)]; exact ⟨rfl, rfl⟩))
    (fun os started H enc _ => lifted_FnExactAddEntry os started H enc)

theorem wants_FnExactAddEntry : Tryd.f8.params.toList.all (fun u => !Tryd.prog.wantsStandIn u) = true := by kernel_rfl
theorem named_FnExactAddEntry : Tryd.prog.funcNamed "loop.example/g01042/laws.FnExactAddEntry" = some 8 := by kernel_rfl
theorem holds_FnExactAddEntry : Rows.FnExactAddEntryCardSaid :=
  Claim7.holds_tied_plain_at .later [] Rows.fnExactAddEntryCard.laidKinds true Rows.fnExactAddEntryCard.stood.harness Rows.fnExactAddEntryCard.stood.looks
    bare_FnExactAddEntry (fun _ h => by cases h) (by kernel_rfl) (fun _ h => by cases h) fnExactAddEntry_row_tie rfl ⟨rfl, rfl⟩ (by kernel_rfl) rfl
    (fun f fn hf hfn => by
      obtain rfl : f = 8 := (Option.some.inj (named_FnExactAddEntry.symm.trans hf)).symm
      obtain rfl : fn = Tryd.f8 := (Option.some.inj (Tryd.func8.symm.trans hfn)).symm
      exact ⟨by kernel_rfl, fun j t ht => by
        have hm : t ∈ Tryd.f8.params.toList := by simpa using Array.mem_of_getElem? ht
        exact (show Tryd.prog.wantsStandIn t = false by simpa using List.all_eq_true.1 wants_FnExactAddEntry t hm)⟩)
    (by kernel_rfl)


end Go.Proofs.YtjebddemamagdaaDoor
