/-
  The law FnExactDeskCommand: the program answers as the reference, for all arguments; no condition. The walk and the row; printed by genlaw.py and genrow.py.
-/
import Derived.Test.YtfgopboddkhckaaGreatDoorKw38
namespace Go.Proofs.YtfgopboddkhckaaGreatDoor
open Go.ChangeShapes Go.WideShapes Go.ChangeAt Go.RowKit Go.Sort
set_option linter.unusedVariables false
attribute [local go_sem ↓] Go.wp_at_zero Go.wp_at_succ
set_option maxHeartbeats 2000000 in
set_option maxRecDepth 100000 in
theorem law_FnExactDeskCommand (vD : Value) (dD : DK) (sLine : ByteArray) (w : World) (hEnv : EnvK w) (hRD : RDK w vD dD) (hlD : LenDK dD) (hsLine : sLine.size ≤ maxLen) :
   Calls Tryz.prog 4 #[vD, .string sLine] w (Ret (.bool true) w) := by
 have HEV : Hid (∀ W', Below w.heap.size w W' → EnvK W') := Lib.hid fun W' h => hEnv.ext h; clear hEnv
 obtain ⟨AD, cD, BD, eD, rfl, hOD⟩ := hRD
 have HRD : Hid (∀ W', Below w.heap.size w W' → RDK W' (.agg #[.int .i64 dD.f.l, .int .i64 dD.f.w, .int .i64 dD.f.h, .int .i64 dD.f.j, .string dD.nm, .slice AD dD.cs.length cD, .slice BD dD.wall.length eD, .string dD.log]) dD) := Lib.hid fun W' h => RDK.ext (show RDK w (.agg #[.int .i64 dD.f.l, .int .i64 dD.f.w, .int .i64 dD.f.h, .int .i64 dD.f.j, .string dD.nm, .slice AD dD.cs.length cD, .slice BD dD.wall.length eD, .string dD.log]) dD from ⟨_, _, _, _, rfl, hOD⟩) h
 clear hOD
 have HlD := Lib.hid hlD; clear hlD
 have HSLine := Lib.hid hsLine; unfold maxLen at hsLine
 have HW : Hid (Below w.heap.size w w) := Lib.hid (ext_refl w)
 go_enter Tryz.func4, Tryz.ntmps4
 go_wp2_with fail
 · go_ret
   exact ⟨rfl, ext_trans HW.out (ext_alloc (ext_refl _) _)⟩
 have hlenLine : (sLine.size : Int) ≤ 1048576 := by first | assumption | omega
 clear HSLine; have HSLine : Hid (sLine.size ≤ 1048576) := Lib.hid (by omega)
 have hp0 : (0 : Int) ≤ 1048576 := by omega
 have hq0 : (1048576 : Int) ≤ 1048576 := by omega
 go_wp2_with fail
 refine (sz_DK _ dD 1048576 hp0 hq0 _ HlD.out (HRD.out _ (ext_trans HW.out (ext_alloc (ext_refl _) _)))).mono ?_
 rintro e w1 ⟨rfl, hbw1⟩
 have hcw1 : Below w.heap.size w w1 := ext_trans (ext_alloc (ext_refl _) _) hbw1
 have HW_ : Hid (Below w.heap.size w w1) := Lib.hid (ext_trans HW.out hcw1)
 have zw1 := hcw1.size
 clear HW; have HW := HW_; clear HW_
 have yw1 := Below.size hbw1
 simp only [World.size_alloc] at yw1
 have k_aD_0 : ∀ W', Below w1.heap.size w1 W' → W'.cell? ⟨w.heap.size, 0, none⟩ = some (.int .i64 dD.f.l) := fun W' h => cell_keep (cell_keep (p := ⟨w.heap.size, 0, none⟩) (v := .int .i64 dD.f.l) (by simp [go_sem]) hbw1) h
 have k_aD_1 : ∀ W', Below w1.heap.size w1 W' → W'.cell? ⟨w.heap.size, 1, none⟩ = some (.int .i64 dD.f.w) := fun W' h => cell_keep (cell_keep (p := ⟨w.heap.size, 1, none⟩) (v := .int .i64 dD.f.w) (by simp [go_sem]) hbw1) h
 have k_aD_2 : ∀ W', Below w1.heap.size w1 W' → W'.cell? ⟨w.heap.size, 2, none⟩ = some (.int .i64 dD.f.h) := fun W' h => cell_keep (cell_keep (p := ⟨w.heap.size, 2, none⟩) (v := .int .i64 dD.f.h) (by simp [go_sem]) hbw1) h
 have k_aD_3 : ∀ W', Below w1.heap.size w1 W' → W'.cell? ⟨w.heap.size, 3, none⟩ = some (.int .i64 dD.f.j) := fun W' h => cell_keep (cell_keep (p := ⟨w.heap.size, 3, none⟩) (v := .int .i64 dD.f.j) (by simp [go_sem]) hbw1) h
 have k_aD_4 : ∀ W', Below w1.heap.size w1 W' → W'.cell? ⟨w.heap.size, 4, none⟩ = some (.string dD.nm) := fun W' h => cell_keep (cell_keep (p := ⟨w.heap.size, 4, none⟩) (v := .string dD.nm) (by simp [go_sem]) hbw1) h
 have k_aD_5 : ∀ W', Below w1.heap.size w1 W' → W'.cell? ⟨w.heap.size, 5, none⟩ = some (.slice AD dD.cs.length cD) := fun W' h => cell_keep (cell_keep (p := ⟨w.heap.size, 5, none⟩) (v := .slice AD dD.cs.length cD) (by simp [go_sem]) hbw1) h
 have k_aD_6 : ∀ W', Below w1.heap.size w1 W' → W'.cell? ⟨w.heap.size, 6, none⟩ = some (.slice BD dD.wall.length eD) := fun W' h => cell_keep (cell_keep (p := ⟨w.heap.size, 6, none⟩) (v := .slice BD dD.wall.length eD) (by simp [go_sem]) hbw1) h
 have k_aD_7 : ∀ W', Below w1.heap.size w1 W' → W'.cell? ⟨w.heap.size, 7, none⟩ = some (.string dD.log) := fun W' h => cell_keep (cell_keep (p := ⟨w.heap.size, 7, none⟩) (v := .string dD.log) (by simp [go_sem]) hbw1) h
 have hL : Below w1.heap.size w1 w1 := ext_refl _
 have haL : ∀ o, Below w1.heap.size w1 (w1.alloc o) := fun o => ext_alloc hL o
 clear hbw1 hcw1
 obtain ⟨hqw1, hrw1⟩ := szDK_le dD hq0
 go_wp2_with fail
 · go_ret
   exact ⟨rfl, ext_trans HW.out (ext_refl _)⟩
 have hpw1 : 0 ≤ szDK dD 1048576 := by assumption
 obtain ⟨huD, hsmD⟩ := ok_DK hq0 hpw1
 have SmD := Lib.hid hsmD; clear hsmD
 go_wp2_with fail
 refine (to_DK _ dD _ (HRD.out _ (ext_trans HW.out (ext_refl _))) SmD.out).mono ?_
 rintro e w2 ⟨vw2, rfl, hOw2, hbw2⟩
 go_wp2_with fail
 refine (spec_DeskCommandL _ dD sLine _ hOw2.rd SmD.out HSLine.out (HEV.out _ (ext_trans HW.out (ext_trans (ext_refl _) hbw2)))).mono ?_
 rintro e w3 ⟨vw3_0, vw3_1, rfl, ⟨Aw3_0, cw3_0, Bw3_0, ew3_0, rfl, hOw3_0⟩, hsmw3_0, hOw3_1, hsmw3_1, hapw3, hbw3⟩
 have hcw3 : Below w1.heap.size w1 w3 := (ext_trans (ext_trans (ext_refl _) hbw2) hbw3)
 have HW_ : Hid (Below w.heap.size w w3) := Lib.hid (ext_trans HW.out hcw3)
 have zw3 := hcw3.size
 clear HW; have HW := HW_; clear HW_
 replace hL : Below w1.heap.size w1 w3 := ext_trans hL hcw3
 clear haL
 have haL : ∀ o, Below w1.heap.size w1 (w3.alloc o) := fun o => ext_alloc hL o
 clear hcw3 hbw2 hbw3
 clear hOw2
 have hOO : ODK w3 (w2.heap.size) (.agg #[.int .i64 ((mDesk dD sLine).1).f.l, .int .i64 ((mDesk dD sLine).1).f.w, .int .i64 ((mDesk dD sLine).1).f.h, .int .i64 ((mDesk dD sLine).1).f.j, .string ((mDesk dD sLine).1).nm, .slice Aw3_0 ((mDesk dD sLine).1).cs.length cw3_0, .slice Bw3_0 ((mDesk dD sLine).1).wall.length ew3_0, .string ((mDesk dD sLine).1).log]) ((mDesk dD sLine).1) := ⟨_, _, _, _, rfl, hOw3_0⟩
 have HB_w0 : Hid (∀ k, BDK (.agg #[.int .i64 ((mDesk dD sLine).1).f.l, .int .i64 ((mDesk dD sLine).1).f.w, .int .i64 ((mDesk dD sLine).1).f.h, .int .i64 ((mDesk dD sLine).1).f.j, .string ((mDesk dD sLine).1).nm, .slice Aw3_0 ((mDesk dD sLine).1).cs.length cw3_0, .slice Bw3_0 ((mDesk dD sLine).1).wall.length ew3_0, .string ((mDesk dD sLine).1).log]) k → w2.heap.size ≤ k ∧ k < w3.heap.size) := Lib.hid hOO.ge
 have HO_w0 := Lib.hid hOO; clear hOO
 have SM_w0 := Lib.hid hsmw3_0; clear hsmw3_0
 have HB_w1 : Hid (∀ k, BStr (vw3_1) k → w2.heap.size ≤ k ∧ k < w3.heap.size) := Lib.hid hOw3_1.ge
 have HO_w1 := Lib.hid hOw3_1; clear hOw3_1
 have SM_w1 := Lib.hid hsmw3_1; clear hsmw3_1
 go_wp2_with fail
 refine (to_DK _ dD _ (HRD.out _ (ext_trans HW.out (ext_alloc (ext_refl _) _))) SmD.out).mono ?_
 rintro e w4 ⟨vw4, rfl, ⟨Aw4, cw4, Bw4, ew4, rfl, hOw4⟩, hbw4⟩
 have hOO : ODK w4 (w3.heap.size + 1) (.agg #[.int .i64 dD.f.l, .int .i64 dD.f.w, .int .i64 dD.f.h, .int .i64 dD.f.j, .string dD.nm, .slice Aw4 dD.cs.length cw4, .slice Bw4 dD.wall.length ew4, .string dD.log]) dD := by have h0 := hOw4; simp only [World.size_alloc] at h0; exact ⟨_, _, _, _, rfl, h0⟩
 have hcw4 : Below w3.heap.size w3 w4 := ext_trans (ext_alloc (ext_refl _) _) hbw4
 have HW_ : Hid (Below w.heap.size w w4) := Lib.hid (ext_trans HW.out hcw4)
 have zw4 := hcw4.size
 have HO_w0_ := Lib.hid (HO_w0.out.ext hcw4); clear HO_w0; have HO_w0 := HO_w0_; clear HO_w0_
 have HO_w1_ := Lib.hid (HO_w1.out.ext hcw4); clear HO_w1; have HO_w1 := HO_w1_; clear HO_w1_
 clear HW; have HW := HW_; clear HW_
 have yw4 := Below.size hbw4
 simp only [World.size_alloc] at yw4
 have k_w0_0 : ∀ W', Below w4.heap.size w4 W' → W'.cell? ⟨w3.heap.size, 0, none⟩ = some (.int .i64 ((mDesk dD sLine).1).f.l) := fun W' h => cell_keep (cell_keep (p := ⟨w3.heap.size, 0, none⟩) (v := .int .i64 ((mDesk dD sLine).1).f.l) (by simp [go_sem]) hbw4) h
 have k_w0_1 : ∀ W', Below w4.heap.size w4 W' → W'.cell? ⟨w3.heap.size, 1, none⟩ = some (.int .i64 ((mDesk dD sLine).1).f.w) := fun W' h => cell_keep (cell_keep (p := ⟨w3.heap.size, 1, none⟩) (v := .int .i64 ((mDesk dD sLine).1).f.w) (by simp [go_sem]) hbw4) h
 have k_w0_2 : ∀ W', Below w4.heap.size w4 W' → W'.cell? ⟨w3.heap.size, 2, none⟩ = some (.int .i64 ((mDesk dD sLine).1).f.h) := fun W' h => cell_keep (cell_keep (p := ⟨w3.heap.size, 2, none⟩) (v := .int .i64 ((mDesk dD sLine).1).f.h) (by simp [go_sem]) hbw4) h
 have k_w0_3 : ∀ W', Below w4.heap.size w4 W' → W'.cell? ⟨w3.heap.size, 3, none⟩ = some (.int .i64 ((mDesk dD sLine).1).f.j) := fun W' h => cell_keep (cell_keep (p := ⟨w3.heap.size, 3, none⟩) (v := .int .i64 ((mDesk dD sLine).1).f.j) (by simp [go_sem]) hbw4) h
 have k_w0_4 : ∀ W', Below w4.heap.size w4 W' → W'.cell? ⟨w3.heap.size, 4, none⟩ = some (.string ((mDesk dD sLine).1).nm) := fun W' h => cell_keep (cell_keep (p := ⟨w3.heap.size, 4, none⟩) (v := .string ((mDesk dD sLine).1).nm) (by simp [go_sem]) hbw4) h
 have k_w0_5 : ∀ W', Below w4.heap.size w4 W' → W'.cell? ⟨w3.heap.size, 5, none⟩ = some (.slice Aw3_0 ((mDesk dD sLine).1).cs.length cw3_0) := fun W' h => cell_keep (cell_keep (p := ⟨w3.heap.size, 5, none⟩) (v := .slice Aw3_0 ((mDesk dD sLine).1).cs.length cw3_0) (by simp [go_sem]) hbw4) h
 have k_w0_6 : ∀ W', Below w4.heap.size w4 W' → W'.cell? ⟨w3.heap.size, 6, none⟩ = some (.slice Bw3_0 ((mDesk dD sLine).1).wall.length ew3_0) := fun W' h => cell_keep (cell_keep (p := ⟨w3.heap.size, 6, none⟩) (v := .slice Bw3_0 ((mDesk dD sLine).1).wall.length ew3_0) (by simp [go_sem]) hbw4) h
 have k_w0_7 : ∀ W', Below w4.heap.size w4 W' → W'.cell? ⟨w3.heap.size, 7, none⟩ = some (.string ((mDesk dD sLine).1).log) := fun W' h => cell_keep (cell_keep (p := ⟨w3.heap.size, 7, none⟩) (v := .string ((mDesk dD sLine).1).log) (by simp [go_sem]) hbw4) h
 have kk : ∀ {p : Addr} {v : Value}, (∀ W', Below w1.heap.size w1 W' → W'.cell? p = some v) → ∀ W', Below w4.heap.size w4 W' → W'.cell? p = some v := fun f W' h => f W' (ext_trans (ext_trans hL hcw4) h)
 replace k_aD_0 := kk k_aD_0; replace k_aD_1 := kk k_aD_1; replace k_aD_2 := kk k_aD_2; replace k_aD_3 := kk k_aD_3; replace k_aD_4 := kk k_aD_4; replace k_aD_5 := kk k_aD_5; replace k_aD_6 := kk k_aD_6; replace k_aD_7 := kk k_aD_7
 clear kk
 clear hL haL
 have hL : Below w4.heap.size w4 w4 := ext_refl _
 have haL : ∀ o, Below w4.heap.size w4 (w4.alloc o) := fun o => ext_alloc hL o
 clear hbw4 hcw4
 have HB_x0 : Hid (∀ k, BDK (.agg #[.int .i64 dD.f.l, .int .i64 dD.f.w, .int .i64 dD.f.h, .int .i64 dD.f.j, .string dD.nm, .slice Aw4 dD.cs.length cw4, .slice Bw4 dD.wall.length ew4, .string dD.log]) k → w3.heap.size + 1 ≤ k ∧ k < w4.heap.size) := Lib.hid hOO.ge
 have HO_x0 := Lib.hid hOO; clear hOO
 go_wp2_with fail
 refine (impl_DeskCommandL _ dD sLine _ ((HO_x0.out.ext (ext_alloc (ext_refl _) _)).rd) SmD.out HSLine.out (HEV.out _ (ext_trans HW.out (ext_alloc (ext_refl _) _)))).mono ?_
 rintro e w5 ⟨vw5_0, vw5_1, rfl, ⟨Aw5_0, cw5_0, Bw5_0, ew5_0, rfl, hOw5_0⟩, hsmw5_0, hOw5_1, hsmw5_1, hapw5, hbw5⟩
 have hcw5 : Below w4.heap.size w4 w5 := (ext_trans (ext_alloc (ext_refl _) _) hbw5)
 have HW_ : Hid (Below w.heap.size w w5) := Lib.hid (ext_trans HW.out hcw5)
 have zw5 := hcw5.size
 have HO_w0_ := Lib.hid (HO_w0.out.ext hcw5); clear HO_w0; have HO_w0 := HO_w0_; clear HO_w0_
 have HO_w1_ := Lib.hid (HO_w1.out.ext hcw5); clear HO_w1; have HO_w1 := HO_w1_; clear HO_w1_
 have HO_x0_ := Lib.hid (HO_x0.out.ext hcw5); clear HO_x0; have HO_x0 := HO_x0_; clear HO_x0_
 clear HW; have HW := HW_; clear HW_
 have yw5 := Below.size hbw5
 simp only [World.size_alloc] at yw5
 have k_x0_0 : ∀ W', Below w5.heap.size w5 W' → W'.cell? ⟨w4.heap.size, 0, none⟩ = some (.int .i64 dD.f.l) := fun W' h => cell_keep (cell_keep (p := ⟨w4.heap.size, 0, none⟩) (v := .int .i64 dD.f.l) (by simp [go_sem]) hbw5) h
 have k_x0_1 : ∀ W', Below w5.heap.size w5 W' → W'.cell? ⟨w4.heap.size, 1, none⟩ = some (.int .i64 dD.f.w) := fun W' h => cell_keep (cell_keep (p := ⟨w4.heap.size, 1, none⟩) (v := .int .i64 dD.f.w) (by simp [go_sem]) hbw5) h
 have k_x0_2 : ∀ W', Below w5.heap.size w5 W' → W'.cell? ⟨w4.heap.size, 2, none⟩ = some (.int .i64 dD.f.h) := fun W' h => cell_keep (cell_keep (p := ⟨w4.heap.size, 2, none⟩) (v := .int .i64 dD.f.h) (by simp [go_sem]) hbw5) h
 have k_x0_3 : ∀ W', Below w5.heap.size w5 W' → W'.cell? ⟨w4.heap.size, 3, none⟩ = some (.int .i64 dD.f.j) := fun W' h => cell_keep (cell_keep (p := ⟨w4.heap.size, 3, none⟩) (v := .int .i64 dD.f.j) (by simp [go_sem]) hbw5) h
 have k_x0_4 : ∀ W', Below w5.heap.size w5 W' → W'.cell? ⟨w4.heap.size, 4, none⟩ = some (.string dD.nm) := fun W' h => cell_keep (cell_keep (p := ⟨w4.heap.size, 4, none⟩) (v := .string dD.nm) (by simp [go_sem]) hbw5) h
 have k_x0_5 : ∀ W', Below w5.heap.size w5 W' → W'.cell? ⟨w4.heap.size, 5, none⟩ = some (.slice Aw4 dD.cs.length cw4) := fun W' h => cell_keep (cell_keep (p := ⟨w4.heap.size, 5, none⟩) (v := .slice Aw4 dD.cs.length cw4) (by simp [go_sem]) hbw5) h
 have k_x0_6 : ∀ W', Below w5.heap.size w5 W' → W'.cell? ⟨w4.heap.size, 6, none⟩ = some (.slice Bw4 dD.wall.length ew4) := fun W' h => cell_keep (cell_keep (p := ⟨w4.heap.size, 6, none⟩) (v := .slice Bw4 dD.wall.length ew4) (by simp [go_sem]) hbw5) h
 have k_x0_7 : ∀ W', Below w5.heap.size w5 W' → W'.cell? ⟨w4.heap.size, 7, none⟩ = some (.string dD.log) := fun W' h => cell_keep (cell_keep (p := ⟨w4.heap.size, 7, none⟩) (v := .string dD.log) (by simp [go_sem]) hbw5) h
 have kk : ∀ {p : Addr} {v : Value}, (∀ W', Below w4.heap.size w4 W' → W'.cell? p = some v) → ∀ W', Below w5.heap.size w5 W' → W'.cell? p = some v := fun f W' h => f W' (ext_trans (ext_trans hL hcw5) h)
 replace k_aD_0 := kk k_aD_0; replace k_aD_1 := kk k_aD_1; replace k_aD_2 := kk k_aD_2; replace k_aD_3 := kk k_aD_3; replace k_aD_4 := kk k_aD_4; replace k_aD_5 := kk k_aD_5; replace k_aD_6 := kk k_aD_6; replace k_aD_7 := kk k_aD_7
 replace k_w0_0 := kk k_w0_0; replace k_w0_1 := kk k_w0_1; replace k_w0_2 := kk k_w0_2; replace k_w0_3 := kk k_w0_3; replace k_w0_4 := kk k_w0_4; replace k_w0_5 := kk k_w0_5; replace k_w0_6 := kk k_w0_6; replace k_w0_7 := kk k_w0_7
 clear kk
 clear hL haL
 have hL : Below w5.heap.size w5 w5 := ext_refl _
 have haL : ∀ o, Below w5.heap.size w5 (w5.alloc o) := fun o => ext_alloc hL o
 clear hcw5 hbw5
 have hOO : ODK w5 (w4.heap.size + 1) (.agg #[.int .i64 ((mDesk dD sLine).1).f.l, .int .i64 ((mDesk dD sLine).1).f.w, .int .i64 ((mDesk dD sLine).1).f.h, .int .i64 ((mDesk dD sLine).1).f.j, .string ((mDesk dD sLine).1).nm, .slice Aw5_0 ((mDesk dD sLine).1).cs.length cw5_0, .slice Bw5_0 ((mDesk dD sLine).1).wall.length ew5_0, .string ((mDesk dD sLine).1).log]) ((mDesk dD sLine).1) := by simpa only [World.size_alloc] using (show ODK w5 _ (.agg #[.int .i64 ((mDesk dD sLine).1).f.l, .int .i64 ((mDesk dD sLine).1).f.w, .int .i64 ((mDesk dD sLine).1).f.h, .int .i64 ((mDesk dD sLine).1).f.j, .string ((mDesk dD sLine).1).nm, .slice Aw5_0 ((mDesk dD sLine).1).cs.length cw5_0, .slice Bw5_0 ((mDesk dD sLine).1).wall.length ew5_0, .string ((mDesk dD sLine).1).log]) ((mDesk dD sLine).1) from ⟨_, _, _, _, rfl, hOw5_0⟩)
 have HB_g0 : Hid (∀ k, BDK (.agg #[.int .i64 ((mDesk dD sLine).1).f.l, .int .i64 ((mDesk dD sLine).1).f.w, .int .i64 ((mDesk dD sLine).1).f.h, .int .i64 ((mDesk dD sLine).1).f.j, .string ((mDesk dD sLine).1).nm, .slice Aw5_0 ((mDesk dD sLine).1).cs.length cw5_0, .slice Bw5_0 ((mDesk dD sLine).1).wall.length ew5_0, .string ((mDesk dD sLine).1).log]) k → w4.heap.size + 1 ≤ k ∧ k < w5.heap.size) := Lib.hid hOO.ge
 have HO_g0 := Lib.hid hOO; clear hOO
 have SM_g0 := Lib.hid hsmw5_0; clear hsmw5_0
 simp only [World.size_alloc] at hOw5_1
 have HB_g1 : Hid (∀ k, BStr (vw5_1) k → w4.heap.size + 1 ≤ k ∧ k < w5.heap.size) := Lib.hid hOw5_1.ge
 have HO_g1 := Lib.hid hOw5_1; clear hOw5_1
 have SM_g1 := Lib.hid hsmw5_1; clear hsmw5_1
 go_wp2_with fail
 refine (eq_DK _ _ ((mDesk dD sLine).1) _ ((HO_g0.out.ext (ext_alloc (ext_refl _) _)).rd) ((HO_w0.out.ext (ext_alloc (ext_refl _) _)).rd)).mono ?_
 rintro e w6 ⟨rfl, hbw6⟩
 have hcw6 : Below w5.heap.size w5 w6 := ext_trans (ext_alloc (ext_refl _) _) hbw6
 have HW_ : Hid (Below w.heap.size w w6) := Lib.hid (ext_trans HW.out hcw6)
 have zw6 := hcw6.size
 have HO_w0_ := Lib.hid (HO_w0.out.ext hcw6); clear HO_w0; have HO_w0 := HO_w0_; clear HO_w0_
 have HO_w1_ := Lib.hid (HO_w1.out.ext hcw6); clear HO_w1; have HO_w1 := HO_w1_; clear HO_w1_
 have HO_x0_ := Lib.hid (HO_x0.out.ext hcw6); clear HO_x0; have HO_x0 := HO_x0_; clear HO_x0_
 have HO_g0_ := Lib.hid (HO_g0.out.ext hcw6); clear HO_g0; have HO_g0 := HO_g0_; clear HO_g0_
 have HO_g1_ := Lib.hid (HO_g1.out.ext hcw6); clear HO_g1; have HO_g1 := HO_g1_; clear HO_g1_
 clear HW; have HW := HW_; clear HW_
 have yw6 := Below.size hbw6
 simp only [World.size_alloc] at yw6
 have k_g0_0 : ∀ W', Below w6.heap.size w6 W' → W'.cell? ⟨w5.heap.size, 0, none⟩ = some (.int .i64 ((mDesk dD sLine).1).f.l) := fun W' h => cell_keep (cell_keep (p := ⟨w5.heap.size, 0, none⟩) (v := .int .i64 ((mDesk dD sLine).1).f.l) (by simp [go_sem]) hbw6) h
 have k_g0_1 : ∀ W', Below w6.heap.size w6 W' → W'.cell? ⟨w5.heap.size, 1, none⟩ = some (.int .i64 ((mDesk dD sLine).1).f.w) := fun W' h => cell_keep (cell_keep (p := ⟨w5.heap.size, 1, none⟩) (v := .int .i64 ((mDesk dD sLine).1).f.w) (by simp [go_sem]) hbw6) h
 have k_g0_2 : ∀ W', Below w6.heap.size w6 W' → W'.cell? ⟨w5.heap.size, 2, none⟩ = some (.int .i64 ((mDesk dD sLine).1).f.h) := fun W' h => cell_keep (cell_keep (p := ⟨w5.heap.size, 2, none⟩) (v := .int .i64 ((mDesk dD sLine).1).f.h) (by simp [go_sem]) hbw6) h
 have k_g0_3 : ∀ W', Below w6.heap.size w6 W' → W'.cell? ⟨w5.heap.size, 3, none⟩ = some (.int .i64 ((mDesk dD sLine).1).f.j) := fun W' h => cell_keep (cell_keep (p := ⟨w5.heap.size, 3, none⟩) (v := .int .i64 ((mDesk dD sLine).1).f.j) (by simp [go_sem]) hbw6) h
 have k_g0_4 : ∀ W', Below w6.heap.size w6 W' → W'.cell? ⟨w5.heap.size, 4, none⟩ = some (.string ((mDesk dD sLine).1).nm) := fun W' h => cell_keep (cell_keep (p := ⟨w5.heap.size, 4, none⟩) (v := .string ((mDesk dD sLine).1).nm) (by simp [go_sem]) hbw6) h
 have k_g0_5 : ∀ W', Below w6.heap.size w6 W' → W'.cell? ⟨w5.heap.size, 5, none⟩ = some (.slice Aw5_0 ((mDesk dD sLine).1).cs.length cw5_0) := fun W' h => cell_keep (cell_keep (p := ⟨w5.heap.size, 5, none⟩) (v := .slice Aw5_0 ((mDesk dD sLine).1).cs.length cw5_0) (by simp [go_sem]) hbw6) h
 have k_g0_6 : ∀ W', Below w6.heap.size w6 W' → W'.cell? ⟨w5.heap.size, 6, none⟩ = some (.slice Bw5_0 ((mDesk dD sLine).1).wall.length ew5_0) := fun W' h => cell_keep (cell_keep (p := ⟨w5.heap.size, 6, none⟩) (v := .slice Bw5_0 ((mDesk dD sLine).1).wall.length ew5_0) (by simp [go_sem]) hbw6) h
 have k_g0_7 : ∀ W', Below w6.heap.size w6 W' → W'.cell? ⟨w5.heap.size, 7, none⟩ = some (.string ((mDesk dD sLine).1).log) := fun W' h => cell_keep (cell_keep (p := ⟨w5.heap.size, 7, none⟩) (v := .string ((mDesk dD sLine).1).log) (by simp [go_sem]) hbw6) h
 have kk : ∀ {p : Addr} {v : Value}, (∀ W', Below w5.heap.size w5 W' → W'.cell? p = some v) → ∀ W', Below w6.heap.size w6 W' → W'.cell? p = some v := fun f W' h => f W' (ext_trans (ext_trans hL hcw6) h)
 replace k_aD_0 := kk k_aD_0; replace k_aD_1 := kk k_aD_1; replace k_aD_2 := kk k_aD_2; replace k_aD_3 := kk k_aD_3; replace k_aD_4 := kk k_aD_4; replace k_aD_5 := kk k_aD_5; replace k_aD_6 := kk k_aD_6; replace k_aD_7 := kk k_aD_7
 replace k_w0_0 := kk k_w0_0; replace k_w0_1 := kk k_w0_1; replace k_w0_2 := kk k_w0_2; replace k_w0_3 := kk k_w0_3; replace k_w0_4 := kk k_w0_4; replace k_w0_5 := kk k_w0_5; replace k_w0_6 := kk k_w0_6; replace k_w0_7 := kk k_w0_7
 replace k_x0_0 := kk k_x0_0; replace k_x0_1 := kk k_x0_1; replace k_x0_2 := kk k_x0_2; replace k_x0_3 := kk k_x0_3; replace k_x0_4 := kk k_x0_4; replace k_x0_5 := kk k_x0_5; replace k_x0_6 := kk k_x0_6; replace k_x0_7 := kk k_x0_7
 clear kk
 clear hL haL
 have hL : Below w6.heap.size w6 w6 := ext_refl _
 have haL : ∀ o, Below w6.heap.size w6 (w6.alloc o) := fun o => ext_alloc hL o
 clear hbw6 hcw6
 go_wp2_with fail
 refine (eq_Str _ _ ((mDesk dD sLine).2.1) _ ((HO_g1.out.ext (ext_refl _)).rd) ((HO_w1.out.ext (ext_refl _)).rd)).mono ?_
 rintro e w7 ⟨rfl, hbw7⟩
 have hcw7 : Below w6.heap.size w6 w7 := ext_trans (ext_refl _) hbw7
 have HW_ : Hid (Below w.heap.size w w7) := Lib.hid (ext_trans HW.out hcw7)
 have zw7 := hcw7.size
 have HO_w0_ := Lib.hid (HO_w0.out.ext hcw7); clear HO_w0; have HO_w0 := HO_w0_; clear HO_w0_
 have HO_w1_ := Lib.hid (HO_w1.out.ext hcw7); clear HO_w1; have HO_w1 := HO_w1_; clear HO_w1_
 have HO_x0_ := Lib.hid (HO_x0.out.ext hcw7); clear HO_x0; have HO_x0 := HO_x0_; clear HO_x0_
 have HO_g0_ := Lib.hid (HO_g0.out.ext hcw7); clear HO_g0; have HO_g0 := HO_g0_; clear HO_g0_
 have HO_g1_ := Lib.hid (HO_g1.out.ext hcw7); clear HO_g1; have HO_g1 := HO_g1_; clear HO_g1_
 clear HW; have HW := HW_; clear HW_
 replace hL : Below w6.heap.size w6 w7 := ext_trans hL hcw7
 clear haL
 have haL : ∀ o, Below w6.heap.size w6 (w7.alloc o) := fun o => ext_alloc hL o
 clear hbw7 hcw7
 go_wp2_with fail
 go_region_held3 (fun w' => Below w6.heap.size w6 w') (first | exact ext_drew hL | exact ext_trans (by assumption) (by assumption) | assumption)
   (first
     | (go_at_call 10; (have ht := to_DK _ dD _ (HRD.out _ (ext_trans HW.out (ext_drew (ext_refl _)))) SmD.out); (with_reducible refine ht.mono ?_); clear ht; rintro e w8 ⟨vw8, rfl, hOw8, hbw8⟩)
     | (go_at_call 12; (have ht := eq_DK _ _ dD _ ((HO_x0.out.ext (ext_trans (ext_drew (ext_refl _)) hbw8)).rd) hOw8.rd); (with_reducible refine ht.mono ?_); clear ht; rintro e w9 ⟨rfl, hbw9⟩)
     | fail)
 have hcw9 : Below w7.heap.size w7 w9 := (ext_trans (ext_trans (ext_drew (ext_refl _)) hbw8) hbw9)
 have HW_ : Hid (Below w.heap.size w w9) := Lib.hid (ext_trans HW.out hcw9)
 have zw9 := hcw9.size
 have HO_w0_ := Lib.hid (HO_w0.out.ext hcw9); clear HO_w0; have HO_w0 := HO_w0_; clear HO_w0_
 have HO_w1_ := Lib.hid (HO_w1.out.ext hcw9); clear HO_w1; have HO_w1 := HO_w1_; clear HO_w1_
 have HO_x0_ := Lib.hid (HO_x0.out.ext hcw9); clear HO_x0; have HO_x0 := HO_x0_; clear HO_x0_
 have HO_g0_ := Lib.hid (HO_g0.out.ext hcw9); clear HO_g0; have HO_g0 := HO_g0_; clear HO_g0_
 have HO_g1_ := Lib.hid (HO_g1.out.ext hcw9); clear HO_g1; have HO_g1 := HO_g1_; clear HO_g1_
 clear HW; have HW := HW_; clear HW_
 replace hL : Below w6.heap.size w6 w9 := ext_trans hL hcw9
 clear haL
 have haL : ∀ o, Below w6.heap.size w6 (w9.alloc o) := fun o => ext_alloc hL o
 clear hcw9 hbw8 hbw9
 clear hOw8
 go_wp2_with fail
 refine (mark_DK _ _ dD 1 (by omega) (by first | omega | (have q_D := SmD.out; unfold SmDK totDK at q_D; have q_w0 := SM_w0.out; unfold SmDK totDK at q_w0; have q_w1 := SM_w1.out; unfold SmStr at q_w1; have q_g0 := SM_g0.out; unfold SmDK totDK at q_g0; have q_g1 := SM_g1.out; unfold SmStr at q_g1; omega)) _ SmD.out (HO_x0.out.ext (ext_refl _))).mono ?_
 rintro e w10 ⟨rfl, hOw10, hgw10⟩
 have zw10 := hgw10.size
 have HW_ : Hid (Below w.heap.size w w10) := Lib.hid (Chg.ext (ext_trans HW.out (ext_refl _)) hgw10 (fun k hk => by have := HB_x0.out k hk; omega)); clear HW; have HW := HW_; clear HW_
 have HO_w0_ := Lib.hid ((HO_w0.out.ext (ext_refl _)).chg hgw10 (fun k hk hs => by have h1 := HB_w0.out k hk; have h2 := HB_x0.out k hs; omega)); clear HO_w0; have HO_w0 := HO_w0_; clear HO_w0_
 have HO_w1_ := Lib.hid ((HO_w1.out.ext (ext_refl _)).chg hgw10 (fun k hk hs => by have h1 := HB_w1.out k hk; have h2 := HB_x0.out k hs; omega)); clear HO_w1; have HO_w1 := HO_w1_; clear HO_w1_
 have HO_g0_ := Lib.hid ((HO_g0.out.ext (ext_refl _)).chg hgw10 (fun k hk hs => by have h1 := HB_g0.out k hk; have h2 := HB_x0.out k hs; omega)); clear HO_g0; have HO_g0 := HO_g0_; clear HO_g0_
 have HO_g1_ := Lib.hid ((HO_g1.out.ext (ext_refl _)).chg hgw10 (fun k hk hs => by have h1 := HB_g1.out k hk; have h2 := HB_x0.out k hs; omega)); clear HO_g1; have HO_g1 := HO_g1_; clear HO_g1_
 clear HO_x0; have HO_x0 := Lib.hid hOw10; clear hOw10
 have kk : ∀ {j : Nat} {v : Value}, (∀ W', Below w6.heap.size w6 W' → W'.cell? ⟨w.heap.size, j, none⟩ = some v) → ∀ W', Below w10.heap.size w10 W' → W'.cell? ⟨w.heap.size, j, none⟩ = some v := fun f W' h => cell_keep (hgw10.cell (f _ hL) (fun hs => by have h2 := HB_x0.out (w.heap.size) hs; omega)) h
 replace k_aD_0 := kk k_aD_0; replace k_aD_1 := kk k_aD_1; replace k_aD_2 := kk k_aD_2; replace k_aD_3 := kk k_aD_3; replace k_aD_4 := kk k_aD_4; replace k_aD_5 := kk k_aD_5; replace k_aD_6 := kk k_aD_6; replace k_aD_7 := kk k_aD_7
 clear kk
 have kk : ∀ {j : Nat} {v : Value}, (∀ W', Below w6.heap.size w6 W' → W'.cell? ⟨w3.heap.size, j, none⟩ = some v) → ∀ W', Below w10.heap.size w10 W' → W'.cell? ⟨w3.heap.size, j, none⟩ = some v := fun f W' h => cell_keep (hgw10.cell (f _ hL) (fun hs => by have h2 := HB_x0.out (w3.heap.size) hs; omega)) h
 replace k_w0_0 := kk k_w0_0; replace k_w0_1 := kk k_w0_1; replace k_w0_2 := kk k_w0_2; replace k_w0_3 := kk k_w0_3; replace k_w0_4 := kk k_w0_4; replace k_w0_5 := kk k_w0_5; replace k_w0_6 := kk k_w0_6; replace k_w0_7 := kk k_w0_7
 clear kk
 have kk : ∀ {j : Nat} {v : Value}, (∀ W', Below w6.heap.size w6 W' → W'.cell? ⟨w4.heap.size, j, none⟩ = some v) → ∀ W', Below w10.heap.size w10 W' → W'.cell? ⟨w4.heap.size, j, none⟩ = some v := fun f W' h => cell_keep (hgw10.cell (f _ hL) (fun hs => by have h2 := HB_x0.out (w4.heap.size) hs; omega)) h
 replace k_x0_0 := kk k_x0_0; replace k_x0_1 := kk k_x0_1; replace k_x0_2 := kk k_x0_2; replace k_x0_3 := kk k_x0_3; replace k_x0_4 := kk k_x0_4; replace k_x0_5 := kk k_x0_5; replace k_x0_6 := kk k_x0_6; replace k_x0_7 := kk k_x0_7
 clear kk
 have kk : ∀ {j : Nat} {v : Value}, (∀ W', Below w6.heap.size w6 W' → W'.cell? ⟨w5.heap.size, j, none⟩ = some v) → ∀ W', Below w10.heap.size w10 W' → W'.cell? ⟨w5.heap.size, j, none⟩ = some v := fun f W' h => cell_keep (hgw10.cell (f _ hL) (fun hs => by have h2 := HB_x0.out (w5.heap.size) hs; omega)) h
 replace k_g0_0 := kk k_g0_0; replace k_g0_1 := kk k_g0_1; replace k_g0_2 := kk k_g0_2; replace k_g0_3 := kk k_g0_3; replace k_g0_4 := kk k_g0_4; replace k_g0_5 := kk k_g0_5; replace k_g0_6 := kk k_g0_6; replace k_g0_7 := kk k_g0_7
 clear kk
 clear hL haL
 have hL : Below w10.heap.size w10 w10 := ext_refl _
 have haL : ∀ o, Below w10.heap.size w10 (w10.alloc o) := fun o => ext_alloc hL o
 clear hgw10
 go_wp2_with fail
 refine (eq_DK _ _ ((mDesk dD sLine).1) _ ((HO_g0.out.ext (ext_refl _)).rd) ((HO_w0.out.ext (ext_refl _)).rd)).mono ?_
 rintro e w11 ⟨rfl, hbw11⟩
 have hcw11 : Below w10.heap.size w10 w11 := ext_trans (ext_refl _) hbw11
 have HW_ : Hid (Below w.heap.size w w11) := Lib.hid (ext_trans HW.out hcw11)
 have zw11 := hcw11.size
 have HO_w0_ := Lib.hid (HO_w0.out.ext hcw11); clear HO_w0; have HO_w0 := HO_w0_; clear HO_w0_
 have HO_w1_ := Lib.hid (HO_w1.out.ext hcw11); clear HO_w1; have HO_w1 := HO_w1_; clear HO_w1_
 have HO_x0_ := Lib.hid (HO_x0.out.ext hcw11); clear HO_x0; have HO_x0 := HO_x0_; clear HO_x0_
 have HO_g0_ := Lib.hid (HO_g0.out.ext hcw11); clear HO_g0; have HO_g0 := HO_g0_; clear HO_g0_
 have HO_g1_ := Lib.hid (HO_g1.out.ext hcw11); clear HO_g1; have HO_g1 := HO_g1_; clear HO_g1_
 clear HW; have HW := HW_; clear HW_
 replace hL : Below w10.heap.size w10 w11 := ext_trans hL hcw11
 clear haL
 have haL : ∀ o, Below w10.heap.size w10 (w11.alloc o) := fun o => ext_alloc hL o
 clear hbw11 hcw11
 go_wp2_with fail
 refine (eq_Str _ _ ((mDesk dD sLine).2.1) _ ((HO_g1.out.ext (ext_refl _)).rd) ((HO_w1.out.ext (ext_refl _)).rd)).mono ?_
 rintro e w12 ⟨rfl, hbw12⟩
 have hcw12 : Below w11.heap.size w11 w12 := ext_trans (ext_refl _) hbw12
 have HW_ : Hid (Below w.heap.size w w12) := Lib.hid (ext_trans HW.out hcw12)
 have zw12 := hcw12.size
 have HO_w0_ := Lib.hid (HO_w0.out.ext hcw12); clear HO_w0; have HO_w0 := HO_w0_; clear HO_w0_
 have HO_w1_ := Lib.hid (HO_w1.out.ext hcw12); clear HO_w1; have HO_w1 := HO_w1_; clear HO_w1_
 have HO_x0_ := Lib.hid (HO_x0.out.ext hcw12); clear HO_x0; have HO_x0 := HO_x0_; clear HO_x0_
 have HO_g0_ := Lib.hid (HO_g0.out.ext hcw12); clear HO_g0; have HO_g0 := HO_g0_; clear HO_g0_
 have HO_g1_ := Lib.hid (HO_g1.out.ext hcw12); clear HO_g1; have HO_g1 := HO_g1_; clear HO_g1_
 clear HW; have HW := HW_; clear HW_
 replace hL : Below w10.heap.size w10 w12 := ext_trans hL hcw12
 clear haL
 have haL : ∀ o, Below w10.heap.size w10 (w12.alloc o) := fun o => ext_alloc hL o
 clear hbw12 hcw12
 go_wp2_with fail
 refine (mark_DK _ _ ((mDesk dD sLine).1) 1 (by omega) (by first | omega | (have q_D := SmD.out; unfold SmDK totDK at q_D; have q_w0 := SM_w0.out; unfold SmDK totDK at q_w0; have q_w1 := SM_w1.out; unfold SmStr at q_w1; have q_g0 := SM_g0.out; unfold SmDK totDK at q_g0; have q_g1 := SM_g1.out; unfold SmStr at q_g1; omega)) _ SM_g0.out (HO_g0.out.ext (ext_refl _))).mono ?_
 rintro e w13 ⟨rfl, hOw13, hgw13⟩
 have zw13 := hgw13.size
 have HW_ : Hid (Below w.heap.size w w13) := Lib.hid (Chg.ext (ext_trans HW.out (ext_refl _)) hgw13 (fun k hk => by have := HB_g0.out k hk; omega)); clear HW; have HW := HW_; clear HW_
 have HO_w0_ := Lib.hid ((HO_w0.out.ext (ext_refl _)).chg hgw13 (fun k hk hs => by have h1 := HB_w0.out k hk; have h2 := HB_g0.out k hs; omega)); clear HO_w0; have HO_w0 := HO_w0_; clear HO_w0_
 have HO_w1_ := Lib.hid ((HO_w1.out.ext (ext_refl _)).chg hgw13 (fun k hk hs => by have h1 := HB_w1.out k hk; have h2 := HB_g0.out k hs; omega)); clear HO_w1; have HO_w1 := HO_w1_; clear HO_w1_
 have HO_x0_ := Lib.hid ((HO_x0.out.ext (ext_refl _)).chg hgw13 (fun k hk hs => by have h1 := HB_x0.out k hk; have h2 := HB_g0.out k hs; omega)); clear HO_x0; have HO_x0 := HO_x0_; clear HO_x0_
 have HO_g1_ := Lib.hid ((HO_g1.out.ext (ext_refl _)).chg hgw13 (fun k hk hs => by have h1 := HB_g1.out k hk; have h2 := HB_g0.out k hs; (first | omega | exact hapw3 k hs hk | exact hapw3 k hk hs | exact hapw5 k hs hk | exact hapw5 k hk hs))); clear HO_g1; have HO_g1 := HO_g1_; clear HO_g1_
 clear HO_g0; have HO_g0 := Lib.hid hOw13; clear hOw13
 have kk : ∀ {j : Nat} {v : Value}, (∀ W', Below w10.heap.size w10 W' → W'.cell? ⟨w.heap.size, j, none⟩ = some v) → ∀ W', Below w13.heap.size w13 W' → W'.cell? ⟨w.heap.size, j, none⟩ = some v := fun f W' h => cell_keep (hgw13.cell (f _ hL) (fun hs => by have h2 := HB_g0.out (w.heap.size) hs; omega)) h
 replace k_aD_0 := kk k_aD_0; replace k_aD_1 := kk k_aD_1; replace k_aD_2 := kk k_aD_2; replace k_aD_3 := kk k_aD_3; replace k_aD_4 := kk k_aD_4; replace k_aD_5 := kk k_aD_5; replace k_aD_6 := kk k_aD_6; replace k_aD_7 := kk k_aD_7
 clear kk
 have kk : ∀ {j : Nat} {v : Value}, (∀ W', Below w10.heap.size w10 W' → W'.cell? ⟨w3.heap.size, j, none⟩ = some v) → ∀ W', Below w13.heap.size w13 W' → W'.cell? ⟨w3.heap.size, j, none⟩ = some v := fun f W' h => cell_keep (hgw13.cell (f _ hL) (fun hs => by have h2 := HB_g0.out (w3.heap.size) hs; omega)) h
 replace k_w0_0 := kk k_w0_0; replace k_w0_1 := kk k_w0_1; replace k_w0_2 := kk k_w0_2; replace k_w0_3 := kk k_w0_3; replace k_w0_4 := kk k_w0_4; replace k_w0_5 := kk k_w0_5; replace k_w0_6 := kk k_w0_6; replace k_w0_7 := kk k_w0_7
 clear kk
 have kk : ∀ {j : Nat} {v : Value}, (∀ W', Below w10.heap.size w10 W' → W'.cell? ⟨w4.heap.size, j, none⟩ = some v) → ∀ W', Below w13.heap.size w13 W' → W'.cell? ⟨w4.heap.size, j, none⟩ = some v := fun f W' h => cell_keep (hgw13.cell (f _ hL) (fun hs => by have h2 := HB_g0.out (w4.heap.size) hs; omega)) h
 replace k_x0_0 := kk k_x0_0; replace k_x0_1 := kk k_x0_1; replace k_x0_2 := kk k_x0_2; replace k_x0_3 := kk k_x0_3; replace k_x0_4 := kk k_x0_4; replace k_x0_5 := kk k_x0_5; replace k_x0_6 := kk k_x0_6; replace k_x0_7 := kk k_x0_7
 clear kk
 have kk : ∀ {j : Nat} {v : Value}, (∀ W', Below w10.heap.size w10 W' → W'.cell? ⟨w5.heap.size, j, none⟩ = some v) → ∀ W', Below w13.heap.size w13 W' → W'.cell? ⟨w5.heap.size, j, none⟩ = some v := fun f W' h => cell_keep (hgw13.cell (f _ hL) (fun hs => by have h2 := HB_g0.out (w5.heap.size) hs; omega)) h
 replace k_g0_0 := kk k_g0_0; replace k_g0_1 := kk k_g0_1; replace k_g0_2 := kk k_g0_2; replace k_g0_3 := kk k_g0_3; replace k_g0_4 := kk k_g0_4; replace k_g0_5 := kk k_g0_5; replace k_g0_6 := kk k_g0_6; replace k_g0_7 := kk k_g0_7
 clear kk
 clear hL haL
 have hL : Below w13.heap.size w13 w13 := ext_refl _
 have haL : ∀ o, Below w13.heap.size w13 (w13.alloc o) := fun o => ext_alloc hL o
 clear hgw13
 go_wp2_with fail
 refine (mark_Str _ _ ((mDesk dD sLine).2.1) (1 + (2 * (((mDesk dD sLine).1).cs.length : Int) + (((mDesk dD sLine).1).wall.length : Int))) (by omega) (by first | omega | (have q_D := SmD.out; unfold SmDK totDK at q_D; have q_w0 := SM_w0.out; unfold SmDK totDK at q_w0; have q_w1 := SM_w1.out; unfold SmStr at q_w1; have q_g0 := SM_g0.out; unfold SmDK totDK at q_g0; have q_g1 := SM_g1.out; unfold SmStr at q_g1; omega)) _ SM_g1.out (HO_g1.out.ext (ext_refl _))).mono ?_
 rintro e w14 ⟨rfl, hOw14, hgw14⟩
 have zw14 := hgw14.size
 have HW_ : Hid (Below w.heap.size w w14) := Lib.hid (Chg.ext (ext_trans HW.out (ext_refl _)) hgw14 (fun k hk => by have := HB_g1.out k hk; omega)); clear HW; have HW := HW_; clear HW_
 have HO_w0_ := Lib.hid ((HO_w0.out.ext (ext_refl _)).chg hgw14 (fun k hk hs => by have h1 := HB_w0.out k hk; have h2 := HB_g1.out k hs; omega)); clear HO_w0; have HO_w0 := HO_w0_; clear HO_w0_
 have HO_w1_ := Lib.hid ((HO_w1.out.ext (ext_refl _)).chg hgw14 (fun k hk hs => by have h1 := HB_w1.out k hk; have h2 := HB_g1.out k hs; omega)); clear HO_w1; have HO_w1 := HO_w1_; clear HO_w1_
 have HO_x0_ := Lib.hid ((HO_x0.out.ext (ext_refl _)).chg hgw14 (fun k hk hs => by have h1 := HB_x0.out k hk; have h2 := HB_g1.out k hs; omega)); clear HO_x0; have HO_x0 := HO_x0_; clear HO_x0_
 have HO_g0_ := Lib.hid ((HO_g0.out.ext (ext_refl _)).chg hgw14 (fun k hk hs => by have h1 := HB_g0.out k hk; have h2 := HB_g1.out k hs; (first | omega | exact hapw3 k hs hk | exact hapw3 k hk hs | exact hapw5 k hs hk | exact hapw5 k hk hs))); clear HO_g0; have HO_g0 := HO_g0_; clear HO_g0_
 clear HO_g1; have HO_g1 := Lib.hid hOw14; clear hOw14
 have kk : ∀ {j : Nat} {v : Value}, (∀ W', Below w13.heap.size w13 W' → W'.cell? ⟨w.heap.size, j, none⟩ = some v) → ∀ W', Below w14.heap.size w14 W' → W'.cell? ⟨w.heap.size, j, none⟩ = some v := fun f W' h => cell_keep (hgw14.cell (f _ hL) (fun hs => by have h2 := HB_g1.out (w.heap.size) hs; omega)) h
 replace k_aD_0 := kk k_aD_0; replace k_aD_1 := kk k_aD_1; replace k_aD_2 := kk k_aD_2; replace k_aD_3 := kk k_aD_3; replace k_aD_4 := kk k_aD_4; replace k_aD_5 := kk k_aD_5; replace k_aD_6 := kk k_aD_6; replace k_aD_7 := kk k_aD_7
 clear kk
 have kk : ∀ {j : Nat} {v : Value}, (∀ W', Below w13.heap.size w13 W' → W'.cell? ⟨w3.heap.size, j, none⟩ = some v) → ∀ W', Below w14.heap.size w14 W' → W'.cell? ⟨w3.heap.size, j, none⟩ = some v := fun f W' h => cell_keep (hgw14.cell (f _ hL) (fun hs => by have h2 := HB_g1.out (w3.heap.size) hs; omega)) h
 replace k_w0_0 := kk k_w0_0; replace k_w0_1 := kk k_w0_1; replace k_w0_2 := kk k_w0_2; replace k_w0_3 := kk k_w0_3; replace k_w0_4 := kk k_w0_4; replace k_w0_5 := kk k_w0_5; replace k_w0_6 := kk k_w0_6; replace k_w0_7 := kk k_w0_7
 clear kk
 have kk : ∀ {j : Nat} {v : Value}, (∀ W', Below w13.heap.size w13 W' → W'.cell? ⟨w4.heap.size, j, none⟩ = some v) → ∀ W', Below w14.heap.size w14 W' → W'.cell? ⟨w4.heap.size, j, none⟩ = some v := fun f W' h => cell_keep (hgw14.cell (f _ hL) (fun hs => by have h2 := HB_g1.out (w4.heap.size) hs; omega)) h
 replace k_x0_0 := kk k_x0_0; replace k_x0_1 := kk k_x0_1; replace k_x0_2 := kk k_x0_2; replace k_x0_3 := kk k_x0_3; replace k_x0_4 := kk k_x0_4; replace k_x0_5 := kk k_x0_5; replace k_x0_6 := kk k_x0_6; replace k_x0_7 := kk k_x0_7
 clear kk
 have kk : ∀ {j : Nat} {v : Value}, (∀ W', Below w13.heap.size w13 W' → W'.cell? ⟨w5.heap.size, j, none⟩ = some v) → ∀ W', Below w14.heap.size w14 W' → W'.cell? ⟨w5.heap.size, j, none⟩ = some v := fun f W' h => cell_keep (hgw14.cell (f _ hL) (fun hs => by have h2 := HB_g1.out (w5.heap.size) hs; omega)) h
 replace k_g0_0 := kk k_g0_0; replace k_g0_1 := kk k_g0_1; replace k_g0_2 := kk k_g0_2; replace k_g0_3 := kk k_g0_3; replace k_g0_4 := kk k_g0_4; replace k_g0_5 := kk k_g0_5; replace k_g0_6 := kk k_g0_6; replace k_g0_7 := kk k_g0_7
 clear kk
 clear hL haL
 have hL : Below w14.heap.size w14 w14 := ext_refl _
 have haL : ∀ o, Below w14.heap.size w14 (w14.alloc o) := fun o => ext_alloc hL o
 clear hgw14
 go_wp2_with fail
 refine (held_DK _ ((mDesk dD sLine).1) 1 (by omega) (by first | omega | (have q_D := SmD.out; unfold SmDK totDK at q_D; have q_w0 := SM_w0.out; unfold SmDK totDK at q_w0; have q_w1 := SM_w1.out; unfold SmStr at q_w1; have q_g0 := SM_g0.out; unfold SmDK totDK at q_g0; have q_g1 := SM_g1.out; unfold SmStr at q_g1; omega)) _ SM_g0.out ((HO_g0.out.ext (ext_refl _)).rd)).mono ?_
 rintro e w15 ⟨rfl, hbw15⟩
 have hcw15 : Below w14.heap.size w14 w15 := ext_trans (ext_refl _) hbw15
 have HW_ : Hid (Below w.heap.size w w15) := Lib.hid (ext_trans HW.out hcw15)
 have zw15 := hcw15.size
 have HO_w0_ := Lib.hid (HO_w0.out.ext hcw15); clear HO_w0; have HO_w0 := HO_w0_; clear HO_w0_
 have HO_w1_ := Lib.hid (HO_w1.out.ext hcw15); clear HO_w1; have HO_w1 := HO_w1_; clear HO_w1_
 have HO_x0_ := Lib.hid (HO_x0.out.ext hcw15); clear HO_x0; have HO_x0 := HO_x0_; clear HO_x0_
 have HO_g0_ := Lib.hid (HO_g0.out.ext hcw15); clear HO_g0; have HO_g0 := HO_g0_; clear HO_g0_
 have HO_g1_ := Lib.hid (HO_g1.out.ext hcw15); clear HO_g1; have HO_g1 := HO_g1_; clear HO_g1_
 clear HW; have HW := HW_; clear HW_
 replace hL : Below w14.heap.size w14 w15 := ext_trans hL hcw15
 clear haL
 have haL : ∀ o, Below w14.heap.size w14 (w15.alloc o) := fun o => ext_alloc hL o
 clear hbw15 hcw15
 go_wp2_with fail
 refine (held_Str _ ((mDesk dD sLine).2.1) (1 + (2 * (((mDesk dD sLine).1).cs.length : Int) + (((mDesk dD sLine).1).wall.length : Int))) (by omega) (by first | omega | (have q_D := SmD.out; unfold SmDK totDK at q_D; have q_w0 := SM_w0.out; unfold SmDK totDK at q_w0; have q_w1 := SM_w1.out; unfold SmStr at q_w1; have q_g0 := SM_g0.out; unfold SmDK totDK at q_g0; have q_g1 := SM_g1.out; unfold SmStr at q_g1; omega)) _ SM_g1.out ((HO_g1.out.ext (ext_refl _)).rd)).mono ?_
 rintro e w16 ⟨rfl, hbw16⟩
 have hcw16 : Below w15.heap.size w15 w16 := ext_trans (ext_refl _) hbw16
 have HW_ : Hid (Below w.heap.size w w16) := Lib.hid (ext_trans HW.out hcw16)
 have zw16 := hcw16.size
 have HO_w0_ := Lib.hid (HO_w0.out.ext hcw16); clear HO_w0; have HO_w0 := HO_w0_; clear HO_w0_
 have HO_w1_ := Lib.hid (HO_w1.out.ext hcw16); clear HO_w1; have HO_w1 := HO_w1_; clear HO_w1_
 have HO_x0_ := Lib.hid (HO_x0.out.ext hcw16); clear HO_x0; have HO_x0 := HO_x0_; clear HO_x0_
 have HO_g0_ := Lib.hid (HO_g0.out.ext hcw16); clear HO_g0; have HO_g0 := HO_g0_; clear HO_g0_
 have HO_g1_ := Lib.hid (HO_g1.out.ext hcw16); clear HO_g1; have HO_g1 := HO_g1_; clear HO_g1_
 clear HW; have HW := HW_; clear HW_
 replace hL : Below w14.heap.size w14 w16 := ext_trans hL hcw16
 clear haL
 have haL : ∀ o, Below w14.heap.size w14 (w16.alloc o) := fun o => ext_alloc hL o
 clear hbw16 hcw16
 go_wp2_with fail
 refine (to_DK _ dD _ (HRD.out _ (ext_trans HW.out (ext_refl _))) SmD.out).mono ?_
 rintro e w17 ⟨vw17, rfl, hOw17, hbw17⟩
 go_wp2_with fail
 refine (impl_DeskCommandL _ dD sLine _ hOw17.rd SmD.out HSLine.out (HEV.out _ (ext_trans HW.out (ext_trans (ext_refl _) hbw17)))).mono ?_
 rintro e w18 ⟨vw18_0, vw18_1, rfl, ⟨Aw18_0, cw18_0, Bw18_0, ew18_0, rfl, hOw18_0⟩, hsmw18_0, hOw18_1, hsmw18_1, hapw18, hbw18⟩
 have hcw18 : Below w16.heap.size w16 w18 := (ext_trans (ext_trans (ext_refl _) hbw17) hbw18)
 have HW_ : Hid (Below w.heap.size w w18) := Lib.hid (ext_trans HW.out hcw18)
 have zw18 := hcw18.size
 have HO_w0_ := Lib.hid (HO_w0.out.ext hcw18); clear HO_w0; have HO_w0 := HO_w0_; clear HO_w0_
 have HO_w1_ := Lib.hid (HO_w1.out.ext hcw18); clear HO_w1; have HO_w1 := HO_w1_; clear HO_w1_
 have HO_x0_ := Lib.hid (HO_x0.out.ext hcw18); clear HO_x0; have HO_x0 := HO_x0_; clear HO_x0_
 have HO_g0_ := Lib.hid (HO_g0.out.ext hcw18); clear HO_g0; have HO_g0 := HO_g0_; clear HO_g0_
 have HO_g1_ := Lib.hid (HO_g1.out.ext hcw18); clear HO_g1; have HO_g1 := HO_g1_; clear HO_g1_
 clear HW; have HW := HW_; clear HW_
 replace hL : Below w14.heap.size w14 w18 := ext_trans hL hcw18
 clear haL
 have haL : ∀ o, Below w14.heap.size w14 (w18.alloc o) := fun o => ext_alloc hL o
 clear hcw18 hbw17 hbw18
 clear hOw17
 have hOO : ODK w18 (w17.heap.size) (.agg #[.int .i64 ((mDesk dD sLine).1).f.l, .int .i64 ((mDesk dD sLine).1).f.w, .int .i64 ((mDesk dD sLine).1).f.h, .int .i64 ((mDesk dD sLine).1).f.j, .string ((mDesk dD sLine).1).nm, .slice Aw18_0 ((mDesk dD sLine).1).cs.length cw18_0, .slice Bw18_0 ((mDesk dD sLine).1).wall.length ew18_0, .string ((mDesk dD sLine).1).log]) ((mDesk dD sLine).1) := ⟨_, _, _, _, rfl, hOw18_0⟩
 have HB_h0 : Hid (∀ k, BDK (.agg #[.int .i64 ((mDesk dD sLine).1).f.l, .int .i64 ((mDesk dD sLine).1).f.w, .int .i64 ((mDesk dD sLine).1).f.h, .int .i64 ((mDesk dD sLine).1).f.j, .string ((mDesk dD sLine).1).nm, .slice Aw18_0 ((mDesk dD sLine).1).cs.length cw18_0, .slice Bw18_0 ((mDesk dD sLine).1).wall.length ew18_0, .string ((mDesk dD sLine).1).log]) k → w17.heap.size ≤ k ∧ k < w18.heap.size) := Lib.hid hOO.ge
 have HO_h0 := Lib.hid hOO; clear hOO
 have SM_h0 := Lib.hid hsmw18_0; clear hsmw18_0
 have HB_h1 : Hid (∀ k, BStr (vw18_1) k → w17.heap.size ≤ k ∧ k < w18.heap.size) := Lib.hid hOw18_1.ge
 have HO_h1 := Lib.hid hOw18_1; clear hOw18_1
 have SM_h1 := Lib.hid hsmw18_1; clear hsmw18_1
 go_wp2_with fail
 refine (eq_DK _ _ ((mDesk dD sLine).1) _ ((HO_h0.out.ext (ext_alloc (ext_refl _) _)).rd) ((HO_w0.out.ext (ext_alloc (ext_refl _) _)).rd)).mono ?_
 rintro e w19 ⟨rfl, hbw19⟩
 have hcw19 : Below w18.heap.size w18 w19 := ext_trans (ext_alloc (ext_refl _) _) hbw19
 have HW_ : Hid (Below w.heap.size w w19) := Lib.hid (ext_trans HW.out hcw19)
 have zw19 := hcw19.size
 have HO_w0_ := Lib.hid (HO_w0.out.ext hcw19); clear HO_w0; have HO_w0 := HO_w0_; clear HO_w0_
 have HO_w1_ := Lib.hid (HO_w1.out.ext hcw19); clear HO_w1; have HO_w1 := HO_w1_; clear HO_w1_
 have HO_x0_ := Lib.hid (HO_x0.out.ext hcw19); clear HO_x0; have HO_x0 := HO_x0_; clear HO_x0_
 have HO_g0_ := Lib.hid (HO_g0.out.ext hcw19); clear HO_g0; have HO_g0 := HO_g0_; clear HO_g0_
 have HO_g1_ := Lib.hid (HO_g1.out.ext hcw19); clear HO_g1; have HO_g1 := HO_g1_; clear HO_g1_
 have HO_h0_ := Lib.hid (HO_h0.out.ext hcw19); clear HO_h0; have HO_h0 := HO_h0_; clear HO_h0_
 have HO_h1_ := Lib.hid (HO_h1.out.ext hcw19); clear HO_h1; have HO_h1 := HO_h1_; clear HO_h1_
 clear HW; have HW := HW_; clear HW_
 have yw19 := Below.size hbw19
 simp only [World.size_alloc] at yw19
 have k_h0_0 : ∀ W', Below w19.heap.size w19 W' → W'.cell? ⟨w18.heap.size, 0, none⟩ = some (.int .i64 ((mDesk dD sLine).1).f.l) := fun W' h => cell_keep (cell_keep (p := ⟨w18.heap.size, 0, none⟩) (v := .int .i64 ((mDesk dD sLine).1).f.l) (by simp [go_sem]) hbw19) h
 have k_h0_1 : ∀ W', Below w19.heap.size w19 W' → W'.cell? ⟨w18.heap.size, 1, none⟩ = some (.int .i64 ((mDesk dD sLine).1).f.w) := fun W' h => cell_keep (cell_keep (p := ⟨w18.heap.size, 1, none⟩) (v := .int .i64 ((mDesk dD sLine).1).f.w) (by simp [go_sem]) hbw19) h
 have k_h0_2 : ∀ W', Below w19.heap.size w19 W' → W'.cell? ⟨w18.heap.size, 2, none⟩ = some (.int .i64 ((mDesk dD sLine).1).f.h) := fun W' h => cell_keep (cell_keep (p := ⟨w18.heap.size, 2, none⟩) (v := .int .i64 ((mDesk dD sLine).1).f.h) (by simp [go_sem]) hbw19) h
 have k_h0_3 : ∀ W', Below w19.heap.size w19 W' → W'.cell? ⟨w18.heap.size, 3, none⟩ = some (.int .i64 ((mDesk dD sLine).1).f.j) := fun W' h => cell_keep (cell_keep (p := ⟨w18.heap.size, 3, none⟩) (v := .int .i64 ((mDesk dD sLine).1).f.j) (by simp [go_sem]) hbw19) h
 have k_h0_4 : ∀ W', Below w19.heap.size w19 W' → W'.cell? ⟨w18.heap.size, 4, none⟩ = some (.string ((mDesk dD sLine).1).nm) := fun W' h => cell_keep (cell_keep (p := ⟨w18.heap.size, 4, none⟩) (v := .string ((mDesk dD sLine).1).nm) (by simp [go_sem]) hbw19) h
 have k_h0_5 : ∀ W', Below w19.heap.size w19 W' → W'.cell? ⟨w18.heap.size, 5, none⟩ = some (.slice Aw18_0 ((mDesk dD sLine).1).cs.length cw18_0) := fun W' h => cell_keep (cell_keep (p := ⟨w18.heap.size, 5, none⟩) (v := .slice Aw18_0 ((mDesk dD sLine).1).cs.length cw18_0) (by simp [go_sem]) hbw19) h
 have k_h0_6 : ∀ W', Below w19.heap.size w19 W' → W'.cell? ⟨w18.heap.size, 6, none⟩ = some (.slice Bw18_0 ((mDesk dD sLine).1).wall.length ew18_0) := fun W' h => cell_keep (cell_keep (p := ⟨w18.heap.size, 6, none⟩) (v := .slice Bw18_0 ((mDesk dD sLine).1).wall.length ew18_0) (by simp [go_sem]) hbw19) h
 have k_h0_7 : ∀ W', Below w19.heap.size w19 W' → W'.cell? ⟨w18.heap.size, 7, none⟩ = some (.string ((mDesk dD sLine).1).log) := fun W' h => cell_keep (cell_keep (p := ⟨w18.heap.size, 7, none⟩) (v := .string ((mDesk dD sLine).1).log) (by simp [go_sem]) hbw19) h
 have kk : ∀ {p : Addr} {v : Value}, (∀ W', Below w14.heap.size w14 W' → W'.cell? p = some v) → ∀ W', Below w19.heap.size w19 W' → W'.cell? p = some v := fun f W' h => f W' (ext_trans (ext_trans hL hcw19) h)
 replace k_aD_0 := kk k_aD_0; replace k_aD_1 := kk k_aD_1; replace k_aD_2 := kk k_aD_2; replace k_aD_3 := kk k_aD_3; replace k_aD_4 := kk k_aD_4; replace k_aD_5 := kk k_aD_5; replace k_aD_6 := kk k_aD_6; replace k_aD_7 := kk k_aD_7
 replace k_w0_0 := kk k_w0_0; replace k_w0_1 := kk k_w0_1; replace k_w0_2 := kk k_w0_2; replace k_w0_3 := kk k_w0_3; replace k_w0_4 := kk k_w0_4; replace k_w0_5 := kk k_w0_5; replace k_w0_6 := kk k_w0_6; replace k_w0_7 := kk k_w0_7
 replace k_x0_0 := kk k_x0_0; replace k_x0_1 := kk k_x0_1; replace k_x0_2 := kk k_x0_2; replace k_x0_3 := kk k_x0_3; replace k_x0_4 := kk k_x0_4; replace k_x0_5 := kk k_x0_5; replace k_x0_6 := kk k_x0_6; replace k_x0_7 := kk k_x0_7
 replace k_g0_0 := kk k_g0_0; replace k_g0_1 := kk k_g0_1; replace k_g0_2 := kk k_g0_2; replace k_g0_3 := kk k_g0_3; replace k_g0_4 := kk k_g0_4; replace k_g0_5 := kk k_g0_5; replace k_g0_6 := kk k_g0_6; replace k_g0_7 := kk k_g0_7
 clear kk
 clear hL haL
 have hL : Below w19.heap.size w19 w19 := ext_refl _
 have haL : ∀ o, Below w19.heap.size w19 (w19.alloc o) := fun o => ext_alloc hL o
 clear hbw19 hcw19
 go_wp2_with fail
 refine (eq_Str _ _ ((mDesk dD sLine).2.1) _ ((HO_h1.out.ext (ext_refl _)).rd) ((HO_w1.out.ext (ext_refl _)).rd)).mono ?_
 rintro e w20 ⟨rfl, hbw20⟩
 have hcw20 : Below w19.heap.size w19 w20 := ext_trans (ext_refl _) hbw20
 have HW_ : Hid (Below w.heap.size w w20) := Lib.hid (ext_trans HW.out hcw20)
 have zw20 := hcw20.size
 have HO_w0_ := Lib.hid (HO_w0.out.ext hcw20); clear HO_w0; have HO_w0 := HO_w0_; clear HO_w0_
 have HO_w1_ := Lib.hid (HO_w1.out.ext hcw20); clear HO_w1; have HO_w1 := HO_w1_; clear HO_w1_
 have HO_x0_ := Lib.hid (HO_x0.out.ext hcw20); clear HO_x0; have HO_x0 := HO_x0_; clear HO_x0_
 have HO_g0_ := Lib.hid (HO_g0.out.ext hcw20); clear HO_g0; have HO_g0 := HO_g0_; clear HO_g0_
 have HO_g1_ := Lib.hid (HO_g1.out.ext hcw20); clear HO_g1; have HO_g1 := HO_g1_; clear HO_g1_
 have HO_h0_ := Lib.hid (HO_h0.out.ext hcw20); clear HO_h0; have HO_h0 := HO_h0_; clear HO_h0_
 have HO_h1_ := Lib.hid (HO_h1.out.ext hcw20); clear HO_h1; have HO_h1 := HO_h1_; clear HO_h1_
 clear HW; have HW := HW_; clear HW_
 replace hL : Below w19.heap.size w19 w20 := ext_trans hL hcw20
 clear haL
 have haL : ∀ o, Below w19.heap.size w19 (w20.alloc o) := fun o => ext_alloc hL o
 clear hbw20 hcw20
 go_wp2_with fail
 refine (held_DK _ ((mDesk dD sLine).1) 1 (by omega) (by first | omega | (have q_D := SmD.out; unfold SmDK totDK at q_D; have q_w0 := SM_w0.out; unfold SmDK totDK at q_w0; have q_w1 := SM_w1.out; unfold SmStr at q_w1; have q_g0 := SM_g0.out; unfold SmDK totDK at q_g0; have q_g1 := SM_g1.out; unfold SmStr at q_g1; have q_h0 := SM_h0.out; unfold SmDK totDK at q_h0; have q_h1 := SM_h1.out; unfold SmStr at q_h1; omega)) _ SM_g0.out ((HO_g0.out.ext (ext_refl _)).rd)).mono ?_
 rintro e w21 ⟨rfl, hbw21⟩
 have hcw21 : Below w20.heap.size w20 w21 := ext_trans (ext_refl _) hbw21
 have HW_ : Hid (Below w.heap.size w w21) := Lib.hid (ext_trans HW.out hcw21)
 have zw21 := hcw21.size
 have HO_w0_ := Lib.hid (HO_w0.out.ext hcw21); clear HO_w0; have HO_w0 := HO_w0_; clear HO_w0_
 have HO_w1_ := Lib.hid (HO_w1.out.ext hcw21); clear HO_w1; have HO_w1 := HO_w1_; clear HO_w1_
 have HO_x0_ := Lib.hid (HO_x0.out.ext hcw21); clear HO_x0; have HO_x0 := HO_x0_; clear HO_x0_
 have HO_g0_ := Lib.hid (HO_g0.out.ext hcw21); clear HO_g0; have HO_g0 := HO_g0_; clear HO_g0_
 have HO_g1_ := Lib.hid (HO_g1.out.ext hcw21); clear HO_g1; have HO_g1 := HO_g1_; clear HO_g1_
 have HO_h0_ := Lib.hid (HO_h0.out.ext hcw21); clear HO_h0; have HO_h0 := HO_h0_; clear HO_h0_
 have HO_h1_ := Lib.hid (HO_h1.out.ext hcw21); clear HO_h1; have HO_h1 := HO_h1_; clear HO_h1_
 clear HW; have HW := HW_; clear HW_
 replace hL : Below w19.heap.size w19 w21 := ext_trans hL hcw21
 clear haL
 have haL : ∀ o, Below w19.heap.size w19 (w21.alloc o) := fun o => ext_alloc hL o
 clear hbw21 hcw21
 go_wp2_with fail
 refine (held_Str _ ((mDesk dD sLine).2.1) (1 + (2 * (((mDesk dD sLine).1).cs.length : Int) + (((mDesk dD sLine).1).wall.length : Int))) (by omega) (by first | omega | (have q_D := SmD.out; unfold SmDK totDK at q_D; have q_w0 := SM_w0.out; unfold SmDK totDK at q_w0; have q_w1 := SM_w1.out; unfold SmStr at q_w1; have q_g0 := SM_g0.out; unfold SmDK totDK at q_g0; have q_g1 := SM_g1.out; unfold SmStr at q_g1; have q_h0 := SM_h0.out; unfold SmDK totDK at q_h0; have q_h1 := SM_h1.out; unfold SmStr at q_h1; omega)) _ SM_g1.out ((HO_g1.out.ext (ext_refl _)).rd)).mono ?_
 rintro e w22 ⟨rfl, hbw22⟩
 have hcw22 : Below w21.heap.size w21 w22 := ext_trans (ext_refl _) hbw22
 have HW_ : Hid (Below w.heap.size w w22) := Lib.hid (ext_trans HW.out hcw22)
 have zw22 := hcw22.size
 have HO_w0_ := Lib.hid (HO_w0.out.ext hcw22); clear HO_w0; have HO_w0 := HO_w0_; clear HO_w0_
 have HO_w1_ := Lib.hid (HO_w1.out.ext hcw22); clear HO_w1; have HO_w1 := HO_w1_; clear HO_w1_
 have HO_x0_ := Lib.hid (HO_x0.out.ext hcw22); clear HO_x0; have HO_x0 := HO_x0_; clear HO_x0_
 have HO_g0_ := Lib.hid (HO_g0.out.ext hcw22); clear HO_g0; have HO_g0 := HO_g0_; clear HO_g0_
 have HO_g1_ := Lib.hid (HO_g1.out.ext hcw22); clear HO_g1; have HO_g1 := HO_g1_; clear HO_g1_
 have HO_h0_ := Lib.hid (HO_h0.out.ext hcw22); clear HO_h0; have HO_h0 := HO_h0_; clear HO_h0_
 have HO_h1_ := Lib.hid (HO_h1.out.ext hcw22); clear HO_h1; have HO_h1 := HO_h1_; clear HO_h1_
 clear HW; have HW := HW_; clear HW_
 replace hL : Below w19.heap.size w19 w22 := ext_trans hL hcw22
 clear haL
 have haL : ∀ o, Below w19.heap.size w19 (w22.alloc o) := fun o => ext_alloc hL o
 clear hbw22 hcw22
 go_wp2_with fail
 go_ret
 exact ⟨rfl, ext_trans HW.out (ext_refl _)⟩
theorem rd_FnExactDeskCommand : ∀ t ∈ Tryz.f4.params.toList, Tryz.prog.readableRec t = true ∧ t < Tryz.prog.types.size := by
 have h : Tryz.f4.params.toList.all (fun t => Tryz.prog.readableRec t && decide (t < Tryz.prog.types.size)) = true := by kernel_rfl
 intro t ht
 have := List.all_eq_true.1 h t ht
 simpa using this
set_option maxRecDepth 100000 in
theorem lifted_FnExactDeskCommand (os : Os) (started : os.Started) (H : Type) (enc : TypeId × Value → H) :
   ReturnsInHanded {} Tryz.checked os 4 .any (fun w args => (Rows.fnExactDeskCommandSpec.pre enc Tryz.prog Tryz.f4 [] false w args ∧ laidMetH Tryz.prog Rows.fnExactDeskCommandRow.laid w) ∧ sizedMet enc Tryz.prog Tryz.f4 (OpenSpec.ofChange Rows.fnExactDeskCommandSpec) false w args)
     (Rows.fnExactDeskCommandSpec.post enc Tryz.prog Tryz.f4 false true false false) := by
 have plain : ∀ w, laidMetH Tryz.prog Rows.fnExactDeskCommandRow.laid w = laidMet Tryz.prog Rows.fnExactDeskCommandRow.laid w := fun w => MakeChecks.laidMetH_plain _ _ _ (by kernel_rfl)
 refine returns_door (C := Tryz.checked) (X := fun w _ => laidMetH Tryz.prog Rows.fnExactDeskCommandRow.laid w) (fun _ _ _ hh h => h.of_heap hh) own_knob started (by kernel_rfl) Tryz.func4
   (ChangeSpec.witness_shaped (enc := enc) (C := Tryz.checked) (os := os) (X := fun w _ => laidMetH Tryz.prog Rows.fnExactDeskCommandRow.laid w) false (World.laidAll Tryz.prog os Rows.fnExactDeskCommandRow.laid) #[.agg #[.int .i64 0, .int .i64 0, .int .i64 0, .int .i64 0, .string ⟨#[]⟩, .slice none 0 0, .slice none 0 0, .string ⟨#[]⟩], .string ⟨#[]⟩] 8 (World.laidAll_os _ _ _)
     (World.shaped_of_ZipB (by kernel_rfl) (by kernel_rfl)) (by kernel_rfl) (by kernel_rfl) (by kernel_rfl)
     (by rw [plain]; exact laidMet_laidAll _ (by kernel_rfl) (by kernel_rfl))) ?_
 intro W base args ds gs before hval0 hW hL hsh
 rw [plain] at hL
 have hEnv : EnvK W := ⟨env_of hL hsh (by simp [Rows.fnExactDeskCommandRow]) (by simp [Rows.fnExactDeskCommandRow, Rows.laid_strconv_ErrSyntax]) (by simp [Rows.fnExactDeskCommandRow, Rows.laid_strconv_ErrRange]), lib_of hL (by simp [Rows.fnExactDeskCommandRow]), cod_of hL (by simp [Rows.fnExactDeskCommandRow])⟩
 have hval : ∀ (j : Nat) t v, Tryz.f4.params[j]? = some t → args[j]? = some v → Value.okWide Tryz.prog W .any base t v := hval0
 have hW' : DataW.Whole enc Tryz.prog Tryz.f4.params.toList (Rows.fnExactDeskCommandSpec).vars false W args.toList ds gs before := hW
 obtain ⟨p, q, hA0, hV, _, hfz, hnd⟩ := hW
 have hA : DataW.TrodAll enc Tryz.prog W 0 (fun _ => true) true Tryz.f4.params.toList args.toList ds p := hA0
 rw [Tryz.params4] at hA hval
 obtain ⟨v0, vs0, d0, ds0, p0, q0, ha0, hd0, hp0, h0, rr0⟩ := trodAll_cons hA
 subst hd0 hp0
 obtain ⟨v1, vs1, d1, ds1, p1, q1, ha1, hd1, hp1, h1, rr1⟩ := trodAll_cons rr0
 subst ha1 hd1 hp1
 obtain ⟨e1, e2, e3⟩ := trodAll_nil rr1
 subst e1 e2 e3
 obtain rfl : args = #[v0, v1] := by cases args; simp_all
 obtain ⟨dg1, dg2, rfl⟩ := gs_two _ _ hV
 obtain ⟨d0, hR0, hl0⟩ := open_DK (hval 0 31 v0 rfl rfl) h0
 obtain ⟨s1, rfl, rfl, rfl, ws1⟩ := Go.ChangeMaps.open_string Tryz.underlying9 (hval 1 9 v1 rfl rfl) h1
 clear hA0 hval0
 refine (law_FnExactDeskCommand v0 d0 s1 W hEnv hR0 hl0 ws1).mono fun e W' ⟨he, hb⟩ => ?_
 subst he
 exact ⟨_, rfl, law_postVs rd_FnExactDeskCommand rfl (fun n hn => vK n (by have h := hn; simp [Rows.fnExactDeskCommandSpec] at h; first | exact h | exact h.symm)) hW' rfl hb⟩
theorem bare_FnExactDeskCommand : Rows.FnExactDeskCommandSaid :=
 OpenClaim.holds_of_wide 4 Tryz.f4 rfl rfl rfl rfl rfl rfl rfl ⟨rfl, rfl, rfl, rfl, rfl⟩ rfl rfl rfl rfl rfl (by kernel_rfl) Tryz.func4 (by kernel_rfl)
   (of_decide_eq_true (by kernel_rfl)) (by unfold Func.isWrapper; first | (rw [if_pos (by decide +kernel)]; kernel_rfl) | (rw [if_neg (by decide +kernel)]; exact ⟨rfl, rfl⟩))
   (fun os started H enc _ => lifted_FnExactDeskCommand os started H enc)
theorem wants_FnExactDeskCommand : Tryz.f4.params.toList.all (fun u => !Tryz.prog.wantsStandIn u) = true := by kernel_rfl
theorem named_FnExactDeskCommand : Tryz.prog.funcNamed "loop.example/g01042/laws.FnExactDeskCommand" = some 4 := by kernel_rfl
theorem holds_FnExactDeskCommand : Rows.FnExactDeskCommandCardSaid :=
 Claim7.holds_tied_plain_at .later [] Rows.fnExactDeskCommandCard.laidKinds true Rows.fnExactDeskCommandCard.stood.harness Rows.fnExactDeskCommandCard.stood.looks
   bare_FnExactDeskCommand (fun _ h => by cases h) (by kernel_rfl) (fun _ h => by cases h) fnExactDeskCommand_row_tie rfl ⟨rfl, rfl⟩ (by kernel_rfl) rfl
   (fun f fn hf hfn => by
     obtain rfl : f = 4 := (Option.some.inj (named_FnExactDeskCommand.symm.trans hf)).symm
     obtain rfl : fn = Tryz.f4 := (Option.some.inj (Tryz.func4.symm.trans hfn)).symm
     exact ⟨by kernel_rfl, fun j t ht => by
       have hm : t ∈ Tryz.f4.params.toList := by simpa using Array.mem_of_getElem? ht
       exact (show Tryz.prog.wantsStandIn t = false by simpa using List.all_eq_true.1 wants_FnExactDeskCommand t hm)⟩)
   (by kernel_rfl)
end Go.Proofs.YtfgopboddkhckaaGreatDoor
