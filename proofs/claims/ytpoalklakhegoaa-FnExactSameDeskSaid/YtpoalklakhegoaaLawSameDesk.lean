/-
  The law FnExactSameDesk: the program answers as the reference, for all arguments; no condition. The walk and the row; printed by genlaw.py and genrow.py.
-/
import Derived.Test.YtpoalklakhegoaaDk2
import Derived.Test.YtpoalklakhegoaaDkO
import Derived.ChangeMaps5
import Derived.Deep.RegionHeld3
import Derived.Deep.DrawnRows
namespace Go.Proofs.Ytpoalklakhegoaa
open Go.ChangeShapes Go.WideShapes Go.ChangeAt Go.RowKit Go.Sort
set_option linter.unusedVariables false
attribute [local go_sem ↓] Go.wp_at_zero Go.wp_at_succ

set_option maxHeartbeats 2000000 in
set_option maxRecDepth 100000 in
theorem law_FnExactSameDesk (vA : Value) (dA : DK) (vB : Value) (dB : DK) (w : World) (hRA : RDK w vA dA) (hlA : LenDK dA) (hRB : RDK w vB dB) (hlB : LenDK dB) :
    Calls Try.prog 3 #[vA, vB] w (Ret (.bool true) w) := by
  obtain ⟨AA, cA, BA, eA, rfl, hOA⟩ := hRA
  have HRA : Hid (∀ W', Below w.heap.size w W' → RDK W' (.agg #[.int .i64 dA.f.l, .int .i64 dA.f.w, .int .i64 dA.f.h, .int .i64 dA.f.j, .string dA.nm, .slice AA dA.cs.length cA, .slice BA dA.wall.length eA, .string dA.log]) dA) := Lib.hid fun W' h => RDK.ext (show RDK w (.agg #[.int .i64 dA.f.l, .int .i64 dA.f.w, .int .i64 dA.f.h, .int .i64 dA.f.j, .string dA.nm, .slice AA dA.cs.length cA, .slice BA dA.wall.length eA, .string dA.log]) dA from ⟨_, _, _, _, rfl, hOA⟩) h
  clear hOA
  have HlA := Lib.hid hlA; clear hlA
  obtain ⟨AB, cB, BB, eB, rfl, hOB⟩ := hRB
  have HRB : Hid (∀ W', Below w.heap.size w W' → RDK W' (.agg #[.int .i64 dB.f.l, .int .i64 dB.f.w, .int .i64 dB.f.h, .int .i64 dB.f.j, .string dB.nm, .slice AB dB.cs.length cB, .slice BB dB.wall.length eB, .string dB.log]) dB) := Lib.hid fun W' h => RDK.ext (show RDK w (.agg #[.int .i64 dB.f.l, .int .i64 dB.f.w, .int .i64 dB.f.h, .int .i64 dB.f.j, .string dB.nm, .slice AB dB.cs.length cB, .slice BB dB.wall.length eB, .string dB.log]) dB from ⟨_, _, _, _, rfl, hOB⟩) h
  clear hOB
  have HlB := Lib.hid hlB; clear hlB
  have HW : Hid (Below w.heap.size w w) := Lib.hid (ext_refl w)
  go_enter Try.func3, Try.ntmps3
  have hp0 : (0 : Int) ≤ 1048576 := by omega
  have hq0 : (1048576 : Int) ≤ 1048576 := by omega
  go_wp2_with fail
  refine (sz_DK _ dA 1048576 hp0 hq0 _ HlA.out (HRA.out _ (ext_trans HW.out (ext_alloc (ext_alloc (ext_refl _) _) _)))).mono ?_
  rintro e w1 ⟨rfl, hbw1⟩
  have hcw1 : Below w.heap.size w w1 := ext_trans (ext_alloc (ext_alloc (ext_refl _) _) _) hbw1
  have HW_ : Hid (Below w.heap.size w w1) := Lib.hid (ext_trans HW.out hcw1)
  have zw1 := hcw1.size
  clear HW; have HW := HW_; clear HW_
  have yw1 := Below.size hbw1
  simp only [World.size_alloc] at yw1
  have k_aA_0 : ∀ W', Below w1.heap.size w1 W' → W'.cell? ⟨w.heap.size, 0, none⟩ = some (.int .i64 dA.f.l) := fun W' h => cell_keep (cell_keep (p := ⟨w.heap.size, 0, none⟩) (v := .int .i64 dA.f.l) (by simp [go_sem]) hbw1) h
  have k_aA_1 : ∀ W', Below w1.heap.size w1 W' → W'.cell? ⟨w.heap.size, 1, none⟩ = some (.int .i64 dA.f.w) := fun W' h => cell_keep (cell_keep (p := ⟨w.heap.size, 1, none⟩) (v := .int .i64 dA.f.w) (by simp [go_sem]) hbw1) h
  have k_aA_2 : ∀ W', Below w1.heap.size w1 W' → W'.cell? ⟨w.heap.size, 2, none⟩ = some (.int .i64 dA.f.h) := fun W' h => cell_keep (cell_keep (p := ⟨w.heap.size, 2, none⟩) (v := .int .i64 dA.f.h) (by simp [go_sem]) hbw1) h
  have k_aA_3 : ∀ W', Below w1.heap.size w1 W' → W'.cell? ⟨w.heap.size, 3, none⟩ = some (.int .i64 dA.f.j) := fun W' h => cell_keep (cell_keep (p := ⟨w.heap.size, 3, none⟩) (v := .int .i64 dA.f.j) (by simp [go_sem]) hbw1) h
  have k_aA_4 : ∀ W', Below w1.heap.size w1 W' → W'.cell? ⟨w.heap.size, 4, none⟩ = some (.string dA.nm) := fun W' h => cell_keep (cell_keep (p := ⟨w.heap.size, 4, none⟩) (v := .string dA.nm) (by simp [go_sem]) hbw1) h
  have k_aA_5 : ∀ W', Below w1.heap.size w1 W' → W'.cell? ⟨w.heap.size, 5, none⟩ = some (.slice AA dA.cs.length cA) := fun W' h => cell_keep (cell_keep (p := ⟨w.heap.size, 5, none⟩) (v := .slice AA dA.cs.length cA) (by simp [go_sem]) hbw1) h
  have k_aA_6 : ∀ W', Below w1.heap.size w1 W' → W'.cell? ⟨w.heap.size, 6, none⟩ = some (.slice BA dA.wall.length eA) := fun W' h => cell_keep (cell_keep (p := ⟨w.heap.size, 6, none⟩) (v := .slice BA dA.wall.length eA) (by simp [go_sem]) hbw1) h
  have k_aA_7 : ∀ W', Below w1.heap.size w1 W' → W'.cell? ⟨w.heap.size, 7, none⟩ = some (.string dA.log) := fun W' h => cell_keep (cell_keep (p := ⟨w.heap.size, 7, none⟩) (v := .string dA.log) (by simp [go_sem]) hbw1) h
  have k_aB_0 : ∀ W', Below w1.heap.size w1 W' → W'.cell? ⟨w.heap.size + 1, 0, none⟩ = some (.int .i64 dB.f.l) := fun W' h => cell_keep (cell_keep (p := ⟨w.heap.size + 1, 0, none⟩) (v := .int .i64 dB.f.l) (by simp [go_sem]) hbw1) h
  have k_aB_1 : ∀ W', Below w1.heap.size w1 W' → W'.cell? ⟨w.heap.size + 1, 1, none⟩ = some (.int .i64 dB.f.w) := fun W' h => cell_keep (cell_keep (p := ⟨w.heap.size + 1, 1, none⟩) (v := .int .i64 dB.f.w) (by simp [go_sem]) hbw1) h
  have k_aB_2 : ∀ W', Below w1.heap.size w1 W' → W'.cell? ⟨w.heap.size + 1, 2, none⟩ = some (.int .i64 dB.f.h) := fun W' h => cell_keep (cell_keep (p := ⟨w.heap.size + 1, 2, none⟩) (v := .int .i64 dB.f.h) (by simp [go_sem]) hbw1) h
  have k_aB_3 : ∀ W', Below w1.heap.size w1 W' → W'.cell? ⟨w.heap.size + 1, 3, none⟩ = some (.int .i64 dB.f.j) := fun W' h => cell_keep (cell_keep (p := ⟨w.heap.size + 1, 3, none⟩) (v := .int .i64 dB.f.j) (by simp [go_sem]) hbw1) h
  have k_aB_4 : ∀ W', Below w1.heap.size w1 W' → W'.cell? ⟨w.heap.size + 1, 4, none⟩ = some (.string dB.nm) := fun W' h => cell_keep (cell_keep (p := ⟨w.heap.size + 1, 4, none⟩) (v := .string dB.nm) (by simp [go_sem]) hbw1) h
  have k_aB_5 : ∀ W', Below w1.heap.size w1 W' → W'.cell? ⟨w.heap.size + 1, 5, none⟩ = some (.slice AB dB.cs.length cB) := fun W' h => cell_keep (cell_keep (p := ⟨w.heap.size + 1, 5, none⟩) (v := .slice AB dB.cs.length cB) (by simp [go_sem]) hbw1) h
  have k_aB_6 : ∀ W', Below w1.heap.size w1 W' → W'.cell? ⟨w.heap.size + 1, 6, none⟩ = some (.slice BB dB.wall.length eB) := fun W' h => cell_keep (cell_keep (p := ⟨w.heap.size + 1, 6, none⟩) (v := .slice BB dB.wall.length eB) (by simp [go_sem]) hbw1) h
  have k_aB_7 : ∀ W', Below w1.heap.size w1 W' → W'.cell? ⟨w.heap.size + 1, 7, none⟩ = some (.string dB.log) := fun W' h => cell_keep (cell_keep (p := ⟨w.heap.size + 1, 7, none⟩) (v := .string dB.log) (by simp [go_sem]) hbw1) h
  have hL : Below w1.heap.size w1 w1 := ext_refl _
  have haL : ∀ o, Below w1.heap.size w1 (w1.alloc o) := fun o => ext_alloc hL o
  clear hbw1 hcw1
  obtain ⟨hqw1, hrw1⟩ := szDK_le dA hq0
  go_wp2_with fail
  · go_ret
    exact ⟨rfl, ext_trans HW.out (ext_refl _)⟩
  have hpw1 : 0 ≤ szDK dA 1048576 := by assumption
  go_wp2_with fail
  refine (sz_DK _ dB (szDK dA 1048576) hpw1 hqw1 _ HlB.out (HRB.out _ (ext_trans HW.out (ext_refl _)))).mono ?_
  rintro e w2 ⟨rfl, hbw2⟩
  have hcw2 : Below w1.heap.size w1 w2 := ext_trans (ext_refl _) hbw2
  have HW_ : Hid (Below w.heap.size w w2) := Lib.hid (ext_trans HW.out hcw2)
  have zw2 := hcw2.size
  clear HW; have HW := HW_; clear HW_
  replace hL : Below w1.heap.size w1 w2 := ext_trans hL hcw2
  clear haL
  have haL : ∀ o, Below w1.heap.size w1 (w2.alloc o) := fun o => ext_alloc hL o
  clear hbw2 hcw2
  obtain ⟨hqw2, hrw2⟩ := szDK_le dB hqw1
  go_wp2_with fail
  · go_ret
    exact ⟨rfl, ext_trans HW.out (ext_refl _)⟩
  have hpw2 : 0 ≤ szDK dB (szDK dA 1048576) := by assumption
  obtain ⟨huB, hsmB⟩ := ok_DK hqw1 hpw2
  have SmB := Lib.hid hsmB; clear hsmB
  obtain ⟨huA, hsmA⟩ := ok_DK hq0 huB
  have SmA := Lib.hid hsmA; clear hsmA
  go_wp2_with fail
  go_region_held3 (fun w' => Below w1.heap.size w1 w') (first | exact ext_drew hL | exact ext_trans (by assumption) (by assumption) | assumption)
    (first
      | (go_at_call 6; (have ht := to_DK _ dA _ (HRA.out _ (ext_trans HW.out (ext_drew (ext_refl _)))) SmA.out); (with_reducible refine ht.mono ?_); clear ht; rintro e w3 ⟨vw3, rfl, hOw3, hbw3⟩)
      | (go_at_call 6; (have ht := to_DK _ dB _ (HRB.out _ (ext_trans HW.out (ext_trans (ext_drew (ext_refl _)) hbw3))) SmB.out); (with_reducible refine ht.mono ?_); clear ht; rintro e w4 ⟨vw4, rfl, hOw4, hbw4⟩)
      | (go_at_call 5; (have ht := spec_SameDesk _ dA _ dB _ (hOw3.ext hbw4).rd SmA.out hOw4.rd SmB.out); (with_reducible refine ht.mono ?_); clear ht; rintro e w5 ⟨rfl, hbw5⟩)
      | fail)
  have hcw5 : Below w2.heap.size w2 w5 := (ext_trans (ext_trans (ext_trans (ext_drew (ext_refl _)) hbw3) hbw4) hbw5)
  have HW_ : Hid (Below w.heap.size w w5) := Lib.hid (ext_trans HW.out hcw5)
  have zw5 := hcw5.size
  clear HW; have HW := HW_; clear HW_
  replace hL : Below w1.heap.size w1 w5 := ext_trans hL hcw5
  clear haL
  have haL : ∀ o, Below w1.heap.size w1 (w5.alloc o) := fun o => ext_alloc hL o
  clear hcw5 hbw3 hbw4 hbw5
  clear hOw3 hOw4
  go_wp2_with fail
  refine (to_DK _ dA _ (HRA.out _ (ext_trans HW.out (ext_refl _))) SmA.out).mono ?_
  rintro e w6 ⟨vw6, rfl, ⟨Aw6, cw6, Bw6, ew6, rfl, hOw6⟩, hbw6⟩
  have hOO : ODK w6 (w5.heap.size) (.agg #[.int .i64 dA.f.l, .int .i64 dA.f.w, .int .i64 dA.f.h, .int .i64 dA.f.j, .string dA.nm, .slice Aw6 dA.cs.length cw6, .slice Bw6 dA.wall.length ew6, .string dA.log]) dA := ⟨_, _, _, _, rfl, hOw6⟩
  have hcw6 : Below w5.heap.size w5 w6 := ext_trans (ext_refl _) hbw6
  have HW_ : Hid (Below w.heap.size w w6) := Lib.hid (ext_trans HW.out hcw6)
  have zw6 := hcw6.size
  clear HW; have HW := HW_; clear HW_
  replace hL : Below w1.heap.size w1 w6 := ext_trans hL hcw6
  clear haL
  have haL : ∀ o, Below w1.heap.size w1 (w6.alloc o) := fun o => ext_alloc hL o
  clear hbw6 hcw6
  have HB_x0 : Hid (∀ k, BDK (.agg #[.int .i64 dA.f.l, .int .i64 dA.f.w, .int .i64 dA.f.h, .int .i64 dA.f.j, .string dA.nm, .slice Aw6 dA.cs.length cw6, .slice Bw6 dA.wall.length ew6, .string dA.log]) k → w5.heap.size ≤ k ∧ k < w6.heap.size) := Lib.hid hOO.ge
  have HO_x0 := Lib.hid hOO; clear hOO
  go_wp2_with fail
  refine (to_DK _ dB _ (HRB.out _ (ext_trans HW.out (ext_alloc (ext_refl _) _))) SmB.out).mono ?_
  rintro e w7 ⟨vw7, rfl, ⟨Aw7, cw7, Bw7, ew7, rfl, hOw7⟩, hbw7⟩
  have hOO : ODK w7 (w6.heap.size + 1) (.agg #[.int .i64 dB.f.l, .int .i64 dB.f.w, .int .i64 dB.f.h, .int .i64 dB.f.j, .string dB.nm, .slice Aw7 dB.cs.length cw7, .slice Bw7 dB.wall.length ew7, .string dB.log]) dB := by have h0 := hOw7; simp only [World.size_alloc] at h0; exact ⟨_, _, _, _, rfl, h0⟩
  have hcw7 : Below w6.heap.size w6 w7 := ext_trans (ext_alloc (ext_refl _) _) hbw7
  have HW_ : Hid (Below w.heap.size w w7) := Lib.hid (ext_trans HW.out hcw7)
  have zw7 := hcw7.size
  have HO_x0_ := Lib.hid (HO_x0.out.ext hcw7); clear HO_x0; have HO_x0 := HO_x0_; clear HO_x0_
  clear HW; have HW := HW_; clear HW_
  have yw7 := Below.size hbw7
  simp only [World.size_alloc] at yw7
  have k_x0_0 : ∀ W', Below w7.heap.size w7 W' → W'.cell? ⟨w6.heap.size, 0, none⟩ = some (.int .i64 dA.f.l) := fun W' h => cell_keep (cell_keep (p := ⟨w6.heap.size, 0, none⟩) (v := .int .i64 dA.f.l) (by simp [go_sem]) hbw7) h
  have k_x0_1 : ∀ W', Below w7.heap.size w7 W' → W'.cell? ⟨w6.heap.size, 1, none⟩ = some (.int .i64 dA.f.w) := fun W' h => cell_keep (cell_keep (p := ⟨w6.heap.size, 1, none⟩) (v := .int .i64 dA.f.w) (by simp [go_sem]) hbw7) h
  have k_x0_2 : ∀ W', Below w7.heap.size w7 W' → W'.cell? ⟨w6.heap.size, 2, none⟩ = some (.int .i64 dA.f.h) := fun W' h => cell_keep (cell_keep (p := ⟨w6.heap.size, 2, none⟩) (v := .int .i64 dA.f.h) (by simp [go_sem]) hbw7) h
  have k_x0_3 : ∀ W', Below w7.heap.size w7 W' → W'.cell? ⟨w6.heap.size, 3, none⟩ = some (.int .i64 dA.f.j) := fun W' h => cell_keep (cell_keep (p := ⟨w6.heap.size, 3, none⟩) (v := .int .i64 dA.f.j) (by simp [go_sem]) hbw7) h
  have k_x0_4 : ∀ W', Below w7.heap.size w7 W' → W'.cell? ⟨w6.heap.size, 4, none⟩ = some (.string dA.nm) := fun W' h => cell_keep (cell_keep (p := ⟨w6.heap.size, 4, none⟩) (v := .string dA.nm) (by simp [go_sem]) hbw7) h
  have k_x0_5 : ∀ W', Below w7.heap.size w7 W' → W'.cell? ⟨w6.heap.size, 5, none⟩ = some (.slice Aw6 dA.cs.length cw6) := fun W' h => cell_keep (cell_keep (p := ⟨w6.heap.size, 5, none⟩) (v := .slice Aw6 dA.cs.length cw6) (by simp [go_sem]) hbw7) h
  have k_x0_6 : ∀ W', Below w7.heap.size w7 W' → W'.cell? ⟨w6.heap.size, 6, none⟩ = some (.slice Bw6 dA.wall.length ew6) := fun W' h => cell_keep (cell_keep (p := ⟨w6.heap.size, 6, none⟩) (v := .slice Bw6 dA.wall.length ew6) (by simp [go_sem]) hbw7) h
  have k_x0_7 : ∀ W', Below w7.heap.size w7 W' → W'.cell? ⟨w6.heap.size, 7, none⟩ = some (.string dA.log) := fun W' h => cell_keep (cell_keep (p := ⟨w6.heap.size, 7, none⟩) (v := .string dA.log) (by simp [go_sem]) hbw7) h
  replace k_aA_0 : ∀ W', Below w7.heap.size w7 W' → W'.cell? ⟨w.heap.size, 0, none⟩ = some (.int .i64 dA.f.l) := fun W' h => k_aA_0 W' (ext_trans (ext_trans hL hcw7) h)
  replace k_aA_1 : ∀ W', Below w7.heap.size w7 W' → W'.cell? ⟨w.heap.size, 1, none⟩ = some (.int .i64 dA.f.w) := fun W' h => k_aA_1 W' (ext_trans (ext_trans hL hcw7) h)
  replace k_aA_2 : ∀ W', Below w7.heap.size w7 W' → W'.cell? ⟨w.heap.size, 2, none⟩ = some (.int .i64 dA.f.h) := fun W' h => k_aA_2 W' (ext_trans (ext_trans hL hcw7) h)
  replace k_aA_3 : ∀ W', Below w7.heap.size w7 W' → W'.cell? ⟨w.heap.size, 3, none⟩ = some (.int .i64 dA.f.j) := fun W' h => k_aA_3 W' (ext_trans (ext_trans hL hcw7) h)
  replace k_aA_4 : ∀ W', Below w7.heap.size w7 W' → W'.cell? ⟨w.heap.size, 4, none⟩ = some (.string dA.nm) := fun W' h => k_aA_4 W' (ext_trans (ext_trans hL hcw7) h)
  replace k_aA_5 : ∀ W', Below w7.heap.size w7 W' → W'.cell? ⟨w.heap.size, 5, none⟩ = some (.slice AA dA.cs.length cA) := fun W' h => k_aA_5 W' (ext_trans (ext_trans hL hcw7) h)
  replace k_aA_6 : ∀ W', Below w7.heap.size w7 W' → W'.cell? ⟨w.heap.size, 6, none⟩ = some (.slice BA dA.wall.length eA) := fun W' h => k_aA_6 W' (ext_trans (ext_trans hL hcw7) h)
  replace k_aA_7 : ∀ W', Below w7.heap.size w7 W' → W'.cell? ⟨w.heap.size, 7, none⟩ = some (.string dA.log) := fun W' h => k_aA_7 W' (ext_trans (ext_trans hL hcw7) h)
  replace k_aB_0 : ∀ W', Below w7.heap.size w7 W' → W'.cell? ⟨w.heap.size + 1, 0, none⟩ = some (.int .i64 dB.f.l) := fun W' h => k_aB_0 W' (ext_trans (ext_trans hL hcw7) h)
  replace k_aB_1 : ∀ W', Below w7.heap.size w7 W' → W'.cell? ⟨w.heap.size + 1, 1, none⟩ = some (.int .i64 dB.f.w) := fun W' h => k_aB_1 W' (ext_trans (ext_trans hL hcw7) h)
  replace k_aB_2 : ∀ W', Below w7.heap.size w7 W' → W'.cell? ⟨w.heap.size + 1, 2, none⟩ = some (.int .i64 dB.f.h) := fun W' h => k_aB_2 W' (ext_trans (ext_trans hL hcw7) h)
  replace k_aB_3 : ∀ W', Below w7.heap.size w7 W' → W'.cell? ⟨w.heap.size + 1, 3, none⟩ = some (.int .i64 dB.f.j) := fun W' h => k_aB_3 W' (ext_trans (ext_trans hL hcw7) h)
  replace k_aB_4 : ∀ W', Below w7.heap.size w7 W' → W'.cell? ⟨w.heap.size + 1, 4, none⟩ = some (.string dB.nm) := fun W' h => k_aB_4 W' (ext_trans (ext_trans hL hcw7) h)
  replace k_aB_5 : ∀ W', Below w7.heap.size w7 W' → W'.cell? ⟨w.heap.size + 1, 5, none⟩ = some (.slice AB dB.cs.length cB) := fun W' h => k_aB_5 W' (ext_trans (ext_trans hL hcw7) h)
  replace k_aB_6 : ∀ W', Below w7.heap.size w7 W' → W'.cell? ⟨w.heap.size + 1, 6, none⟩ = some (.slice BB dB.wall.length eB) := fun W' h => k_aB_6 W' (ext_trans (ext_trans hL hcw7) h)
  replace k_aB_7 : ∀ W', Below w7.heap.size w7 W' → W'.cell? ⟨w.heap.size + 1, 7, none⟩ = some (.string dB.log) := fun W' h => k_aB_7 W' (ext_trans (ext_trans hL hcw7) h)
  clear hL haL
  have hL : Below w7.heap.size w7 w7 := ext_refl _
  have haL : ∀ o, Below w7.heap.size w7 (w7.alloc o) := fun o => ext_alloc hL o
  clear hbw7 hcw7
  have HB_x1 : Hid (∀ k, BDK (.agg #[.int .i64 dB.f.l, .int .i64 dB.f.w, .int .i64 dB.f.h, .int .i64 dB.f.j, .string dB.nm, .slice Aw7 dB.cs.length cw7, .slice Bw7 dB.wall.length ew7, .string dB.log]) k → w6.heap.size + 1 ≤ k ∧ k < w7.heap.size) := Lib.hid hOO.ge
  have HO_x1 := Lib.hid hOO; clear hOO
  go_wp2_with fail
  refine (impl_SameDesk _ dA _ dB _ ((HO_x0.out.ext (ext_alloc (ext_refl _) _)).rd) SmA.out ((HO_x1.out.ext (ext_alloc (ext_refl _) _)).rd) SmB.out).mono ?_
  rintro e w8 ⟨rfl, hbw8⟩
  have hcw8 : Below w7.heap.size w7 w8 := (ext_trans (ext_alloc (ext_refl _) _) hbw8)
  have HW_ : Hid (Below w.heap.size w w8) := Lib.hid (ext_trans HW.out hcw8)
  have zw8 := hcw8.size
  have HO_x0_ := Lib.hid (HO_x0.out.ext hcw8); clear HO_x0; have HO_x0 := HO_x0_; clear HO_x0_
  have HO_x1_ := Lib.hid (HO_x1.out.ext hcw8); clear HO_x1; have HO_x1 := HO_x1_; clear HO_x1_
  clear HW; have HW := HW_; clear HW_
  have yw8 := Below.size hbw8
  simp only [World.size_alloc] at yw8
  have k_x1_0 : ∀ W', Below w8.heap.size w8 W' → W'.cell? ⟨w7.heap.size, 0, none⟩ = some (.int .i64 dB.f.l) := fun W' h => cell_keep (cell_keep (p := ⟨w7.heap.size, 0, none⟩) (v := .int .i64 dB.f.l) (by simp [go_sem]) hbw8) h
  have k_x1_1 : ∀ W', Below w8.heap.size w8 W' → W'.cell? ⟨w7.heap.size, 1, none⟩ = some (.int .i64 dB.f.w) := fun W' h => cell_keep (cell_keep (p := ⟨w7.heap.size, 1, none⟩) (v := .int .i64 dB.f.w) (by simp [go_sem]) hbw8) h
  have k_x1_2 : ∀ W', Below w8.heap.size w8 W' → W'.cell? ⟨w7.heap.size, 2, none⟩ = some (.int .i64 dB.f.h) := fun W' h => cell_keep (cell_keep (p := ⟨w7.heap.size, 2, none⟩) (v := .int .i64 dB.f.h) (by simp [go_sem]) hbw8) h
  have k_x1_3 : ∀ W', Below w8.heap.size w8 W' → W'.cell? ⟨w7.heap.size, 3, none⟩ = some (.int .i64 dB.f.j) := fun W' h => cell_keep (cell_keep (p := ⟨w7.heap.size, 3, none⟩) (v := .int .i64 dB.f.j) (by simp [go_sem]) hbw8) h
  have k_x1_4 : ∀ W', Below w8.heap.size w8 W' → W'.cell? ⟨w7.heap.size, 4, none⟩ = some (.string dB.nm) := fun W' h => cell_keep (cell_keep (p := ⟨w7.heap.size, 4, none⟩) (v := .string dB.nm) (by simp [go_sem]) hbw8) h
  have k_x1_5 : ∀ W', Below w8.heap.size w8 W' → W'.cell? ⟨w7.heap.size, 5, none⟩ = some (.slice Aw7 dB.cs.length cw7) := fun W' h => cell_keep (cell_keep (p := ⟨w7.heap.size, 5, none⟩) (v := .slice Aw7 dB.cs.length cw7) (by simp [go_sem]) hbw8) h
  have k_x1_6 : ∀ W', Below w8.heap.size w8 W' → W'.cell? ⟨w7.heap.size, 6, none⟩ = some (.slice Bw7 dB.wall.length ew7) := fun W' h => cell_keep (cell_keep (p := ⟨w7.heap.size, 6, none⟩) (v := .slice Bw7 dB.wall.length ew7) (by simp [go_sem]) hbw8) h
  have k_x1_7 : ∀ W', Below w8.heap.size w8 W' → W'.cell? ⟨w7.heap.size, 7, none⟩ = some (.string dB.log) := fun W' h => cell_keep (cell_keep (p := ⟨w7.heap.size, 7, none⟩) (v := .string dB.log) (by simp [go_sem]) hbw8) h
  replace k_aA_0 : ∀ W', Below w8.heap.size w8 W' → W'.cell? ⟨w.heap.size, 0, none⟩ = some (.int .i64 dA.f.l) := fun W' h => k_aA_0 W' (ext_trans (ext_trans hL hcw8) h)
  replace k_aA_1 : ∀ W', Below w8.heap.size w8 W' → W'.cell? ⟨w.heap.size, 1, none⟩ = some (.int .i64 dA.f.w) := fun W' h => k_aA_1 W' (ext_trans (ext_trans hL hcw8) h)
  replace k_aA_2 : ∀ W', Below w8.heap.size w8 W' → W'.cell? ⟨w.heap.size, 2, none⟩ = some (.int .i64 dA.f.h) := fun W' h => k_aA_2 W' (ext_trans (ext_trans hL hcw8) h)
  replace k_aA_3 : ∀ W', Below w8.heap.size w8 W' → W'.cell? ⟨w.heap.size, 3, none⟩ = some (.int .i64 dA.f.j) := fun W' h => k_aA_3 W' (ext_trans (ext_trans hL hcw8) h)
  replace k_aA_4 : ∀ W', Below w8.heap.size w8 W' → W'.cell? ⟨w.heap.size, 4, none⟩ = some (.string dA.nm) := fun W' h => k_aA_4 W' (ext_trans (ext_trans hL hcw8) h)
  replace k_aA_5 : ∀ W', Below w8.heap.size w8 W' → W'.cell? ⟨w.heap.size, 5, none⟩ = some (.slice AA dA.cs.length cA) := fun W' h => k_aA_5 W' (ext_trans (ext_trans hL hcw8) h)
  replace k_aA_6 : ∀ W', Below w8.heap.size w8 W' → W'.cell? ⟨w.heap.size, 6, none⟩ = some (.slice BA dA.wall.length eA) := fun W' h => k_aA_6 W' (ext_trans (ext_trans hL hcw8) h)
  replace k_aA_7 : ∀ W', Below w8.heap.size w8 W' → W'.cell? ⟨w.heap.size, 7, none⟩ = some (.string dA.log) := fun W' h => k_aA_7 W' (ext_trans (ext_trans hL hcw8) h)
  replace k_aB_0 : ∀ W', Below w8.heap.size w8 W' → W'.cell? ⟨w.heap.size + 1, 0, none⟩ = some (.int .i64 dB.f.l) := fun W' h => k_aB_0 W' (ext_trans (ext_trans hL hcw8) h)
  replace k_aB_1 : ∀ W', Below w8.heap.size w8 W' → W'.cell? ⟨w.heap.size + 1, 1, none⟩ = some (.int .i64 dB.f.w) := fun W' h => k_aB_1 W' (ext_trans (ext_trans hL hcw8) h)
  replace k_aB_2 : ∀ W', Below w8.heap.size w8 W' → W'.cell? ⟨w.heap.size + 1, 2, none⟩ = some (.int .i64 dB.f.h) := fun W' h => k_aB_2 W' (ext_trans (ext_trans hL hcw8) h)
  replace k_aB_3 : ∀ W', Below w8.heap.size w8 W' → W'.cell? ⟨w.heap.size + 1, 3, none⟩ = some (.int .i64 dB.f.j) := fun W' h => k_aB_3 W' (ext_trans (ext_trans hL hcw8) h)
  replace k_aB_4 : ∀ W', Below w8.heap.size w8 W' → W'.cell? ⟨w.heap.size + 1, 4, none⟩ = some (.string dB.nm) := fun W' h => k_aB_4 W' (ext_trans (ext_trans hL hcw8) h)
  replace k_aB_5 : ∀ W', Below w8.heap.size w8 W' → W'.cell? ⟨w.heap.size + 1, 5, none⟩ = some (.slice AB dB.cs.length cB) := fun W' h => k_aB_5 W' (ext_trans (ext_trans hL hcw8) h)
  replace k_aB_6 : ∀ W', Below w8.heap.size w8 W' → W'.cell? ⟨w.heap.size + 1, 6, none⟩ = some (.slice BB dB.wall.length eB) := fun W' h => k_aB_6 W' (ext_trans (ext_trans hL hcw8) h)
  replace k_aB_7 : ∀ W', Below w8.heap.size w8 W' → W'.cell? ⟨w.heap.size + 1, 7, none⟩ = some (.string dB.log) := fun W' h => k_aB_7 W' (ext_trans (ext_trans hL hcw8) h)
  replace k_x0_0 : ∀ W', Below w8.heap.size w8 W' → W'.cell? ⟨w6.heap.size, 0, none⟩ = some (.int .i64 dA.f.l) := fun W' h => k_x0_0 W' (ext_trans (ext_trans hL hcw8) h)
  replace k_x0_1 : ∀ W', Below w8.heap.size w8 W' → W'.cell? ⟨w6.heap.size, 1, none⟩ = some (.int .i64 dA.f.w) := fun W' h => k_x0_1 W' (ext_trans (ext_trans hL hcw8) h)
  replace k_x0_2 : ∀ W', Below w8.heap.size w8 W' → W'.cell? ⟨w6.heap.size, 2, none⟩ = some (.int .i64 dA.f.h) := fun W' h => k_x0_2 W' (ext_trans (ext_trans hL hcw8) h)
  replace k_x0_3 : ∀ W', Below w8.heap.size w8 W' → W'.cell? ⟨w6.heap.size, 3, none⟩ = some (.int .i64 dA.f.j) := fun W' h => k_x0_3 W' (ext_trans (ext_trans hL hcw8) h)
  replace k_x0_4 : ∀ W', Below w8.heap.size w8 W' → W'.cell? ⟨w6.heap.size, 4, none⟩ = some (.string dA.nm) := fun W' h => k_x0_4 W' (ext_trans (ext_trans hL hcw8) h)
  replace k_x0_5 : ∀ W', Below w8.heap.size w8 W' → W'.cell? ⟨w6.heap.size, 5, none⟩ = some (.slice Aw6 dA.cs.length cw6) := fun W' h => k_x0_5 W' (ext_trans (ext_trans hL hcw8) h)
  replace k_x0_6 : ∀ W', Below w8.heap.size w8 W' → W'.cell? ⟨w6.heap.size, 6, none⟩ = some (.slice Bw6 dA.wall.length ew6) := fun W' h => k_x0_6 W' (ext_trans (ext_trans hL hcw8) h)
  replace k_x0_7 : ∀ W', Below w8.heap.size w8 W' → W'.cell? ⟨w6.heap.size, 7, none⟩ = some (.string dA.log) := fun W' h => k_x0_7 W' (ext_trans (ext_trans hL hcw8) h)
  clear hL haL
  have hL : Below w8.heap.size w8 w8 := ext_refl _
  have haL : ∀ o, Below w8.heap.size w8 (w8.alloc o) := fun o => ext_alloc hL o
  clear hcw8 hbw8
  go_wp2_with fail
  go_region_held3 (fun w' => Below w8.heap.size w8 w') (first | exact ext_drew hL | exact ext_trans (by assumption) (by assumption) | assumption)
    (first
      | (go_at_call 6; (have ht := to_DK _ dA _ (HRA.out _ (ext_trans HW.out (ext_drew (ext_refl _)))) SmA.out); (with_reducible refine ht.mono ?_); clear ht; rintro e w9 ⟨vw9, rfl, hOw9, hbw9⟩)
      | (go_at_call 8; (have ht := eq_DK _ _ dA _ ((HO_x0.out.ext (ext_trans (ext_drew (ext_refl _)) hbw9)).rd) hOw9.rd); (with_reducible refine ht.mono ?_); clear ht; rintro e w10 ⟨rfl, hbw10⟩)
      | fail)
  have hcw10 : Below w8.heap.size w8 w10 := (ext_trans (ext_trans (ext_drew (ext_refl _)) hbw9) hbw10)
  have HW_ : Hid (Below w.heap.size w w10) := Lib.hid (ext_trans HW.out hcw10)
  have zw10 := hcw10.size
  have HO_x0_ := Lib.hid (HO_x0.out.ext hcw10); clear HO_x0; have HO_x0 := HO_x0_; clear HO_x0_
  have HO_x1_ := Lib.hid (HO_x1.out.ext hcw10); clear HO_x1; have HO_x1 := HO_x1_; clear HO_x1_
  clear HW; have HW := HW_; clear HW_
  replace hL : Below w8.heap.size w8 w10 := ext_trans hL hcw10
  clear haL
  have haL : ∀ o, Below w8.heap.size w8 (w10.alloc o) := fun o => ext_alloc hL o
  clear hcw10 hbw9 hbw10
  clear hOw9
  go_wp2_with fail
  go_region_held3 (fun w' => Below w8.heap.size w8 w') (first | exact ext_drew hL | exact ext_trans (by assumption) (by assumption) | assumption)
    (first
      | (go_at_call 6; (have ht := to_DK _ dB _ (HRB.out _ (ext_trans HW.out (ext_drew (ext_refl _)))) SmB.out); (with_reducible refine ht.mono ?_); clear ht; rintro e w11 ⟨vw11, rfl, hOw11, hbw11⟩)
      | (go_at_call 8; (have ht := eq_DK _ _ dB _ ((HO_x1.out.ext (ext_trans (ext_drew (ext_refl _)) hbw11)).rd) hOw11.rd); (with_reducible refine ht.mono ?_); clear ht; rintro e w12 ⟨rfl, hbw12⟩)
      | fail)
  have hcw12 : Below w10.heap.size w10 w12 := (ext_trans (ext_trans (ext_drew (ext_refl _)) hbw11) hbw12)
  have HW_ : Hid (Below w.heap.size w w12) := Lib.hid (ext_trans HW.out hcw12)
  have zw12 := hcw12.size
  have HO_x0_ := Lib.hid (HO_x0.out.ext hcw12); clear HO_x0; have HO_x0 := HO_x0_; clear HO_x0_
  have HO_x1_ := Lib.hid (HO_x1.out.ext hcw12); clear HO_x1; have HO_x1 := HO_x1_; clear HO_x1_
  clear HW; have HW := HW_; clear HW_
  replace hL : Below w8.heap.size w8 w12 := ext_trans hL hcw12
  clear haL
  have haL : ∀ o, Below w8.heap.size w8 (w12.alloc o) := fun o => ext_alloc hL o
  clear hcw12 hbw11 hbw12
  clear hOw11
  go_wp2_with fail
  go_ret
  exact ⟨rfl, ext_trans HW.out (ext_refl _)⟩

theorem rd_FnExactSameDesk : ∀ t ∈ Try.f3.params.toList, Try.prog.readableRec t = true ∧ t < Try.prog.types.size := by
  have h : Try.f3.params.toList.all (fun t => Try.prog.readableRec t && decide (t < Try.prog.types.size)) = true := by kernel_rfl
  intro t ht
  have := List.all_eq_true.1 h t ht
  simpa using this

set_option maxRecDepth 100000 in
theorem lifted_FnExactSameDesk (os : Os) (started : os.Started) (H : Type) (enc : TypeId × Value → H) :
    ReturnsInHanded {} Try.checked os 3 .any (Rows.fnExactSameDeskSpec.pre6 enc Try.prog Try.f3 Rows.fnExactSameDeskRow.domain false) (Rows.fnExactSameDeskSpec.post enc Try.prog Try.f3 false true false false) := by
  refine returnsInHanded_of_change (C := Try.checked) own_knob started (by kernel_rfl) Try.func3
    (ChangeSpec.witness6 (enc := enc) (C := Try.checked) false ⟨#[], #[.agg #[.int .i64 0, .int .i64 0, .int .i64 0, .int .i64 0, .string ⟨#[]⟩, .slice none 0 0, .slice none 0 0, .string ⟨#[]⟩], .agg #[.int .i64 0, .int .i64 0, .int .i64 0, .int .i64 0, .string ⟨#[]⟩, .slice none 0 0, .slice none 0 0, .string ⟨#[]⟩]], []⟩ 8 (by kernel_rfl) (by kernel_rfl) (by kernel_rfl) (by kernel_rfl)) ?_
  intro W base args ds gs before hval0 hW hcnd _
  have hval : ∀ (j : Nat) t v, Try.f3.params[j]? = some t → args[j]? = some v → Value.okWide Try.prog W .any base t v := hval0
  have hW' : DataW.Whole enc Try.prog Try.f3.params.toList (Rows.fnExactSameDeskSpec).vars false W args.toList ds gs before := hW
  obtain ⟨p, q, hA0, hV, _, hfz, hnd⟩ := hW
  have hA : DataW.TrodAll enc Try.prog W 0 (fun _ => true) true Try.f3.params.toList args.toList ds p := hA0
  rw [Try.params3] at hA hval
  obtain ⟨v0, vs0, d0, ds0, p0, q0, ha0, hd0, hp0, h0, rr0⟩ := trodAll_cons hA
  subst hd0 hp0
  obtain ⟨v1, vs1, d1, ds1, p1, q1, ha1, hd1, hp1, h1, rr1⟩ := trodAll_cons rr0
  subst ha1 hd1 hp1
  obtain ⟨e1, e2, e3⟩ := trodAll_nil rr1
  subst e1 e2 e3
  obtain rfl : args = #[v0, v1] := by cases args; simp_all
  obtain ⟨rfl, rfl⟩ := trodVars_none hV
  obtain ⟨d0, hR0, hl0⟩ := open_DK (hval 0 29 v0 rfl rfl) h0
  obtain ⟨d1, hR1, hl1⟩ := open_DK (hval 1 29 v1 rfl rfl) h1
  clear hA0 hval0
  refine (law_FnExactSameDesk v0 d0 v1 d1 W hR0 hl0 hR1 hl1).mono fun e W' ⟨he, hb⟩ => ?_
  subst he
  exact ⟨_, rfl, law_post rd_FnExactSameDesk rfl rfl hW' rfl hb⟩

theorem holds_FnExactSameDesk : Rows.FnExactSameDeskSaid :=
  OpenClaim.holds_of_wide 3 Try.f3 rfl rfl rfl rfl rfl rfl rfl ⟨rfl, rfl, rfl, rfl, rfl⟩ rfl rfl rfl rfl rfl (by kernel_rfl) Try.func3 (by kernel_rfl)
    (of_decide_eq_true (by kernel_rfl)) (by unfold Func.isWrapper; first | (rw [if_pos (by decide +kernel)]; kernel_rfl) | (rw [if_neg (by decide +kernel)]; exact ⟨rfl, rfl⟩))
    (fun os started H enc _ => lifted_FnExactSameDesk os started H enc)


end Go.Proofs.Ytpoalklakhegoaa
