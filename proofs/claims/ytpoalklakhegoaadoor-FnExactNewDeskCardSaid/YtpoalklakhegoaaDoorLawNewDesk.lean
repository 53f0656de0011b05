/-
  The law FnExactNewDesk: the program answers as the reference, for all arguments; no condition. The walk and the row; printed by genlaw.py and genrow.py.
-/
import Derived.Test.YtpoalklakhegoaaDoorNewD
import Derived.Test.YtpoalklakhegoaaDoorDoorN
import Derived.ChangeMaps5
import Derived.Deep.RegionHeld3
import Derived.Deep.DrawnRows
namespace Go.Proofs.YtpoalklakhegoaaDoor
open Go.ChangeShapes Go.WideShapes Go.ChangeAt Go.RowKit Go.Sort
set_option linter.unusedVariables false
attribute [local go_sem ↓] Go.wp_at_zero Go.wp_at_succ

set_option maxHeartbeats 2000000 in
set_option maxRecDepth 100000 in
theorem law_FnExactNewDesk  (w : World) (hEnv : EnvN w)  :
    Calls Tryd.prog 3 #[] w (Ret (.bool true) w) := by
  have HEV : Hid (∀ W', Below w.heap.size w W' → EnvN W') := Lib.hid fun W' h => hEnv.ext h; clear hEnv
  have HW : Hid (Below w.heap.size w w) := Lib.hid (ext_refl w)
  go_enter Tryd.func3, Tryd.ntmps3
  go_wp2_with fail
  refine (spec_NewDesk  _ (HEV.out _ (ext_trans HW.out (ext_refl _)))).mono ?_
  rintro e w1 ⟨vw1_0, rfl, ⟨Aw1_0, cw1_0, Bw1_0, ew1_0, rfl, hOw1_0⟩, hsmw1_0, hbw1⟩
  have hcw1 : Below w.heap.size w w1 := (ext_trans (ext_refl _) hbw1)
  have HW_ : Hid (Below w.heap.size w w1) := Lib.hid (ext_trans HW.out hcw1)
  have zw1 := hcw1.size
  clear HW; have HW := HW_; clear HW_
  clear hcw1 hbw1
  have hOO : ODK w1 (w.heap.size) (.agg #[.int .i64 newD.f.l, .int .i64 newD.f.w, .int .i64 newD.f.h, .int .i64 newD.f.j, .string newD.nm, .slice Aw1_0 newD.cs.length cw1_0, .slice Bw1_0 newD.wall.length ew1_0, .string newD.log]) newD := ⟨_, _, _, _, rfl, hOw1_0⟩
  have HB_w0 : Hid (∀ k, BDK (.agg #[.int .i64 newD.f.l, .int .i64 newD.f.w, .int .i64 newD.f.h, .int .i64 newD.f.j, .string newD.nm, .slice Aw1_0 newD.cs.length cw1_0, .slice Bw1_0 newD.wall.length ew1_0, .string newD.log]) k → w.heap.size ≤ k ∧ k < w1.heap.size) := Lib.hid hOO.ge
  have HO_w0 := Lib.hid hOO; clear hOO
  have SM_w0 := Lib.hid hsmw1_0; clear hsmw1_0
  go_wp2_with fail
  refine (impl_NewDesk  _ (HEV.out _ (ext_trans HW.out (ext_alloc (ext_refl _) _)))).mono ?_
  rintro e w2 ⟨vw2_0, rfl, ⟨Aw2_0, cw2_0, Bw2_0, ew2_0, rfl, hOw2_0⟩, hsmw2_0, hbw2⟩
  have hcw2 : Below w1.heap.size w1 w2 := (ext_trans (ext_alloc (ext_refl _) _) hbw2)
  have HW_ : Hid (Below w.heap.size w w2) := Lib.hid (ext_trans HW.out hcw2)
  have zw2 := hcw2.size
  have HO_w0_ := Lib.hid (HO_w0.out.ext hcw2); clear HO_w0; have HO_w0 := HO_w0_; clear HO_w0_
  clear HW; have HW := HW_; clear HW_
  have yw2 := Below.size hbw2
  simp only [World.size_alloc] at yw2
  have k_w0_0 : ∀ W', Below w2.heap.size w2 W' → W'.cell? ⟨w1.heap.size, 0, none⟩ = some (.int .i64 newD.f.l) := fun W' h => cell_keep (cell_keep (p := ⟨w1.heap.size, 0, none⟩) (v := .int .i64 newD.f.l) (by simp [go_sem]) hbw2) h
  have k_w0_1 : ∀ W', Below w2.heap.size w2 W' → W'.cell? ⟨w1.heap.size, 1, none⟩ = some (.int .i64 newD.f.w) := fun W' h => cell_keep (cell_keep (p := ⟨w1.heap.size, 1, none⟩) (v := .int .i64 newD.f.w) (by simp [go_sem]) hbw2) h
  have k_w0_2 : ∀ W', Below w2.heap.size w2 W' → W'.cell? ⟨w1.heap.size, 2, none⟩ = some (.int .i64 newD.f.h) := fun W' h => cell_keep (cell_keep (p := ⟨w1.heap.size, 2, none⟩) (v := .int .i64 newD.f.h) (by simp [go_sem]) hbw2) h
  have k_w0_3 : ∀ W', Below w2.heap.size w2 W' → W'.cell? ⟨w1.heap.size, 3, none⟩ = some (.int .i64 newD.f.j) := fun W' h => cell_keep (cell_keep (p := ⟨w1.heap.size, 3, none⟩) (v := .int .i64 newD.f.j) (by simp [go_sem]) hbw2) h
  have k_w0_4 : ∀ W', Below w2.heap.size w2 W' → W'.cell? ⟨w1.heap.size, 4, none⟩ = some (.string newD.nm) := fun W' h => cell_keep (cell_keep (p := ⟨w1.heap.size, 4, none⟩) (v := .string newD.nm) (by simp [go_sem]) hbw2) h
  have k_w0_5 : ∀ W', Below w2.heap.size w2 W' → W'.cell? ⟨w1.heap.size, 5, none⟩ = some (.slice Aw1_0 newD.cs.length cw1_0) := fun W' h => cell_keep (cell_keep (p := ⟨w1.heap.size, 5, none⟩) (v := .slice Aw1_0 newD.cs.length cw1_0) (by simp [go_sem]) hbw2) h
  have k_w0_6 : ∀ W', Below w2.heap.size w2 W' → W'.cell? ⟨w1.heap.size, 6, none⟩ = some (.slice Bw1_0 newD.wall.length ew1_0) := fun W' h => cell_keep (cell_keep (p := ⟨w1.heap.size, 6, none⟩) (v := .slice Bw1_0 newD.wall.length ew1_0) (by simp [go_sem]) hbw2) h
  have k_w0_7 : ∀ W', Below w2.heap.size w2 W' → W'.cell? ⟨w1.heap.size, 7, none⟩ = some (.string newD.log) := fun W' h => cell_keep (cell_keep (p := ⟨w1.heap.size, 7, none⟩) (v := .string newD.log) (by simp [go_sem]) hbw2) h
  have hL : Below w2.heap.size w2 w2 := ext_refl _
  have haL : ∀ o, Below w2.heap.size w2 (w2.alloc o) := fun o => ext_alloc hL o
  clear hcw2 hbw2
  have hOO : ODK w2 (w1.heap.size + 1) (.agg #[.int .i64 newD.f.l, .int .i64 newD.f.w, .int .i64 newD.f.h, .int .i64 newD.f.j, .string newD.nm, .slice Aw2_0 newD.cs.length cw2_0, .slice Bw2_0 newD.wall.length ew2_0, .string newD.log]) newD := by simpa only [World.size_alloc] using (show ODK w2 _ (.agg #[.int .i64 newD.f.l, .int .i64 newD.f.w, .int .i64 newD.f.h, .int .i64 newD.f.j, .string newD.nm, .slice Aw2_0 newD.cs.length cw2_0, .slice Bw2_0 newD.wall.length ew2_0, .string newD.log]) newD from ⟨_, _, _, _, rfl, hOw2_0⟩)
  have HB_g0 : Hid (∀ k, BDK (.agg #[.int .i64 newD.f.l, .int .i64 newD.f.w, .int .i64 newD.f.h, .int .i64 newD.f.j, .string newD.nm, .slice Aw2_0 newD.cs.length cw2_0, .slice Bw2_0 newD.wall.length ew2_0, .string newD.log]) k → w1.heap.size + 1 ≤ k ∧ k < w2.heap.size) := Lib.hid hOO.ge
  have HO_g0 := Lib.hid hOO; clear hOO
  have SM_g0 := Lib.hid hsmw2_0; clear hsmw2_0
  go_wp2_with fail
  refine (eq_DK _ _ newD _ ((HO_g0.out.ext (ext_alloc (ext_refl _) _)).rd) ((HO_w0.out.ext (ext_alloc (ext_refl _) _)).rd)).mono ?_
  rintro e w3 ⟨rfl, hbw3⟩
  have hcw3 : Below w2.heap.size w2 w3 := ext_trans (ext_alloc (ext_refl _) _) hbw3
  have HW_ : Hid (Below w.heap.size w w3) := Lib.hid (ext_trans HW.out hcw3)
  have zw3 := hcw3.size
  have HO_w0_ := Lib.hid (HO_w0.out.ext hcw3); clear HO_w0; have HO_w0 := HO_w0_; clear HO_w0_
  have HO_g0_ := Lib.hid (HO_g0.out.ext hcw3); clear HO_g0; have HO_g0 := HO_g0_; clear HO_g0_
  clear HW; have HW := HW_; clear HW_
  have yw3 := Below.size hbw3
  simp only [World.size_alloc] at yw3
  have k_g0_0 : ∀ W', Below w3.heap.size w3 W' → W'.cell? ⟨w2.heap.size, 0, none⟩ = some (.int .i64 newD.f.l) := fun W' h => cell_keep (cell_keep (p := ⟨w2.heap.size, 0, none⟩) (v := .int .i64 newD.f.l) (by simp [go_sem]) hbw3) h
  have k_g0_1 : ∀ W', Below w3.heap.size w3 W' → W'.cell? ⟨w2.heap.size, 1, none⟩ = some (.int .i64 newD.f.w) := fun W' h => cell_keep (cell_keep (p := ⟨w2.heap.size, 1, none⟩) (v := .int .i64 newD.f.w) (by simp [go_sem]) hbw3) h
  have k_g0_2 : ∀ W', Below w3.heap.size w3 W' → W'.cell? ⟨w2.heap.size, 2, none⟩ = some (.int .i64 newD.f.h) := fun W' h => cell_keep (cell_keep (p := ⟨w2.heap.size, 2, none⟩) (v := .int .i64 newD.f.h) (by simp [go_sem]) hbw3) h
  have k_g0_3 : ∀ W', Below w3.heap.size w3 W' → W'.cell? ⟨w2.heap.size, 3, none⟩ = some (.int .i64 newD.f.j) := fun W' h => cell_keep (cell_keep (p := ⟨w2.heap.size, 3, none⟩) (v := .int .i64 newD.f.j) (by simp [go_sem]) hbw3) h
  have k_g0_4 : ∀ W', Below w3.heap.size w3 W' → W'.cell? ⟨w2.heap.size, 4, none⟩ = some (.string newD.nm) := fun W' h => cell_keep (cell_keep (p := ⟨w2.heap.size, 4, none⟩) (v := .string newD.nm) (by simp [go_sem]) hbw3) h
  have k_g0_5 : ∀ W', Below w3.heap.size w3 W' → W'.cell? ⟨w2.heap.size, 5, none⟩ = some (.slice Aw2_0 newD.cs.length cw2_0) := fun W' h => cell_keep (cell_keep (p := ⟨w2.heap.size, 5, none⟩) (v := .slice Aw2_0 newD.cs.length cw2_0) (by simp [go_sem]) hbw3) h
  have k_g0_6 : ∀ W', Below w3.heap.size w3 W' → W'.cell? ⟨w2.heap.size, 6, none⟩ = some (.slice Bw2_0 newD.wall.length ew2_0) := fun W' h => cell_keep (cell_keep (p := ⟨w2.heap.size, 6, none⟩) (v := .slice Bw2_0 newD.wall.length ew2_0) (by simp [go_sem]) hbw3) h
  have k_g0_7 : ∀ W', Below w3.heap.size w3 W' → W'.cell? ⟨w2.heap.size, 7, none⟩ = some (.string newD.log) := fun W' h => cell_keep (cell_keep (p := ⟨w2.heap.size, 7, none⟩) (v := .string newD.log) (by simp [go_sem]) hbw3) h
  replace k_w0_0 : ∀ W', Below w3.heap.size w3 W' → W'.cell? ⟨w1.heap.size, 0, none⟩ = some (.int .i64 newD.f.l) := fun W' h => k_w0_0 W' (ext_trans (ext_trans hL hcw3) h)
  replace k_w0_1 : ∀ W', Below w3.heap.size w3 W' → W'.cell? ⟨w1.heap.size, 1, none⟩ = some (.int .i64 newD.f.w) := fun W' h => k_w0_1 W' (ext_trans (ext_trans hL hcw3) h)
  replace k_w0_2 : ∀ W', Below w3.heap.size w3 W' → W'.cell? ⟨w1.heap.size, 2, none⟩ = some (.int .i64 newD.f.h) := fun W' h => k_w0_2 W' (ext_trans (ext_trans hL hcw3) h)
  replace k_w0_3 : ∀ W', Below w3.heap.size w3 W' → W'.cell? ⟨w1.heap.size, 3, none⟩ = some (.int .i64 newD.f.j) := fun W' h => k_w0_3 W' (ext_trans (ext_trans hL hcw3) h)
  replace k_w0_4 : ∀ W', Below w3.heap.size w3 W' → W'.cell? ⟨w1.heap.size, 4, none⟩ = some (.string newD.nm) := fun W' h => k_w0_4 W' (ext_trans (ext_trans hL hcw3) h)
  replace k_w0_5 : ∀ W', Below w3.heap.size w3 W' → W'.cell? ⟨w1.heap.size, 5, none⟩ = some (.slice Aw1_0 newD.cs.length cw1_0) := fun W' h => k_w0_5 W' (ext_trans (ext_trans hL hcw3) h)
  replace k_w0_6 : ∀ W', Below w3.heap.size w3 W' → W'.cell? ⟨w1.heap.size, 6, none⟩ = some (.slice Bw1_0 newD.wall.length ew1_0) := fun W' h => k_w0_6 W' (ext_trans (ext_trans hL hcw3) h)
  replace k_w0_7 : ∀ W', Below w3.heap.size w3 W' → W'.cell? ⟨w1.heap.size, 7, none⟩ = some (.string newD.log) := fun W' h => k_w0_7 W' (ext_trans (ext_trans hL hcw3) h)
  clear hL haL
  have hL : Below w3.heap.size w3 w3 := ext_refl _
  have haL : ∀ o, Below w3.heap.size w3 (w3.alloc o) := fun o => ext_alloc hL o
  clear hbw3 hcw3
  go_wp2_with fail
  refine (mark_DK _ _ newD 1 (by omega) (by first | omega | (have q_w0 := SM_w0.out; unfold SmDK at q_w0; have q_g0 := SM_g0.out; unfold SmDK at q_g0; omega)) _ SM_g0.out (HO_g0.out.ext (ext_refl _))).mono ?_
  rintro e w4 ⟨rfl, hOw4, hgw4⟩
  have zw4 := hgw4.size
  have HW_ : Hid (Below w.heap.size w w4) := Lib.hid (Chg.ext (ext_trans HW.out (ext_refl _)) hgw4 (fun k hk => by have := HB_g0.out k hk; omega)); clear HW; have HW := HW_; clear HW_
  have HO_w0_ := Lib.hid ((HO_w0.out.ext (ext_refl _)).chg hgw4 (fun k hk hs => by have h1 := HB_w0.out k hk; have h2 := HB_g0.out k hs; omega)); clear HO_w0; have HO_w0 := HO_w0_; clear HO_w0_
  clear HO_g0; have HO_g0 := Lib.hid hOw4; clear hOw4
  replace k_w0_0 : ∀ W', Below w4.heap.size w4 W' → W'.cell? ⟨w1.heap.size, 0, none⟩ = some (.int .i64 newD.f.l) := fun W' h => cell_keep (hgw4.cell (p := ⟨w1.heap.size, 0, none⟩) (k_w0_0 _ hL) (fun hs => by have h2 := HB_g0.out (w1.heap.size) hs; omega)) h
  replace k_w0_1 : ∀ W', Below w4.heap.size w4 W' → W'.cell? ⟨w1.heap.size, 1, none⟩ = some (.int .i64 newD.f.w) := fun W' h => cell_keep (hgw4.cell (p := ⟨w1.heap.size, 1, none⟩) (k_w0_1 _ hL) (fun hs => by have h2 := HB_g0.out (w1.heap.size) hs; omega)) h
  replace k_w0_2 : ∀ W', Below w4.heap.size w4 W' → W'.cell? ⟨w1.heap.size, 2, none⟩ = some (.int .i64 newD.f.h) := fun W' h => cell_keep (hgw4.cell (p := ⟨w1.heap.size, 2, none⟩) (k_w0_2 _ hL) (fun hs => by have h2 := HB_g0.out (w1.heap.size) hs; omega)) h
  replace k_w0_3 : ∀ W', Below w4.heap.size w4 W' → W'.cell? ⟨w1.heap.size, 3, none⟩ = some (.int .i64 newD.f.j) := fun W' h => cell_keep (hgw4.cell (p := ⟨w1.heap.size, 3, none⟩) (k_w0_3 _ hL) (fun hs => by have h2 := HB_g0.out (w1.heap.size) hs; omega)) h
  replace k_w0_4 : ∀ W', Below w4.heap.size w4 W' → W'.cell? ⟨w1.heap.size, 4, none⟩ = some (.string newD.nm) := fun W' h => cell_keep (hgw4.cell (p := ⟨w1.heap.size, 4, none⟩) (k_w0_4 _ hL) (fun hs => by have h2 := HB_g0.out (w1.heap.size) hs; omega)) h
  replace k_w0_5 : ∀ W', Below w4.heap.size w4 W' → W'.cell? ⟨w1.heap.size, 5, none⟩ = some (.slice Aw1_0 newD.cs.length cw1_0) := fun W' h => cell_keep (hgw4.cell (p := ⟨w1.heap.size, 5, none⟩) (k_w0_5 _ hL) (fun hs => by have h2 := HB_g0.out (w1.heap.size) hs; omega)) h
  replace k_w0_6 : ∀ W', Below w4.heap.size w4 W' → W'.cell? ⟨w1.heap.size, 6, none⟩ = some (.slice Bw1_0 newD.wall.length ew1_0) := fun W' h => cell_keep (hgw4.cell (p := ⟨w1.heap.size, 6, none⟩) (k_w0_6 _ hL) (fun hs => by have h2 := HB_g0.out (w1.heap.size) hs; omega)) h
  replace k_w0_7 : ∀ W', Below w4.heap.size w4 W' → W'.cell? ⟨w1.heap.size, 7, none⟩ = some (.string newD.log) := fun W' h => cell_keep (hgw4.cell (p := ⟨w1.heap.size, 7, none⟩) (k_w0_7 _ hL) (fun hs => by have h2 := HB_g0.out (w1.heap.size) hs; omega)) h
  replace k_g0_0 : ∀ W', Below w4.heap.size w4 W' → W'.cell? ⟨w2.heap.size, 0, none⟩ = some (.int .i64 newD.f.l) := fun W' h => cell_keep (hgw4.cell (p := ⟨w2.heap.size, 0, none⟩) (k_g0_0 _ hL) (fun hs => by have h2 := HB_g0.out (w2.heap.size) hs; omega)) h
  replace k_g0_1 : ∀ W', Below w4.heap.size w4 W' → W'.cell? ⟨w2.heap.size, 1, none⟩ = some (.int .i64 newD.f.w) := fun W' h => cell_keep (hgw4.cell (p := ⟨w2.heap.size, 1, none⟩) (k_g0_1 _ hL) (fun hs => by have h2 := HB_g0.out (w2.heap.size) hs; omega)) h
  replace k_g0_2 : ∀ W', Below w4.heap.size w4 W' → W'.cell? ⟨w2.heap.size, 2, none⟩ = some (.int .i64 newD.f.h) := fun W' h => cell_keep (hgw4.cell (p := ⟨w2.heap.size, 2, none⟩) (k_g0_2 _ hL) (fun hs => by have h2 := HB_g0.out (w2.heap.size) hs; omega)) h
  replace k_g0_3 : ∀ W', Below w4.heap.size w4 W' → W'.cell? ⟨w2.heap.size, 3, none⟩ = some (.int .i64 newD.f.j) := fun W' h => cell_keep (hgw4.cell (p := ⟨w2.heap.size, 3, none⟩) (k_g0_3 _ hL) (fun hs => by have h2 := HB_g0.out (w2.heap.size) hs; omega)) h
  replace k_g0_4 : ∀ W', Below w4.heap.size w4 W' → W'.cell? ⟨w2.heap.size, 4, none⟩ = some (.string newD.nm) := fun W' h => cell_keep (hgw4.cell (p := ⟨w2.heap.size, 4, none⟩) (k_g0_4 _ hL) (fun hs => by have h2 := HB_g0.out (w2.heap.size) hs; omega)) h
  replace k_g0_5 : ∀ W', Below w4.heap.size w4 W' → W'.cell? ⟨w2.heap.size, 5, none⟩ = some (.slice Aw2_0 newD.cs.length cw2_0) := fun W' h => cell_keep (hgw4.cell (p := ⟨w2.heap.size, 5, none⟩) (k_g0_5 _ hL) (fun hs => by have h2 := HB_g0.out (w2.heap.size) hs; omega)) h
  replace k_g0_6 : ∀ W', Below w4.heap.size w4 W' → W'.cell? ⟨w2.heap.size, 6, none⟩ = some (.slice Bw2_0 newD.wall.length ew2_0) := fun W' h => cell_keep (hgw4.cell (p := ⟨w2.heap.size, 6, none⟩) (k_g0_6 _ hL) (fun hs => by have h2 := HB_g0.out (w2.heap.size) hs; omega)) h
  replace k_g0_7 : ∀ W', Below w4.heap.size w4 W' → W'.cell? ⟨w2.heap.size, 7, none⟩ = some (.string newD.log) := fun W' h => cell_keep (hgw4.cell (p := ⟨w2.heap.size, 7, none⟩) (k_g0_7 _ hL) (fun hs => by have h2 := HB_g0.out (w2.heap.size) hs; omega)) h
  clear hL haL
  have hL : Below w4.heap.size w4 w4 := ext_refl _
  have haL : ∀ o, Below w4.heap.size w4 (w4.alloc o) := fun o => ext_alloc hL o
  clear hgw4
  go_wp2_with fail
  refine (held_DK _ newD 1 (by omega) (by first | omega | (have q_w0 := SM_w0.out; unfold SmDK at q_w0; have q_g0 := SM_g0.out; unfold SmDK at q_g0; omega)) _ SM_g0.out ((HO_g0.out.ext (ext_refl _)).rd)).mono ?_
  rintro e w5 ⟨rfl, hbw5⟩
  have hcw5 : Below w4.heap.size w4 w5 := ext_trans (ext_refl _) hbw5
  have HW_ : Hid (Below w.heap.size w w5) := Lib.hid (ext_trans HW.out hcw5)
  have zw5 := hcw5.size
  have HO_w0_ := Lib.hid (HO_w0.out.ext hcw5); clear HO_w0; have HO_w0 := HO_w0_; clear HO_w0_
  have HO_g0_ := Lib.hid (HO_g0.out.ext hcw5); clear HO_g0; have HO_g0 := HO_g0_; clear HO_g0_
  clear HW; have HW := HW_; clear HW_
  replace hL : Below w4.heap.size w4 w5 := ext_trans hL hcw5
  clear haL
  have haL : ∀ o, Below w4.heap.size w4 (w5.alloc o) := fun o => ext_alloc hL o
  clear hbw5 hcw5
  go_wp2_with fail
  refine (impl_NewDesk  _ (HEV.out _ (ext_trans HW.out (ext_refl _)))).mono ?_
  rintro e w6 ⟨vw6_0, rfl, ⟨Aw6_0, cw6_0, Bw6_0, ew6_0, rfl, hOw6_0⟩, hsmw6_0, hbw6⟩
  have hcw6 : Below w5.heap.size w5 w6 := (ext_trans (ext_refl _) hbw6)
  have HW_ : Hid (Below w.heap.size w w6) := Lib.hid (ext_trans HW.out hcw6)
  have zw6 := hcw6.size
  have HO_w0_ := Lib.hid (HO_w0.out.ext hcw6); clear HO_w0; have HO_w0 := HO_w0_; clear HO_w0_
  have HO_g0_ := Lib.hid (HO_g0.out.ext hcw6); clear HO_g0; have HO_g0 := HO_g0_; clear HO_g0_
  clear HW; have HW := HW_; clear HW_
  replace hL : Below w4.heap.size w4 w6 := ext_trans hL hcw6
  clear haL
  have haL : ∀ o, Below w4.heap.size w4 (w6.alloc o) := fun o => ext_alloc hL o
  clear hcw6 hbw6
  have hOO : ODK w6 (w5.heap.size) (.agg #[.int .i64 newD.f.l, .int .i64 newD.f.w, .int .i64 newD.f.h, .int .i64 newD.f.j, .string newD.nm, .slice Aw6_0 newD.cs.length cw6_0, .slice Bw6_0 newD.wall.length ew6_0, .string newD.log]) newD := ⟨_, _, _, _, rfl, hOw6_0⟩
  have HB_h0 : Hid (∀ k, BDK (.agg #[.int .i64 newD.f.l, .int .i64 newD.f.w, .int .i64 newD.f.h, .int .i64 newD.f.j, .string newD.nm, .slice Aw6_0 newD.cs.length cw6_0, .slice Bw6_0 newD.wall.length ew6_0, .string newD.log]) k → w5.heap.size ≤ k ∧ k < w6.heap.size) := Lib.hid hOO.ge
  have HO_h0 := Lib.hid hOO; clear hOO
  have SM_h0 := Lib.hid hsmw6_0; clear hsmw6_0
  go_wp2_with fail
  refine (eq_DK _ _ newD _ ((HO_h0.out.ext (ext_alloc (ext_refl _) _)).rd) ((HO_w0.out.ext (ext_alloc (ext_refl _) _)).rd)).mono ?_
  rintro e w7 ⟨rfl, hbw7⟩
  have hcw7 : Below w6.heap.size w6 w7 := ext_trans (ext_alloc (ext_refl _) _) hbw7
  have HW_ : Hid (Below w.heap.size w w7) := Lib.hid (ext_trans HW.out hcw7)
  have zw7 := hcw7.size
  have HO_w0_ := Lib.hid (HO_w0.out.ext hcw7); clear HO_w0; have HO_w0 := HO_w0_; clear HO_w0_
  have HO_g0_ := Lib.hid (HO_g0.out.ext hcw7); clear HO_g0; have HO_g0 := HO_g0_; clear HO_g0_
  have HO_h0_ := Lib.hid (HO_h0.out.ext hcw7); clear HO_h0; have HO_h0 := HO_h0_; clear HO_h0_
  clear HW; have HW := HW_; clear HW_
  have yw7 := Below.size hbw7
  simp only [World.size_alloc] at yw7
  have k_h0_0 : ∀ W', Below w7.heap.size w7 W' → W'.cell? ⟨w6.heap.size, 0, none⟩ = some (.int .i64 newD.f.l) := fun W' h => cell_keep (cell_keep (p := ⟨w6.heap.size, 0, none⟩) (v := .int .i64 newD.f.l) (by simp [go_sem]) hbw7) h
  have k_h0_1 : ∀ W', Below w7.heap.size w7 W' → W'.cell? ⟨w6.heap.size, 1, none⟩ = some (.int .i64 newD.f.w) := fun W' h => cell_keep (cell_keep (p := ⟨w6.heap.size, 1, none⟩) (v := .int .i64 newD.f.w) (by simp [go_sem]) hbw7) h
  have k_h0_2 : ∀ W', Below w7.heap.size w7 W' → W'.cell? ⟨w6.heap.size, 2, none⟩ = some (.int .i64 newD.f.h) := fun W' h => cell_keep (cell_keep (p := ⟨w6.heap.size, 2, none⟩) (v := .int .i64 newD.f.h) (by simp [go_sem]) hbw7) h
  have k_h0_3 : ∀ W', Below w7.heap.size w7 W' → W'.cell? ⟨w6.heap.size, 3, none⟩ = some (.int .i64 newD.f.j) := fun W' h => cell_keep (cell_keep (p := ⟨w6.heap.size, 3, none⟩) (v := .int .i64 newD.f.j) (by simp [go_sem]) hbw7) h
  have k_h0_4 : ∀ W', Below w7.heap.size w7 W' → W'.cell? ⟨w6.heap.size, 4, none⟩ = some (.string newD.nm) := fun W' h => cell_keep (cell_keep (p := ⟨w6.heap.size, 4, none⟩) (v := .string newD.nm) (by simp [go_sem]) hbw7) h
  have k_h0_5 : ∀ W', Below w7.heap.size w7 W' → W'.cell? ⟨w6.heap.size, 5, none⟩ = some (.slice Aw6_0 newD.cs.length cw6_0) := fun W' h => cell_keep (cell_keep (p := ⟨w6.heap.size, 5, none⟩) (v := .slice Aw6_0 newD.cs.length cw6_0) (by simp [go_sem]) hbw7) h
  have k_h0_6 : ∀ W', Below w7.heap.size w7 W' → W'.cell? ⟨w6.heap.size, 6, none⟩ = some (.slice Bw6_0 newD.wall.length ew6_0) := fun W' h => cell_keep (cell_keep (p := ⟨w6.heap.size, 6, none⟩) (v := .slice Bw6_0 newD.wall.length ew6_0) (by simp [go_sem]) hbw7) h
  have k_h0_7 : ∀ W', Below w7.heap.size w7 W' → W'.cell? ⟨w6.heap.size, 7, none⟩ = some (.string newD.log) := fun W' h => cell_keep (cell_keep (p := ⟨w6.heap.size, 7, none⟩) (v := .string newD.log) (by simp [go_sem]) hbw7) h
  replace k_w0_0 : ∀ W', Below w7.heap.size w7 W' → W'.cell? ⟨w1.heap.size, 0, none⟩ = some (.int .i64 newD.f.l) := fun W' h => k_w0_0 W' (ext_trans (ext_trans hL hcw7) h)
  replace k_w0_1 : ∀ W', Below w7.heap.size w7 W' → W'.cell? ⟨w1.heap.size, 1, none⟩ = some (.int .i64 newD.f.w) := fun W' h => k_w0_1 W' (ext_trans (ext_trans hL hcw7) h)
  replace k_w0_2 : ∀ W', Below w7.heap.size w7 W' → W'.cell? ⟨w1.heap.size, 2, none⟩ = some (.int .i64 newD.f.h) := fun W' h => k_w0_2 W' (ext_trans (ext_trans hL hcw7) h)
  replace k_w0_3 : ∀ W', Below w7.heap.size w7 W' → W'.cell? ⟨w1.heap.size, 3, none⟩ = some (.int .i64 newD.f.j) := fun W' h => k_w0_3 W' (ext_trans (ext_trans hL hcw7) h)
  replace k_w0_4 : ∀ W', Below w7.heap.size w7 W' → W'.cell? ⟨w1.heap.size, 4, none⟩ = some (.string newD.nm) := fun W' h => k_w0_4 W' (ext_trans (ext_trans hL hcw7) h)
  replace k_w0_5 : ∀ W', Below w7.heap.size w7 W' → W'.cell? ⟨w1.heap.size, 5, none⟩ = some (.slice Aw1_0 newD.cs.length cw1_0) := fun W' h => k_w0_5 W' (ext_trans (ext_trans hL hcw7) h)
  replace k_w0_6 : ∀ W', Below w7.heap.size w7 W' → W'.cell? ⟨w1.heap.size, 6, none⟩ = some (.slice Bw1_0 newD.wall.length ew1_0) := fun W' h => k_w0_6 W' (ext_trans (ext_trans hL hcw7) h)
  replace k_w0_7 : ∀ W', Below w7.heap.size w7 W' → W'.cell? ⟨w1.heap.size, 7, none⟩ = some (.string newD.log) := fun W' h => k_w0_7 W' (ext_trans (ext_trans hL hcw7) h)
  replace k_g0_0 : ∀ W', Below w7.heap.size w7 W' → W'.cell? ⟨w2.heap.size, 0, none⟩ = some (.int .i64 newD.f.l) := fun W' h => k_g0_0 W' (ext_trans (ext_trans hL hcw7) h)
  replace k_g0_1 : ∀ W', Below w7.heap.size w7 W' → W'.cell? ⟨w2.heap.size, 1, none⟩ = some (.int .i64 newD.f.w) := fun W' h => k_g0_1 W' (ext_trans (ext_trans hL hcw7) h)
  replace k_g0_2 : ∀ W', Below w7.heap.size w7 W' → W'.cell? ⟨w2.heap.size, 2, none⟩ = some (.int .i64 newD.f.h) := fun W' h => k_g0_2 W' (ext_trans (ext_trans hL hcw7) h)
  replace k_g0_3 : ∀ W', Below w7.heap.size w7 W' → W'.cell? ⟨w2.heap.size, 3, none⟩ = some (.int .i64 newD.f.j) := fun W' h => k_g0_3 W' (ext_trans (ext_trans hL hcw7) h)
  replace k_g0_4 : ∀ W', Below w7.heap.size w7 W' → W'.cell? ⟨w2.heap.size, 4, none⟩ = some (.string newD.nm) := fun W' h => k_g0_4 W' (ext_trans (ext_trans hL hcw7) h)
  replace k_g0_5 : ∀ W', Below w7.heap.size w7 W' → W'.cell? ⟨w2.heap.size, 5, none⟩ = some (.slice Aw2_0 newD.cs.length cw2_0) := fun W' h => k_g0_5 W' (ext_trans (ext_trans hL hcw7) h)
  replace k_g0_6 : ∀ W', Below w7.heap.size w7 W' → W'.cell? ⟨w2.heap.size, 6, none⟩ = some (.slice Bw2_0 newD.wall.length ew2_0) := fun W' h => k_g0_6 W' (ext_trans (ext_trans hL hcw7) h)
  replace k_g0_7 : ∀ W', Below w7.heap.size w7 W' → W'.cell? ⟨w2.heap.size, 7, none⟩ = some (.string newD.log) := fun W' h => k_g0_7 W' (ext_trans (ext_trans hL hcw7) h)
  clear hL haL
  have hL : Below w7.heap.size w7 w7 := ext_refl _
  have haL : ∀ o, Below w7.heap.size w7 (w7.alloc o) := fun o => ext_alloc hL o
  clear hbw7 hcw7
  go_wp2_with fail
  refine (held_DK _ newD 1 (by omega) (by first | omega | (have q_w0 := SM_w0.out; unfold SmDK at q_w0; have q_g0 := SM_g0.out; unfold SmDK at q_g0; have q_h0 := SM_h0.out; unfold SmDK at q_h0; omega)) _ SM_g0.out ((HO_g0.out.ext (ext_refl _)).rd)).mono ?_
  rintro e w8 ⟨rfl, hbw8⟩
  have hcw8 : Below w7.heap.size w7 w8 := ext_trans (ext_refl _) hbw8
  have HW_ : Hid (Below w.heap.size w w8) := Lib.hid (ext_trans HW.out hcw8)
  have zw8 := hcw8.size
  have HO_w0_ := Lib.hid (HO_w0.out.ext hcw8); clear HO_w0; have HO_w0 := HO_w0_; clear HO_w0_
  have HO_g0_ := Lib.hid (HO_g0.out.ext hcw8); clear HO_g0; have HO_g0 := HO_g0_; clear HO_g0_
  have HO_h0_ := Lib.hid (HO_h0.out.ext hcw8); clear HO_h0; have HO_h0 := HO_h0_; clear HO_h0_
  clear HW; have HW := HW_; clear HW_
  replace hL : Below w7.heap.size w7 w8 := ext_trans hL hcw8
  clear haL
  have haL : ∀ o, Below w7.heap.size w7 (w8.alloc o) := fun o => ext_alloc hL o
  clear hbw8 hcw8
  go_wp2_with fail
  go_ret
  exact ⟨rfl, ext_trans HW.out (ext_refl _)⟩

theorem rd_FnExactNewDesk : ∀ t ∈ Tryd.f3.params.toList, Tryd.prog.readableRec t = true ∧ t < Tryd.prog.types.size := by
  have h : Tryd.f3.params.toList.all (fun t => Tryd.prog.readableRec t && decide (t < Tryd.prog.types.size)) = true := by kernel_rfl
  intro t ht
  have := List.all_eq_true.1 h t ht
  simpa using this

set_option maxRecDepth 100000 in
theorem lifted_FnExactNewDesk (os : Os) (started : os.Started) (H : Type) (enc : TypeId × Value → H) :
    ReturnsInHanded {} Tryd.checked os 3 .any (fun w args => (Rows.fnExactNewDeskSpec.pre enc Tryd.prog Tryd.f3 [] false w args ∧ laidMetH Tryd.prog Rows.fnExactNewDeskRow.laid w) ∧ sizedMet enc Tryd.prog Tryd.f3 (OpenSpec.ofChange Rows.fnExactNewDeskSpec) false w args)
      (Rows.fnExactNewDeskSpec.post enc Tryd.prog Tryd.f3 false true false false) := by
  have plain : ∀ w, laidMetH Tryd.prog Rows.fnExactNewDeskRow.laid w = laidMet Tryd.prog Rows.fnExactNewDeskRow.laid w := fun w => MakeChecks.laidMetH_plain _ _ _ (by kernel_rfl)
  refine returns_door (C := Tryd.checked) (X := fun w _ => laidMetH Tryd.prog Rows.fnExactNewDeskRow.laid w) (fun _ _ _ hh h => h.of_heap hh) own_knob started (by kernel_rfl) Tryd.func3
    (ChangeSpec.witness_shaped (enc := enc) (C := Tryd.checked) (os := os) (X := fun w _ => laidMetH Tryd.prog Rows.fnExactNewDeskRow.laid w) false (World.laidAll Tryd.prog os Rows.fnExactNewDeskRow.laid) #[] 8 (World.laidAll_os _ _ _)
      (World.shaped_of_ZipB (by kernel_rfl) (by kernel_rfl)) (by kernel_rfl) (by kernel_rfl) (by kernel_rfl)
      (by rw [plain]; exact laidMet_laidAll _ (by kernel_rfl) (by kernel_rfl))) ?_
  intro W base args ds gs before hval0 hW hL hsh
  rw [plain] at hL
  have hEnv : EnvN W := ⟨hsh, lib_of hL (by simp [Rows.fnExactNewDeskRow])⟩
  have hval : ∀ (j : Nat) t v, Tryd.f3.params[j]? = some t → args[j]? = some v → Value.okWide Tryd.prog W .any base t v := hval0
  have hW' : DataW.Whole enc Tryd.prog Tryd.f3.params.toList (Rows.fnExactNewDeskSpec).vars false W args.toList ds gs before := hW
  obtain ⟨p, q, hA0, hV, _, hfz, hnd⟩ := hW
  have hA : DataW.TrodAll enc Tryd.prog W 0 (fun _ => true) true Tryd.f3.params.toList args.toList ds p := hA0
  rw [Tryd.params3] at hA hval
  obtain ⟨e1, e2, e3⟩ := trodAll_none hA
  subst e2 e3
  obtain rfl : args = #[] := by cases args; simp_all
  obtain ⟨_, _, _, _, dg, _, rfl, _⟩ := trodVars_one hV
  clear hA0 hval0
  refine (law_FnExactNewDesk  W hEnv).mono fun e W' ⟨he, hb⟩ => ?_
  subst he
  exact ⟨_, rfl, law_postV rd_FnExactNewDesk rfl rfl hW' rfl hb⟩

theorem bare_FnExactNewDesk : Rows.FnExactNewDeskSaid :=
  OpenClaim.holds_of_wide 3 Tryd.f3 rfl rfl rfl rfl rfl rfl rfl ⟨rfl, rfl, rfl, rfl, rfl⟩ rfl rfl rfl rfl rfl (by kernel_rfl) Tryd.func3 (by kernel_rfl)
    (of_decide_eq_true (by kernel_rfl)) (by unfold Func.isWrapper; first | (rw [if_pos (by decide +kernel)]; kernel_rfl) | (rw [if_neg (by decide +kernel)]; exact ⟨rfl, rfl⟩))
    (fun os started H enc _ => lifted_FnExactNewDesk os started H enc)

theorem wants_FnExactNewDesk : Tryd.f3.params.toList.all (fun u => !Tryd.prog.wantsStandIn u) = true := by kernel_rfl
theorem named_FnExactNewDesk : Tryd.prog.funcNamed "loop.example/g01042/laws.FnExactNewDesk" = some 3 := by kernel_rfl
theorem holds_FnExactNewDesk : Rows.FnExactNewDeskCardSaid :=
  Claim7.holds_tied_plain_at .later [] Rows.fnExactNewDeskCard.laidKinds true Rows.fnExactNewDeskCard.stood.harness Rows.fnExactNewDeskCard.stood.looks
    bare_FnExactNewDesk (fun _ h => by cases h) (by kernel_rfl) (fun _ h => by cases h) fnExactNewDesk_row_tie rfl ⟨rfl, rfl⟩ (by kernel_rfl) rfl
    (fun f fn hf hfn => by
      obtain rfl : f = 3 := (Option.some.inj (named_FnExactNewDesk.symm.trans hf)).symm
      obtain rfl : fn = Tryd.f3 := (Option.some.inj (Tryd.func3.symm.trans hfn)).symm
      exact ⟨by kernel_rfl, fun j t ht => by
        have hm : t ∈ Tryd.f3.params.toList := by simpa using Array.mem_of_getElem? ht
        exact (show Tryd.prog.wantsStandIn t = false by simpa using List.all_eq_true.1 wants_FnExactNewDesk t hm)⟩)
    (by kernel_rfl)


end Go.Proofs.YtpoalklakhegoaaDoor
