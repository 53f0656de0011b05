/-
  The law FnLaying: its walk. Printed by mklay.py.
-/
import Derived.Test.YtikiomjgnpdldaaSitP
import Derived.Test.YtikiomjgnpdldaaDrwS5
import Derived.Test.YtikiomjgnpdldaaDrwS6
import Derived.Test.YtikiomjgnpdldaaF6
import Derived.Test.YtikiomjgnpdldaaDays13
import Derived.Deep.DeepCutAuto
import Derived.BigQuiet
import Derived.Lib.QuietBelow
import Derived.Deep.LoopGhost
namespace Go.Proofs.Ytikiomjgnpdldaa
open Go.ChangeShapes Go.WideShapes Go.ChangeAt Go.RowKit Go.Sort
set_option linter.unusedVariables false
set_option maxRecDepth 100000

set_option maxHeartbeats 6400000 in
theorem law_FnLaying (v0 : Value) (x0 : List UInt8) (w : World) (h0 : RB w v0 x0) :
    Calls Try.prog 4 #[v0] w (Ret (.bool true) w) := by
  have H0 := Lib.hid h0
  clear h0
  go_enter Try.func4, Try.ntmps4
  go_wp2_with fail
  refine (f6_big v0 x0 _ H0.out).mono ?_
  rintro e w1 ⟨rfl, rfl⟩
  cases hlg : decide (4096 < x0.length) with
  | true =>
    clear hlg
    go_wp2_with fail
    go_ret
    exact ⟨rfl, ext_refl _⟩
  | false =>
  clear hlg
  have HB := Lib.hid (ext_refl w)
  go_wp2_with fail
  refine (draw_PlanLaying v0 x0 _ (H0.out.ext HB.out)).mono ?_
  rintro e w2 ⟨u, s1, xs1, cu, br, ea, rfl, hO, hsm, hb⟩
  obtain ⟨A1, c1, rfl, hI⟩ := hO
  have HS1 := Lib.hid hsm
  replace HB := Lib.hid (ext_trans HB.out hb)
  clear hsm hb
  have HC1 : Hid (∀ W', Below (w2.alloc (.cells #[.string s1, .slice A1 xs1.length c1] 26)).heap.size (w2.alloc (.cells #[.string s1, .slice A1 xs1.length c1] 26)) W' → W'.cell? ⟨w2.heap.size, 0, none⟩ = some (.string s1) ∧ W'.cell? ⟨w2.heap.size, 1, none⟩ = some (.slice A1 xs1.length c1) ∧ ST W' (.agg #[.string s1, .slice A1 xs1.length c1]) s1 xs1) := Lib.hid fun W' h => ⟨cell_keep (by simp [go_sem]) h, cell_keep (by simp [go_sem]) h, ⟨A1, c1, rfl, ((hI.rd).ext (ext_alloc1 _ _)).ext h⟩⟩
  have hb := ext_alloc1 w2 (.cells #[.string s1, .slice A1 xs1.length c1] 26)
  replace HB := Lib.hid (ext_trans HB.out hb)
  clear hb
  go_wp2_with fail
  generalize hww : w2.alloc (.cells #[.string s1, .slice A1 xs1.length c1] 26) = w3 at *
  clear hww
  generalize w2.heap.size = p1 at *
  clear hI
  obtain ⟨M1, k1, hm1⟩ : ∃ y0 y1, mPlanLaying s1 xs1 cu br ea = (y0, y1) := ⟨_, _, rfl⟩
  have HM1 := Lib.hid hm1
  obtain ⟨q1a, q1b, hst1⟩ := HC1.out _ (ext_refl _)
  have hI := impl_PlanLaying (.agg #[.string s1, .slice A1 xs1.length c1]) s1 xs1 cu br ea w3 hst1 HS1.out
  rw [hm1] at hI
  have HI := Lib.hid hI
  clear hI
  refine (show Calls _ _ _ _ _ from HI.out).mono ?_
  rintro e w4 ⟨u, rfl, hO, hsm, hb⟩
  obtain ⟨B1, d1, rfl, hd1, hd2, hd3⟩ := hO.rd.open2
  clear q1a q1b hst1
  replace HC1 := Lib.hid (fun W' h => HC1.out W' (ext_trans hb h))
  replace HB := Lib.hid (ext_trans HB.out hb)
  have HR1 := Lib.hid hO.rd
  clear HI hO hb hsm hd1 hd2 hd3
  obtain ⟨q1a, q1b, hst1⟩ := HC1.out _ (ext_refl _)
  have hI := spec_PlanLaying (.agg #[.string s1, .slice A1 xs1.length c1]) s1 xs1 cu br ea w4 hst1 HS1.out
  rw [hm1] at hI
  have HI := Lib.hid hI
  clear hI
  go_wp2_with fail
  refine (show Calls _ _ _ _ _ from HI.out).mono ?_
  rintro e w5 ⟨u, rfl, hO, hsm, hb⟩
  obtain ⟨B2, d2, rfl, hd1, hd2, hd3⟩ := hO.rd.open2
  clear q1a q1b hst1
  replace HC1 := Lib.hid (fun W' h => HC1.out W' (ext_trans hb h))
  replace HR1 := Lib.hid (HR1.out.ext hb)
  replace HB := Lib.hid (ext_trans HB.out hb)
  have HR2 := Lib.hid hO.rd
  clear HI hO hb hsm hd1 hd2 hd3
  go_wp2_with fail
  refine (draw_SafeDays v0 x0 _ (H0.out.ext HB.out)).mono ?_
  rintro e w6 ⟨u, s2, xs2, wt, rfl, hO, hsm, hb⟩
  obtain ⟨A2, c2, rfl, hI⟩ := hO
  have HS2 := Lib.hid hsm
  replace HC1 := Lib.hid (fun W' h => HC1.out W' (ext_trans hb h))
  replace HR1 := Lib.hid (HR1.out.ext hb)
  replace HR2 := Lib.hid (HR2.out.ext hb)
  replace HB := Lib.hid (ext_trans HB.out hb)
  clear hsm hb
  have HC2 : Hid (∀ W', Below (w6.alloc (.cells #[.string s2, .slice A2 xs2.length c2] 26)).heap.size (w6.alloc (.cells #[.string s2, .slice A2 xs2.length c2] 26)) W' → W'.cell? ⟨w6.heap.size, 0, none⟩ = some (.string s2) ∧ W'.cell? ⟨w6.heap.size, 1, none⟩ = some (.slice A2 xs2.length c2) ∧ ST W' (.agg #[.string s2, .slice A2 xs2.length c2]) s2 xs2) := Lib.hid fun W' h => ⟨cell_keep (by simp [go_sem]) h, cell_keep (by simp [go_sem]) h, ⟨A2, c2, rfl, ((hI.rd).ext (ext_alloc1 _ _)).ext h⟩⟩
  have hb := ext_alloc1 w6 (.cells #[.string s2, .slice A2 xs2.length c2] 26)
  replace HC1 := Lib.hid (fun W' h => HC1.out W' (ext_trans hb h))
  replace HR1 := Lib.hid (HR1.out.ext hb)
  replace HR2 := Lib.hid (HR2.out.ext hb)
  replace HB := Lib.hid (ext_trans HB.out hb)
  clear hb
  go_wp2_with fail
  generalize hww : w6.alloc (.cells #[.string s2, .slice A2 xs2.length c2] 26) = w7 at *
  clear hww
  generalize w6.heap.size = p2 at *
  clear hI
  obtain ⟨M2, k2, hm2⟩ : ∃ y0 y1, mSafeDays s2 xs2 wt = (y0, y1) := ⟨_, _, rfl⟩
  have HM2 := Lib.hid hm2
  obtain ⟨q2a, q2b, hst2⟩ := HC2.out _ (ext_refl _)
  have hI := impl_SafeDays (.agg #[.string s2, .slice A2 xs2.length c2]) s2 xs2 wt w7 hst2 HS2.out
  rw [hm2] at hI
  have HI := Lib.hid hI
  clear hI
  refine (show Calls _ _ _ _ _ from HI.out).mono ?_
  rintro e w8 ⟨u, rfl, hO, hsm, hb⟩
  obtain ⟨B3, d3, rfl, hd1, hd2, hd3⟩ := hO.rd.open2
  clear q2a q2b hst2
  replace HC1 := Lib.hid (fun W' h => HC1.out W' (ext_trans hb h))
  replace HC2 := Lib.hid (fun W' h => HC2.out W' (ext_trans hb h))
  replace HR1 := Lib.hid (HR1.out.ext hb)
  replace HR2 := Lib.hid (HR2.out.ext hb)
  replace HB := Lib.hid (ext_trans HB.out hb)
  have HR3 := Lib.hid hO.rd
  clear HI hO hb hsm hd1 hd2 hd3
  obtain ⟨q2a, q2b, hst2⟩ := HC2.out _ (ext_refl _)
  have hI := spec_SafeDays (.agg #[.string s2, .slice A2 xs2.length c2]) s2 xs2 wt w8 hst2 HS2.out
  rw [hm2] at hI
  have HI := Lib.hid hI
  clear hI
  go_wp2_with fail
  refine (show Calls _ _ _ _ _ from HI.out).mono ?_
  rintro e w9 ⟨u, rfl, hO, hsm, hb⟩
  obtain ⟨B4, d4, rfl, hd1, hd2, hd3⟩ := hO.rd.open2
  clear q2a q2b hst2
  replace HC1 := Lib.hid (fun W' h => HC1.out W' (ext_trans hb h))
  replace HC2 := Lib.hid (fun W' h => HC2.out W' (ext_trans hb h))
  replace HR1 := Lib.hid (HR1.out.ext hb)
  replace HR2 := Lib.hid (HR2.out.ext hb)
  replace HR3 := Lib.hid (HR3.out.ext hb)
  replace HB := Lib.hid (ext_trans HB.out hb)
  have HR4 := Lib.hid hO.rd
  clear HI hO hb hsm hd1 hd2 hd3
  go_wp2_with fail
  refine (draw_FrostRisk v0 x0 _ (H0.out.ext HB.out)).mono ?_
  rintro e w10 ⟨u, s3, xs3, dy, hd, rfl, hO, hsm, hb⟩
  obtain ⟨A3, c3, rfl, hI⟩ := hO
  have HS3 := Lib.hid hsm
  replace HC1 := Lib.hid (fun W' h => HC1.out W' (ext_trans hb h))
  replace HC2 := Lib.hid (fun W' h => HC2.out W' (ext_trans hb h))
  replace HR1 := Lib.hid (HR1.out.ext hb)
  replace HR2 := Lib.hid (HR2.out.ext hb)
  replace HR3 := Lib.hid (HR3.out.ext hb)
  replace HR4 := Lib.hid (HR4.out.ext hb)
  replace HB := Lib.hid (ext_trans HB.out hb)
  clear hsm hb
  have HC3 : Hid (∀ W', Below (w10.alloc (.cells #[.string s3, .slice A3 xs3.length c3] 26)).heap.size (w10.alloc (.cells #[.string s3, .slice A3 xs3.length c3] 26)) W' → W'.cell? ⟨w10.heap.size, 0, none⟩ = some (.string s3) ∧ W'.cell? ⟨w10.heap.size, 1, none⟩ = some (.slice A3 xs3.length c3) ∧ ST W' (.agg #[.string s3, .slice A3 xs3.length c3]) s3 xs3) := Lib.hid fun W' h => ⟨cell_keep (by simp [go_sem]) h, cell_keep (by simp [go_sem]) h, ⟨A3, c3, rfl, ((hI.rd).ext (ext_alloc1 _ _)).ext h⟩⟩
  have hb := ext_alloc1 w10 (.cells #[.string s3, .slice A3 xs3.length c3] 26)
  replace HC1 := Lib.hid (fun W' h => HC1.out W' (ext_trans hb h))
  replace HC2 := Lib.hid (fun W' h => HC2.out W' (ext_trans hb h))
  replace HR1 := Lib.hid (HR1.out.ext hb)
  replace HR2 := Lib.hid (HR2.out.ext hb)
  replace HR3 := Lib.hid (HR3.out.ext hb)
  replace HR4 := Lib.hid (HR4.out.ext hb)
  replace HB := Lib.hid (ext_trans HB.out hb)
  clear hb
  go_wp2_with fail
  generalize hww : w10.alloc (.cells #[.string s3, .slice A3 xs3.length c3] 26) = w11 at *
  clear hww
  generalize w10.heap.size = p3 at *
  clear hI
  obtain ⟨rk, k3, hm3⟩ : ∃ y0 y1, mFrostRisk s3 xs3 dy hd = (y0, y1) := ⟨_, _, rfl⟩
  have HM3 := Lib.hid hm3
  obtain ⟨q3a, q3b, hst3⟩ := HC3.out _ (ext_refl _)
  have hI := impl_FrostRisk (.agg #[.string s3, .slice A3 xs3.length c3]) s3 xs3 dy hd w11 hst3 HS3.out
  rw [hm3] at hI
  have HI := Lib.hid hI
  clear hI
  refine (show Calls _ _ _ _ _ from HI.out).mono ?_
  rintro e w12 ⟨rfl, hb⟩
  clear q3a q3b hst3
  replace HC1 := Lib.hid (fun W' h => HC1.out W' (ext_trans hb h))
  replace HC2 := Lib.hid (fun W' h => HC2.out W' (ext_trans hb h))
  replace HC3 := Lib.hid (fun W' h => HC3.out W' (ext_trans hb h))
  replace HR1 := Lib.hid (HR1.out.ext hb)
  replace HR2 := Lib.hid (HR2.out.ext hb)
  replace HR3 := Lib.hid (HR3.out.ext hb)
  replace HR4 := Lib.hid (HR4.out.ext hb)
  replace HB := Lib.hid (ext_trans HB.out hb)
  clear HI hb
  obtain ⟨q3a, q3b, hst3⟩ := HC3.out _ (ext_refl _)
  have hI := spec_FrostRisk (.agg #[.string s3, .slice A3 xs3.length c3]) s3 xs3 dy hd w12 hst3 HS3.out
  rw [hm3] at hI
  have HI := Lib.hid hI
  clear hI
  go_wp2_with fail
  refine (show Calls _ _ _ _ _ from HI.out).mono ?_
  rintro e w13 ⟨rfl, hb⟩
  clear q3a q3b hst3
  replace HC1 := Lib.hid (fun W' h => HC1.out W' (ext_trans hb h))
  replace HC2 := Lib.hid (fun W' h => HC2.out W' (ext_trans hb h))
  replace HC3 := Lib.hid (fun W' h => HC3.out W' (ext_trans hb h))
  replace HR1 := Lib.hid (HR1.out.ext hb)
  replace HR2 := Lib.hid (HR2.out.ext hb)
  replace HR3 := Lib.hid (HR3.out.ext hb)
  replace HR4 := Lib.hid (HR4.out.ext hb)
  replace HB := Lib.hid (ext_trans HB.out hb)
  clear HI hb
  go_wp2_with fail
  refine (draw_ChangeWeather v0 x0 _ (H0.out.ext HB.out)).mono ?_
  rintro e w14 ⟨u, s4, xs4, on, lt, rfl, hlt, hO, hsm, hb⟩
  obtain ⟨A4, c4, rfl, hI⟩ := hO
  have HS4 := Lib.hid hsm
  replace HC1 := Lib.hid (fun W' h => HC1.out W' (ext_trans hb h))
  replace HC2 := Lib.hid (fun W' h => HC2.out W' (ext_trans hb h))
  replace HC3 := Lib.hid (fun W' h => HC3.out W' (ext_trans hb h))
  replace HR1 := Lib.hid (HR1.out.ext hb)
  replace HR2 := Lib.hid (HR2.out.ext hb)
  replace HR3 := Lib.hid (HR3.out.ext hb)
  replace HR4 := Lib.hid (HR4.out.ext hb)
  replace HB := Lib.hid (ext_trans HB.out hb)
  clear hsm hb
  have HC4 : Hid (∀ W', Below (w14.alloc (.cells #[.string s4, .slice A4 xs4.length c4] 26)).heap.size (w14.alloc (.cells #[.string s4, .slice A4 xs4.length c4] 26)) W' → W'.cell? ⟨w14.heap.size, 0, none⟩ = some (.string s4) ∧ W'.cell? ⟨w14.heap.size, 1, none⟩ = some (.slice A4 xs4.length c4) ∧ ST W' (.agg #[.string s4, .slice A4 xs4.length c4]) s4 xs4) := Lib.hid fun W' h => ⟨cell_keep (by simp [go_sem]) h, cell_keep (by simp [go_sem]) h, ⟨A4, c4, rfl, ((hI.rd).ext (ext_alloc1 _ _)).ext h⟩⟩
  have hb := ext_alloc1 w14 (.cells #[.string s4, .slice A4 xs4.length c4] 26)
  replace HC1 := Lib.hid (fun W' h => HC1.out W' (ext_trans hb h))
  replace HC2 := Lib.hid (fun W' h => HC2.out W' (ext_trans hb h))
  replace HC3 := Lib.hid (fun W' h => HC3.out W' (ext_trans hb h))
  replace HR1 := Lib.hid (HR1.out.ext hb)
  replace HR2 := Lib.hid (HR2.out.ext hb)
  replace HR3 := Lib.hid (HR3.out.ext hb)
  replace HR4 := Lib.hid (HR4.out.ext hb)
  replace HB := Lib.hid (ext_trans HB.out hb)
  clear hb
  go_wp2_with fail
  generalize hww : w14.alloc (.cells #[.string s4, .slice A4 xs4.length c4] 26) = w15 at *
  clear hww
  generalize w14.heap.size = p4 at *
  clear hI
  obtain ⟨s5, xs5, k4, hm4⟩ : ∃ y0 y1 y2, mChangeWeather s4 xs4 on lt = (y0, y1, y2) := ⟨_, _, _, rfl⟩
  have HM4 := Lib.hid hm4
  obtain ⟨q4a, q4b, hst4⟩ := HC4.out _ (ext_refl _)
  have hI := impl_ChangeWeather (.agg #[.string s4, .slice A4 xs4.length c4]) s4 xs4 on lt w15 hst4 HS4.out (by omega)
  rw [hm4] at hI
  have HI := Lib.hid hI
  clear hI
  refine (show Calls _ _ _ _ _ from HI.out).mono ?_
  rintro e w16 ⟨u, rfl, hO, hsm, hb⟩
  obtain ⟨A5, c5, rfl, hI⟩ := hO
  have HS5 := Lib.hid hsm
  clear q4a q4b hst4
  replace HC1 := Lib.hid (fun W' h => HC1.out W' (ext_trans hb h))
  replace HC2 := Lib.hid (fun W' h => HC2.out W' (ext_trans hb h))
  replace HC3 := Lib.hid (fun W' h => HC3.out W' (ext_trans hb h))
  replace HC4 := Lib.hid (fun W' h => HC4.out W' (ext_trans hb h))
  replace HR1 := Lib.hid (HR1.out.ext hb)
  replace HR2 := Lib.hid (HR2.out.ext hb)
  replace HR3 := Lib.hid (HR3.out.ext hb)
  replace HR4 := Lib.hid (HR4.out.ext hb)
  replace HB := Lib.hid (ext_trans HB.out hb)
  clear HI hsm hb
  have HC5 : Hid (∀ W', Below (w16.alloc (.cells #[.string s5, .slice A5 xs5.length c5] 26)).heap.size (w16.alloc (.cells #[.string s5, .slice A5 xs5.length c5] 26)) W' → W'.cell? ⟨w16.heap.size, 0, none⟩ = some (.string s5) ∧ W'.cell? ⟨w16.heap.size, 1, none⟩ = some (.slice A5 xs5.length c5) ∧ ST W' (.agg #[.string s5, .slice A5 xs5.length c5]) s5 xs5) := Lib.hid fun W' h => ⟨cell_keep (by simp [go_sem]) h, cell_keep (by simp [go_sem]) h, ⟨A5, c5, rfl, ((hI.rd).ext (ext_alloc1 _ _)).ext h⟩⟩
  have hb := ext_alloc1 w16 (.cells #[.string s5, .slice A5 xs5.length c5] 26)
  replace HC1 := Lib.hid (fun W' h => HC1.out W' (ext_trans hb h))
  replace HC2 := Lib.hid (fun W' h => HC2.out W' (ext_trans hb h))
  replace HC3 := Lib.hid (fun W' h => HC3.out W' (ext_trans hb h))
  replace HC4 := Lib.hid (fun W' h => HC4.out W' (ext_trans hb h))
  replace HR1 := Lib.hid (HR1.out.ext hb)
  replace HR2 := Lib.hid (HR2.out.ext hb)
  replace HR3 := Lib.hid (HR3.out.ext hb)
  replace HR4 := Lib.hid (HR4.out.ext hb)
  replace HB := Lib.hid (ext_trans HB.out hb)
  clear hb
  obtain ⟨q4a, q4b, hst4⟩ := HC4.out _ (ext_refl _)
  go_wp2_with fail
  clear q4a q4b hst4
  generalize hww : w16.alloc (.cells #[.string s5, .slice A5 xs5.length c5] 26) = w17 at *
  clear hww
  generalize w16.heap.size = p5 at *
  clear hI
  obtain ⟨q4a, q4b, hst4⟩ := HC4.out _ (ext_refl _)
  have hI := spec_ChangeWeather (.agg #[.string s4, .slice A4 xs4.length c4]) s4 xs4 on lt w17 hst4 HS4.out (by omega)
  rw [hm4] at hI
  have HI := Lib.hid hI
  clear hI
  refine (show Calls _ _ _ _ _ from HI.out).mono ?_
  rintro e w18 ⟨u, rfl, hO, hsm, hb⟩
  obtain ⟨A6, c6, rfl, hI⟩ := hO
  have HS6 := Lib.hid hsm
  clear q4a q4b hst4
  replace HC1 := Lib.hid (fun W' h => HC1.out W' (ext_trans hb h))
  replace HC2 := Lib.hid (fun W' h => HC2.out W' (ext_trans hb h))
  replace HC3 := Lib.hid (fun W' h => HC3.out W' (ext_trans hb h))
  replace HC4 := Lib.hid (fun W' h => HC4.out W' (ext_trans hb h))
  replace HC5 := Lib.hid (fun W' h => HC5.out W' (ext_trans hb h))
  replace HR1 := Lib.hid (HR1.out.ext hb)
  replace HR2 := Lib.hid (HR2.out.ext hb)
  replace HR3 := Lib.hid (HR3.out.ext hb)
  replace HR4 := Lib.hid (HR4.out.ext hb)
  replace HB := Lib.hid (ext_trans HB.out hb)
  clear HI hsm hb
  have hI6 := hI
  have HC6 : Hid (∀ W', Below (w18.alloc (.cells #[.string s5, .slice A6 xs5.length c6] 26)).heap.size (w18.alloc (.cells #[.string s5, .slice A6 xs5.length c6] 26)) W' → W'.cell? ⟨w18.heap.size, 0, none⟩ = some (.string s5) ∧ W'.cell? ⟨w18.heap.size, 1, none⟩ = some (.slice A6 xs5.length c6) ∧ ST W' (.agg #[.string s5, .slice A6 xs5.length c6]) s5 xs5) := Lib.hid fun W' h => ⟨cell_keep (by simp [go_sem]) h, cell_keep (by simp [go_sem]) h, ⟨A6, c6, rfl, ((hI.rd).ext (ext_alloc1 _ _)).ext h⟩⟩
  have hb := ext_alloc1 w18 (.cells #[.string s5, .slice A6 xs5.length c6] 26)
  replace HC1 := Lib.hid (fun W' h => HC1.out W' (ext_trans hb h))
  replace HC2 := Lib.hid (fun W' h => HC2.out W' (ext_trans hb h))
  replace HC3 := Lib.hid (fun W' h => HC3.out W' (ext_trans hb h))
  replace HC4 := Lib.hid (fun W' h => HC4.out W' (ext_trans hb h))
  replace HC5 := Lib.hid (fun W' h => HC5.out W' (ext_trans hb h))
  replace HR1 := Lib.hid (HR1.out.ext hb)
  replace HR2 := Lib.hid (HR2.out.ext hb)
  replace HR3 := Lib.hid (HR3.out.ext hb)
  replace HR4 := Lib.hid (HR4.out.ext hb)
  replace HB := Lib.hid (ext_trans HB.out hb)
  clear hb
  go_wp2_with fail
  generalize hww : w18.alloc (.cells #[.string s5, .slice A6 xs5.length c6] 26) = w19 at *
  clear hww
  generalize w18.heap.size = p6 at *
  clear hI6
  clear hI
  have hI := f6ints_any _ _ M1 M1 w19 HR1.out HR2.out
  rw [show decide (M1 = M1) = true from decide_eq_true rfl] at hI
  have HI := Lib.hid hI
  clear hI
  obtain ⟨q5a, q5b, hst5⟩ := HC5.out _ (ext_refl _)
  obtain ⟨q6a, q6b, hst6⟩ := HC6.out _ (ext_refl _)
  refine (show Calls _ _ _ _ _ from HI.out).mono ?_
  rintro e w20 ⟨rfl, hb⟩
  clear q5a q5b hst5 q6a q6b hst6
  replace HC1 := Lib.hid (fun W' h => HC1.out W' (ext_trans hb h))
  replace HC2 := Lib.hid (fun W' h => HC2.out W' (ext_trans hb h))
  replace HC3 := Lib.hid (fun W' h => HC3.out W' (ext_trans hb h))
  replace HC4 := Lib.hid (fun W' h => HC4.out W' (ext_trans hb h))
  replace HC5 := Lib.hid (fun W' h => HC5.out W' (ext_trans hb h))
  replace HC6 := Lib.hid (fun W' h => HC6.out W' (ext_trans hb h))
  replace HR1 := Lib.hid (HR1.out.ext hb)
  replace HR2 := Lib.hid (HR2.out.ext hb)
  replace HR3 := Lib.hid (HR3.out.ext hb)
  replace HR4 := Lib.hid (HR4.out.ext hb)
  replace HB := Lib.hid (ext_trans HB.out hb)
  clear HI hb
  clear HR1
  have hI := f6ints_any _ _ M2 M2 w20 HR3.out HR4.out
  rw [show decide (M2 = M2) = true from decide_eq_true rfl] at hI
  have HI := Lib.hid hI
  clear hI
  obtain ⟨q5a, q5b, hst5⟩ := HC5.out _ (ext_refl _)
  obtain ⟨q6a, q6b, hst6⟩ := HC6.out _ (ext_refl _)
  go_wp2_with fail
  refine (show Calls _ _ _ _ _ from HI.out).mono ?_
  rintro e w21 ⟨rfl, hb⟩
  clear q5a q5b hst5 q6a q6b hst6
  replace HC1 := Lib.hid (fun W' h => HC1.out W' (ext_trans hb h))
  replace HC2 := Lib.hid (fun W' h => HC2.out W' (ext_trans hb h))
  replace HC3 := Lib.hid (fun W' h => HC3.out W' (ext_trans hb h))
  replace HC4 := Lib.hid (fun W' h => HC4.out W' (ext_trans hb h))
  replace HC5 := Lib.hid (fun W' h => HC5.out W' (ext_trans hb h))
  replace HC6 := Lib.hid (fun W' h => HC6.out W' (ext_trans hb h))
  replace HR2 := Lib.hid (HR2.out.ext hb)
  replace HR3 := Lib.hid (HR3.out.ext hb)
  replace HR4 := Lib.hid (HR4.out.ext hb)
  replace HB := Lib.hid (ext_trans HB.out hb)
  clear HI hb
  clear HR3
  obtain ⟨q5a, q5b, hst5⟩ := HC5.out _ (ext_refl _)
  obtain ⟨q6a, q6b, hst6⟩ := HC6.out _ (ext_refl _)
  have hI := spec_SameSite (.agg #[.string s5, .slice A5 xs5.length c5]) s5 xs5 (.agg #[.string s5, .slice A6 xs5.length c6]) s5 xs5 w21 hst5 HS5.out hst6 HS5.out
  rw [show (decide (s5 = s5) && decide (xs5 = xs5)) = true from by simp] at hI
  have HI := Lib.hid hI
  clear hI
  go_wp2_with fail
  refine (show Calls _ _ _ _ _ from HI.out).mono ?_
  rintro e w22 ⟨rfl, hb⟩
  clear q5a q5b hst5 q6a q6b hst6
  replace HC1 := Lib.hid (fun W' h => HC1.out W' (ext_trans hb h))
  replace HC2 := Lib.hid (fun W' h => HC2.out W' (ext_trans hb h))
  replace HC3 := Lib.hid (fun W' h => HC3.out W' (ext_trans hb h))
  replace HC4 := Lib.hid (fun W' h => HC4.out W' (ext_trans hb h))
  replace HC5 := Lib.hid (fun W' h => HC5.out W' (ext_trans hb h))
  replace HC6 := Lib.hid (fun W' h => HC6.out W' (ext_trans hb h))
  replace HR2 := Lib.hid (HR2.out.ext hb)
  replace HR4 := Lib.hid (HR4.out.ext hb)
  replace HB := Lib.hid (ext_trans HB.out hb)
  clear HI hb
  clear HC3 HC6 hm3 HM3
  go_upto_region 17 with fail
  go_cut [177] from 172 to 177 (fun s wx => s = .bool (decide (k4 = 0 ∧ lt = ⟨#[102]⟩)) ∧ wx = w22)
  case first =>
    by_cases hk : k4 = 0
    · have e2 : (k4 == 0) = true := by simp [hk]
      by_cases hle : lt = ⟨#[102]⟩
      · have HE := Lib.hid (decide_eq_true (show k4 = 0 ∧ lt = ⟨#[102]⟩ from ⟨hk, hle⟩))
        have e3 : lt.toList = [102] := by rw [hle, ByteArray.toList_eq]
        clear hk
        go_wp2_with fail
        go_meet
        exact ⟨congrArg Value.bool HE.out.symm, rfl⟩
      · have HE := Lib.hid (decide_eq_false (show ¬ (k4 = 0 ∧ lt = ⟨#[102]⟩) from fun h => hle h.2))
        have e3 : ¬ lt.toList = [102] := fun h => hle (by rw [ByteArray.toList_eq] at h; exact bytes_inj h)
        have e4 : (lt.toList == [102]) = false := by simpa using e3
        clear hk
        go_wp2_with fail
        go_meet
        exact ⟨congrArg Value.bool HE.out.symm, rfl⟩
    · have HE := Lib.hid (decide_eq_false (show ¬ (k4 = 0 ∧ lt = ⟨#[102]⟩) from fun h => hk h.1))
      have e2 : (k4 == 0) = false := by simp [hk]
      go_wp2_with fail
      go_meet
      exact ⟨congrArg Value.bool HE.out.symm, rfl⟩
  case rest =>
  obtain ⟨rfl, rfl⟩ := hcut
  go_upto_if 177 with fail
  go_cut [31, 32, 33, 34, 35] from 177 to 212 (fun _ _ _ _ _ wx => Below wc.heap.size wc wx)
  case first =>
    by_cases hk : k4 = 0 ∧ lt = ⟨#[102]⟩
    · rw [decide_eq_true hk]
      obtain ⟨rfl, hlt⟩ := hk
      obtain ⟨d, rfl, hd, hv, ht, hls, h5, h6⟩ := change_facts HM4.out
      have hbt : byt lt 0 = 102 := by rw [hlt]; rfl
      have h3 := safe_mk hv (c := 3) (by omega)
      have hvx := swap_valid hv hd ht hls
      have h4 := safe_mk hvx (c := 3) (by omega)
      rw [← h5, ← h6] at h4
      have hsz := (vSite_size hv).1
      have HNO : Hid (∀ k, k < (pick (safeB s5 xs5 3) s5.size).length → gi (pick (safeB s5 xs5 3) s5.size) k ≠ (d : Int)) := Lib.hid fun k hk => by
        obtain ⟨e, h7, h8, h9⟩ := pick_at hk
        rw [h5, swap_size hd ht] at h8
        rw [h5, h6] at h9
        rw [h7]
        have := (frost_safe hd ht hbt h8 h9).2
        omega
      have hle : (pick (safeB s5 xs5 3) s5.size).length ≤ (pick (safeB s4 xs4 3) s4.size).length := by
        have h7 := swap_size hd ht
        rw [h5, h6, h7]
        exact pick_sub s4.size (fun e he h8 => (frost_safe hd ht hbt he h8).1)
      have hl4 := pick_len (safeB s4 xs4 3) s4.size
      obtain ⟨P4, hP4⟩ : ∃ x, pick (safeB s4 xs4 3) s4.size = x := ⟨_, rfl⟩
      obtain ⟨P5, hP5⟩ : ∃ x, pick (safeB s5 xs5 3) s5.size = x := ⟨_, rfl⟩
      rw [hP4] at h3 hle hl4
      rw [hP5] at h4 hle HNO
      obtain ⟨q4a, q4b, hst4⟩ := HC4.out _ (ext_refl _)
      have hI := impl_SafeDays (.agg #[.string s4, .slice A4 xs4.length c4]) s4 xs4 3 wc hst4 HS4.out
      rw [show ((3 : Nat) : Int) = 3 from rfl] at h3 h4
      rw [h3] at hI
      have HI := Lib.hid hI
      have HLE := Lib.hid hle
      have hl5 : P5.length ≤ 120 := by omega
      clear hI h3 hP4 hP5 hbt hvx h5 h6 hm4 HM4 hls ht hlt
      go_wp2_with fail
      refine (show Calls _ _ _ _ _ from HI.out).mono ?_
      rintro e wd ⟨u, rfl, hO, _, hb⟩
      obtain ⟨E4, f4, rfl, hz1, hz2, hz3⟩ := hO.rd.open2
      clear hz1 hz2 hz3
      have HBD := Lib.hid hb
      clear q4a q4b hst4 HI hO
      obtain ⟨q5a, q5b, hst5⟩ := HC5.out _ hb
      have hI := impl_SafeDays (.agg #[.string s5, .slice A5 xs5.length c5]) s5 xs5 3 wd hst5 HS5.out
      rw [h4] at hI
      have HI := Lib.hid hI
      clear hI h4 hb
      go_wp2_with fail
      refine (show Calls _ _ _ _ _ from HI.out).mono ?_
      rintro e we ⟨u, rfl, hO, _, hb⟩
      obtain ⟨E5, f5, rfl, hz1, hz2, hz3⟩ := hO.rd.open2
      clear hz1 hz2 hz3
      have HR9 := Lib.hid hO.rd
      have HBE := Lib.hid (ext_trans HBD.out hb)
      clear q5a q5b hst5 HI hO hb
      have e1 : ¬ (P4.length : Int) < P5.length := by omega
      have e2 : decide ((P4.length : Int) < P5.length) = false := decide_eq_false e1
      go_wp2_with fail
      go_loopw [35] (fun i wr => ∃ k : Nat, k ≤ P5.length ∧ i = .int .i64 k ∧ wr = we) (fun i _ => P5.length - (intOf i).toNat)
      case atStart => exact ⟨0, Nat.zero_le _, rfl, rfl⟩
      case round =>
        obtain ⟨k, hk, rfl, rfl⟩ := hrel
        by_cases hlt : k < P5.length
        · obtain ⟨ad, rfl, _, hcm⟩ := HR9.out.at2 hlt
          have hq := hcm k hlt
          have hno := HNO.out k hlt
          obtain ⟨dd, hdd⟩ : ∃ x, gi P5 k = x := ⟨_, rfl⟩
          rw [hdd] at hq hno
          have e3 : (0:Int) ≤ k := by omega
          have e4 : (k:Int) < P5.length := by omega
          have e5 : (dd == (d : Int)) = false := by simpa using hno
          clear hcm hdd
          go_wp2_with fail
          go_roundw
          case rel => exact ⟨k + 1, hlt, by go_num, by first | rfl | trivial⟩
          case measure => simp [intOf]; omega
        · obtain rfl : k = P5.length := by omega
          go_wp2_with fail
          go_meet
          exact HBE.out
    · rw [decide_eq_false hk]
      clear hk
      go_wp2_with fail
      go_meet
      exact ext_refl _
  case rest =>
  have HX := Lib.hid hcut
  clear hcut hm4 HM4
  replace HC1 := Lib.hid (fun W' h => HC1.out W' (ext_trans HX.out h))
  replace HC2 := Lib.hid (fun W' h => HC2.out W' (ext_trans HX.out h))
  replace HC4 := Lib.hid (fun W' h => HC4.out W' (ext_trans HX.out h))
  replace HC5 := Lib.hid (fun W' h => HC5.out W' (ext_trans HX.out h))
  replace HR2 := Lib.hid (HR2.out.ext HX.out)
  replace HR4 := Lib.hid (HR4.out.ext HX.out)
  replace HB := Lib.hid (ext_trans HB.out HX.out)
  clear HX
  clear HC4 HC5
  go_upto_if 214 with fail
  go_cut [36, 37, 38, 39, 40] from 214 to 252 (fun _ _ _ _ _ wx => Below wc.heap.size wc wx)
  case first =>
    by_cases hk : k2 = 0
    · subst hk
      obtain ⟨hv, hw0, hw1, hM⟩ := safe_facts HM2.out
      obtain ⟨c, rfl⟩ := Int.eq_ofNat_of_zero_le hw0
      rw [Int.toNat_natCast] at hM
      have hsz := (vSite_size hv).1
      have hml : M2.length ≤ 120 := by
        have h7 := pick_len (safeB s2 xs2 c) s2.size
        rw [hM]; omega
      have HAT : Hid (∀ k, k < M2.length → ∃ d : Nat, gi M2 k = d ∧ mFrostRisk s2 xs2 d c = (false, 0) ∧ mHoursOn s2 xs2 d = (hrs s2 xs2 d, 0) ∧ 1 ≤ hrs s2 xs2 d) := Lib.hid fun k hk => by
        rw [hM] at hk ⊢
        obtain ⟨d, h1, h2, h3⟩ := pick_at hk
        unfold safeB at h3
        simp only [Bool.and_eq_true, decide_eq_true_eq, Bool.not_eq_true'] at h3
        refine ⟨d, h1, ?_, on_mk hv h2, by omega⟩
        rw [risk_mk hv h2 (show c ≤ 28 by omega), h3.2]
      clear hM hv hm2 HM2
      go_wp2_with fail
      go_loopg [36] M2.length (fun gk i wr => ∃ k : Nat, k + gk = M2.length ∧ i = .int .i64 k ∧ Below wc.heap.size wc wr)
      case atStart => exact ⟨0, by omega, rfl, ext_refl _⟩
      case round =>
        obtain ⟨k, hkg, rfl, hbw⟩ := hrel
        have HKG := Lib.hid hkg
        have hk : k ≤ M2.length := by omega
        clear hkg
        have HBW := Lib.hid hbw
        by_cases hlt : k < M2.length
        · obtain ⟨d, h1, h2, h3, h4⟩ := HAT.out k hlt
          obtain ⟨ad, rfl, _, hcm⟩ := (HR4.out.ext hbw).at2 hlt
          have hq := hcm k hlt
          rw [h1] at hq
          obtain ⟨x, hx⟩ : ∃ x, hrs s2 xs2 d = x := ⟨_, rfl⟩
          rw [hx] at h3 h4
          have hcc := HC2.out _ hbw
          have K1 : Hid (∀ W', Below wr.heap.size wr W' → Calls Try.prog 36 #[(.agg #[.string s2, .slice A2 xs2.length c2]), .int .i64 d, .int .i64 c] W' (Ret (.tuple #[.bool false, .int .i64 0]) W')) := Lib.hid fun W' h => by
            have hh := impl_FrostRisk (.agg #[.string s2, .slice A2 xs2.length c2]) s2 xs2 d c W' (HC2.out _ (ext_trans HBW.out h)).2.2 HS2.out
            rwa [h2] at hh
          have K2 : Hid (∀ W', Below wr.heap.size wr W' → Calls Try.prog 18 #[(.agg #[.string s2, .slice A2 xs2.length c2]), .int .i64 d] W' (Ret (.tuple #[.int .i64 x, .int .i64 0]) W')) := Lib.hid fun W' h => by
            have hh := impl_HoursOn (.agg #[.string s2, .slice A2 xs2.length c2]) s2 xs2 d W' (HC2.out _ (ext_trans HBW.out h)).2.2 HS2.out
            rwa [h3] at hh
          have e1 : (0:Int) ≤ k := by omega
          have e2 : (k:Int) < M2.length := by omega
          have e5 : ¬ x < 1 := by omega
          have e6 : decide (x < 1) = false := decide_eq_false e5
          have HQ := Lib.hid hq
          have HI1 := Lib.hid (K1.out wr.drew (ext_drew (ext_refl _)))
          obtain ⟨hca, hcb, hcs⟩ := hcc
          clear hcm hbw h1 h2 h3 hx K1 hcs
          go_wp2_with fail
          go_region_with ((go_at_call 36; refine (show Calls _ _ _ _ _ from HI1.out).mono ?_; rintro e w5 ⟨rfl, hb5⟩; (have HB5 : Hid (Below wr.heap.size wr w5) := Lib.hid ((ext_drew (ext_refl _)).trans hb5)); clear hb5))
          all_goals
            have HI2 := Lib.hid (K2.out w5.drew (ext_drew HB5.out))
            obtain ⟨hda, hdb, hds⟩ := HC2.out _ (ext_trans HBW.out HB5.out)
            have hq5 := cell_keep HQ.out HB5.out
            clear hca hcb hq hds K2 HI1
            go_wp2_with fail
            go_region_with ((go_at_call 18; refine (show Calls _ _ _ _ _ from HI2.out).mono ?_; rintro e w6 ⟨rfl, hb6⟩; (have HB6 : Hid (Below w5.heap.size w5 w6) := Lib.hid ((ext_drew (ext_refl _)).trans hb6)); clear hb6))
            all_goals
              clear hda hdb hq5 HI2
              go_wp2_with fail
              have hkg := HKG.out
              go_roundg (gk - 1)
              case measure => omega
              case rel => exact ⟨k + 1, by omega, by go_num, ext_trans HBW.out (ext_trans HB5.out HB6.out)⟩
        · obtain rfl : k = M2.length := by omega
          go_wp2_with fail
          go_meet
          exact hbw
    · have e1 : (k2 == 0) = false := by simp [hk]
      go_wp2_with fail
      go_meet
      exact ext_refl _
  case rest =>
  have HX := Lib.hid hcut
  clear hcut hm2 HM2
  replace HC1 := Lib.hid (fun W' h => HC1.out W' (ext_trans HX.out h))
  replace HC2 := Lib.hid (fun W' h => HC2.out W' (ext_trans HX.out h))
  replace HR2 := Lib.hid (HR2.out.ext HX.out)
  replace HR4 := Lib.hid (HR4.out.ext HX.out)
  replace HB := Lib.hid (ext_trans HB.out HX.out)
  clear HX
  clear HR4 HC2
  by_cases hk : k1 = 0
  · subst hk
    obtain ⟨hv, ⟨hc0, hc1⟩, ⟨hb0, hb1⟩, ⟨he0, he1⟩, hM, hL⟩ := plan_facts HM1.out
    obtain ⟨c, rfl⟩ := Int.eq_ofNat_of_zero_le hc0
    rw [Int.toNat_natCast] at hM hL
    have hsz := (vSite_size hv).1
    have hsf := safe_mk hv (c := c) (by omega)
    have hml : M1.length = s1.size := by rw [hM, layTo_len]
    have HML := Lib.hid hml
    have HGI : Hid (∀ k, k < s1.size → gi M1 k = own s1 xs1 c ea br k) := Lib.hid fun k hk => by rw [hM]; exact lay_gi c ea br s1.size k hk
    have HLB : Hid (∀ k, 0 ≤ (layTo s1 xs1 c ea br k).2 ∧ (layTo s1 xs1 c ea br k).2 ≤ br) := Lib.hid fun k => layTo_bd s1 xs1 c he0 he1 hb0 k
    have HON : Hid (∀ k, k < s1.size → mHoursOn s1 xs1 k = (hrs s1 xs1 k, 0)) := Lib.hid fun k hk => on_mk hv hk
    have HL := Lib.hid hL
    have HPK : Hid (∀ k, k < s1.size → safeB s1 xs1 c k = true → cnt (safeB s1 xs1 c) k < (pick (safeB s1 xs1 c) s1.size).length ∧ gi (pick (safeB s1 xs1 c) s1.size) (cnt (safeB s1 xs1 c) k) = (k : Int)) := Lib.hid fun k hk h => cnt_at hk h
    have HPN : Hid (∀ k, k < s1.size → safeB s1 xs1 c k = false → cnt (safeB s1 xs1 c) k < (pick (safeB s1 xs1 c) s1.size).length → gi (pick (safeB s1 xs1 c) s1.size) (cnt (safeB s1 xs1 c) k) ≠ (k : Int)) := Lib.hid fun k hk h h2 => cnt_not hk h h2
    have HCL : Hid (∀ k, k ≤ s1.size → cnt (safeB s1 xs1 c) k ≤ (pick (safeB s1 xs1 c) s1.size).length) := Lib.hid fun k hk => cnt_le (safeB s1 xs1 c) hk
    have hpl := pick_len (safeB s1 xs1 c) s1.size
    obtain ⟨P, hP⟩ : ∃ x, pick (safeB s1 xs1 c) s1.size = x := ⟨_, rfl⟩
    rw [hP] at hsf HPK HPN HCL hpl
    obtain ⟨q1a, q1b, hst1⟩ := HC1.out _ (ext_refl _)
    have hI := impl_SafeDays (.agg #[.string s1, .slice A1 xs1.length c1]) s1 xs1 c wc hst1 HS1.out
    rw [hsf] at hI
    have HI := Lib.hid hI
    clear hI hsf hP hM hL hml hv hm1 HM1
    go_wp2_with fail
    refine (show Calls _ _ _ _ _ from HI.out).mono ?_
    rintro e wd ⟨u, rfl, hO, _, hb⟩
    obtain ⟨E4, f4, rfl, hz1, hz2, hz3⟩ := hO.rd.open2
    have HRP := Lib.hid hO.rd
    have HBD := Lib.hid hb
    clear q1a q1b hst1 HI hO hb hz1 hz2 hz3
    have hml2 : M1.length ≤ 120 := by have := HML.out; omega
    go_wp2_with fail
    go_loopw [43, 44, 45] (fun l kk i wr => ∃ k : Nat, k ≤ s1.size ∧ l = .int .i64 (layTo s1 xs1 c ea br k).2 ∧ kk = .int .i64 (cnt (safeB s1 xs1 c) k) ∧ i = .int .i64 k ∧ Below wd.heap.size wd wr) (fun _ _ i _ => s1.size - (intOf i).toNat)
    case atStart => exact ⟨0, Nat.zero_le _, rfl, rfl, rfl, ext_refl _⟩
    case round =>
      obtain ⟨k, hk, rfl, rfl, rfl, hbw⟩ := hrel
      have HBW := Lib.hid hbw
      by_cases hlt : k < s1.size
      · have HRM := Lib.hid (HR2.out.ext (ext_trans HBD.out hbw))
        have HRQ := Lib.hid (HRP.out.ext hbw)
        have hkm : k < M1.length := by rw [HML.out]; exact hlt
        obtain ⟨md, rfl, _, hcm⟩ := HRM.out.at2 hkm
        have hm := hcm k hkm
        have hgi := HGI.out k hlt
        rw [hgi] at hm
        have hlb := HLB.out k
        have hlb2 := HLB.out (k + 1)
        have hle := lay_left (s := s1) (xs := xs1) c ea br k
        have hh := hrs_bd s1 xs1 k
        have hmb := mul_bd he0 he1 hh.1 hh.2
        have hcl := HCL.out k hk
        have HCS := Lib.hid (cnt_succ (safeB s1 xs1 c) k)
        obtain ⟨L, hL⟩ : ∃ x, (layTo s1 xs1 c ea br k).2 = x := ⟨_, rfl⟩
        obtain ⟨o, ho⟩ : ∃ x, own s1 xs1 c ea br k = x := ⟨_, rfl⟩
        obtain ⟨n, hn⟩ : ∃ x, cnt (safeB s1 xs1 c) k = x := ⟨_, rfl⟩
        have hown : own s1 xs1 c ea br k = bif safeB s1 xs1 c k then minI (layTo s1 xs1 c ea br k).2 (ea * hrs s1 xs1 k) else 0 := rfl
        rw [hL] at hlb hle hown
        rw [ho] at hle hown hm
        have HLE := Lib.hid hle
        rw [hle] at hlb2
        have hpk := HPK.out k hlt
        have hpn := HPN.out k hlt
        have hon := HON.out k hlt
        rw [hn] at hpk hpn hcl HCS
        rw [hL, hn]
        obtain ⟨x, hx⟩ : ∃ x, hrs s1 xs1 k = x := ⟨_, rfl⟩
        rw [hx] at hh hmb hown hon
        have e1 : (0:Int) ≤ k := by omega
        have e2 : (k:Int) < M1.length := by omega
        clear hcm hgi hle hL ho hn hx
        cases hsb : safeB s1 xs1 c k with
        | true =>
          obtain ⟨hp1, hp2⟩ := hpk hsb
          rw [hsb] at hown HCS
          simp only [cond_true] at hown HCS
          obtain ⟨pd, rfl, _, hcp⟩ := HRQ.out.at2 hp1
          have hp := hcp n hp1
          rw [hp2] at hp
          have e3 : (n:Int) < P.length := by omega
          have e4 : (0:Int) ≤ n := by omega
          obtain ⟨q1a, q1b, hst1⟩ := HC1.out _ (ext_trans HBD.out hbw)
          have hI := impl_HoursOn (.agg #[.string s1, .slice A1 xs1.length c1]) s1 xs1 k wr hst1 HS1.out
          rw [hon] at hI
          have HI := Lib.hid hI
          have HM := Lib.hid hm
          have hmm : min L (x * ea) = o := by rw [hown, Int.mul_comm]; unfold minI; split <;> omega
          have HMM := Lib.hid hmm
          rw [Int.mul_comm] at hmb
          obtain ⟨y, hy⟩ : ∃ y, x * ea = y := ⟨_, rfl⟩
          have HY := Lib.hid hy
          clear hI hcp hp2 hpk hpn hon hown hsb hbw hst1 hmm hm
          rw [hy] at hmb HMM
          have hmm := HMM.out
          go_wp2_with fail
          refine (show Calls _ _ _ _ _ from HI.out).mono ?_
          rintro e w5 ⟨rfl, hb5⟩
          have HB5 := Lib.hid (ext_trans HBW.out hb5)
          have hm := cell_keep HM.out hb5
          clear q1a q1b hp hb5 HI
          go_wp2_with fail
          go_roundw
          case rel => exact ⟨k + 1, hlt, by rw [HLE.out], congrArg (Value.int .i64) (by rw [HCS.out]; omega), by go_num, HB5.out⟩
          case measure => simp [intOf]; omega
        | false =>
          rw [hsb] at hown HCS
          simp only [cond_false, Nat.add_zero] at hown HCS
          subst hown
          have hmm : min L 0 = 0 := by omega
          have e5 : (0:Int) ≤ n := by omega
          by_cases hnp : n < P.length
          · obtain ⟨pd, rfl, _, hcp⟩ := HRQ.out.at2 hnp
            have hp := hcp n hnp
            have hne := hpn hsb hnp
            obtain ⟨z, hz⟩ : ∃ z, gi P n = z := ⟨_, rfl⟩
            rw [hz] at hp hne
            have e6 : (z == (k : Int)) = false := by simpa using hne
            have e7 : (n:Int) < P.length := by omega
            have e8 : decide ((n:Int) < P.length) = true := decide_eq_true e7
            clear hcp hz hpk hpn hon hsb hbw
            go_wp2_with fail
            go_roundw
            case rel => exact ⟨k + 1, hlt, congrArg (Value.int .i64) (by have := HLE.out; omega), congrArg (Value.int .i64) (by rw [HCS.out]), by go_num, HBW.out⟩
            case measure => simp [intOf]; omega
          · have e7 : ¬ (n:Int) < P.length := by omega
            have e8 : decide ((n:Int) < P.length) = false := decide_eq_false e7
            clear hpk hpn hon hsb hbw hnp
            go_wp2_with fail
            go_roundw
            case rel => exact ⟨k + 1, hlt, congrArg (Value.int .i64) (by have := HLE.out; omega), congrArg (Value.int .i64) (by rw [HCS.out]), by go_num, HBW.out⟩
            case measure => simp [intOf]; omega
      · obtain rfl : k = s1.size := by omega
        rw [HL.out]
        have e1 : ¬ (s1.size : Int) < M1.length := by have := HML.out; omega
        go_wp2_with fail
        go_ret
        exact ⟨rfl, ext_trans HB.out (ext_trans HBD.out HBW.out)⟩
  · have e1 : (k1 == 0) = false := by simp [hk]
    have e2 : (k1 != 0) = true := by simp [hk]
    go_wp2_with fail
    go_ret
    exact ⟨rfl, HB.out⟩

end Go.Proofs.Ytikiomjgnpdldaa
