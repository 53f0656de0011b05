/-
  The law FnSites: its walk. Printed by mksit.py.
-/
import Derived.Test.YtikiomjgnpdldaaSitP
import Derived.Test.YtikiomjgnpdldaaDrwS4
import Derived.Test.YtikiomjgnpdldaaDrwS7
import Derived.Test.YtikiomjgnpdldaaF6
import Derived.Test.YtikiomjgnpdldaaDays13
import Derived.Deep.DeepCutAuto
import Derived.BigQuiet
import Derived.Lib.QuietBelow
namespace Go.Proofs.Ytikiomjgnpdldaa
open Go.ChangeShapes Go.WideShapes Go.ChangeAt Go.RowKit Go.Sort
set_option linter.unusedVariables false
set_option maxRecDepth 100000

set_option maxHeartbeats 6400000 in
theorem law_FnSites (v0 : Value) (x0 : List UInt8) (w : World) (h0 : RB w v0 x0) :
    Calls Try.prog 3 #[v0] w (Ret (.bool true) w) := by
  have H0 := Lib.hid h0
  clear h0
  go_enter Try.func3, Try.ntmps3
  go_wp2_with fail
  refine (f6_big v0 x0 _ H0.out).mono ?_
  rintro e w1 ⟨rfl, rfl⟩
  cases hlg : decide (4096 < x0.length) with
  | true =>
    clear hlg
    go_wp2_with fail
    go_ret
    exact ⟨rfl, ext_refl _⟩
  | false =>
  clear hlg
  have HB := Lib.hid (ext_refl w)
  go_wp2_with fail
  refine (draw_DayAfter v0 x0 _ (H0.out.ext HB.out)).mono ?_
  rintro e w2 ⟨u, s1, xs1, fr, hr, rfl, hO, hsm, hb⟩
  obtain ⟨A1, c1, rfl, hI⟩ := hO
  have HS1 := Lib.hid hsm
  replace HB := Lib.hid (ext_trans HB.out hb)
  clear hsm hb
  have HC1 : Hid (∀ W', Below (w2.alloc (.cells #[.string s1, .slice A1 xs1.length c1] 26)).heap.size (w2.alloc (.cells #[.string s1, .slice A1 xs1.length c1] 26)) W' → W'.cell? ⟨w2.heap.size, 0, none⟩ = some (.string s1) ∧ W'.cell? ⟨w2.heap.size, 1, none⟩ = some (.slice A1 xs1.length c1) ∧ ST W' (.agg #[.string s1, .slice A1 xs1.length c1]) s1 xs1) := Lib.hid fun W' h => ⟨cell_keep (by simp [go_sem]) h, cell_keep (by simp [go_sem]) h, ⟨A1, c1, rfl, ((hI.rd).ext (ext_alloc1 _ _)).ext h⟩⟩
  have hb := ext_alloc1 w2 (.cells #[.string s1, .slice A1 xs1.length c1] 26)
  replace HB := Lib.hid (ext_trans HB.out hb)
  clear hb
  go_wp2_with fail
  generalize hww : w2.alloc (.cells #[.string s1, .slice A1 xs1.length c1] 26) = w3 at *
  clear hww
  generalize w2.heap.size = p1 at *
  clear hI
  obtain ⟨day, k1, hm1⟩ : ∃ y0 y1, mDayAfter s1 xs1 fr hr = (y0, y1) := ⟨_, _, rfl⟩
  have HM1 := Lib.hid hm1
  obtain ⟨q1a, q1b, hst1⟩ := HC1.out _ (ext_refl _)
  have hI := impl_DayAfter (.agg #[.string s1, .slice A1 xs1.length c1]) s1 xs1 fr hr w3 hst1 HS1.out
  rw [hm1] at hI
  have HI := Lib.hid hI
  clear hI
  refine (show Calls _ _ _ _ _ from HI.out).mono ?_
  rintro e w4 ⟨rfl, hb⟩
  clear q1a q1b hst1
  replace HC1 := Lib.hid (fun W' h => HC1.out W' (ext_trans hb h))
  replace HB := Lib.hid (ext_trans HB.out hb)
  clear HI hb
  obtain ⟨q1a, q1b, hst1⟩ := HC1.out _ (ext_refl _)
  have hI := spec_DayAfter (.agg #[.string s1, .slice A1 xs1.length c1]) s1 xs1 fr hr w4 hst1 HS1.out
  rw [hm1] at hI
  have HI := Lib.hid hI
  clear hI
  go_wp2_with fail
  refine (show Calls _ _ _ _ _ from HI.out).mono ?_
  rintro e w5 ⟨rfl, hb⟩
  clear q1a q1b hst1
  replace HC1 := Lib.hid (fun W' h => HC1.out W' (ext_trans hb h))
  replace HB := Lib.hid (ext_trans HB.out hb)
  clear HI hb
  go_wp2_with fail
  refine (draw_HoursIn v0 x0 _ (H0.out.ext HB.out)).mono ?_
  rintro e w6 ⟨u, s2, xs2, bg, en, rfl, hO, hsm, hb⟩
  obtain ⟨A2, c2, rfl, hI⟩ := hO
  have HS2 := Lib.hid hsm
  replace HC1 := Lib.hid (fun W' h => HC1.out W' (ext_trans hb h))
  replace HB := Lib.hid (ext_trans HB.out hb)
  clear hsm hb
  have HC2 : Hid (∀ W', Below (w6.alloc (.cells #[.string s2, .slice A2 xs2.length c2] 26)).heap.size (w6.alloc (.cells #[.string s2, .slice A2 xs2.length c2] 26)) W' → W'.cell? ⟨w6.heap.size, 0, none⟩ = some (.string s2) ∧ W'.cell? ⟨w6.heap.size, 1, none⟩ = some (.slice A2 xs2.length c2) ∧ ST W' (.agg #[.string s2, .slice A2 xs2.length c2]) s2 xs2) := Lib.hid fun W' h => ⟨cell_keep (by simp [go_sem]) h, cell_keep (by simp [go_sem]) h, ⟨A2, c2, rfl, ((hI.rd).ext (ext_alloc1 _ _)).ext h⟩⟩
  have hb := ext_alloc1 w6 (.cells #[.string s2, .slice A2 xs2.length c2] 26)
  replace HC1 := Lib.hid (fun W' h => HC1.out W' (ext_trans hb h))
  replace HB := Lib.hid (ext_trans HB.out hb)
  clear hb
  go_wp2_with fail
  generalize hww : w6.alloc (.cells #[.string s2, .slice A2 xs2.length c2] 26) = w7 at *
  clear hww
  generalize w6.heap.size = p2 at *
  clear hI
  obtain ⟨sm, k2, hm2⟩ : ∃ y0 y1, mHoursIn s2 xs2 bg en = (y0, y1) := ⟨_, _, rfl⟩
  have HM2 := Lib.hid hm2
  obtain ⟨q2a, q2b, hst2⟩ := HC2.out _ (ext_refl _)
  have hI := impl_HoursIn (.agg #[.string s2, .slice A2 xs2.length c2]) s2 xs2 bg en w7 hst2 HS2.out
  rw [hm2] at hI
  have HI := Lib.hid hI
  clear hI
  refine (show Calls _ _ _ _ _ from HI.out).mono ?_
  rintro e w8 ⟨rfl, hb⟩
  clear q2a q2b hst2
  replace HC1 := Lib.hid (fun W' h => HC1.out W' (ext_trans hb h))
  replace HC2 := Lib.hid (fun W' h => HC2.out W' (ext_trans hb h))
  replace HB := Lib.hid (ext_trans HB.out hb)
  clear HI hb
  obtain ⟨q2a, q2b, hst2⟩ := HC2.out _ (ext_refl _)
  have hI := spec_HoursIn (.agg #[.string s2, .slice A2 xs2.length c2]) s2 xs2 bg en w8 hst2 HS2.out
  rw [hm2] at hI
  have HI := Lib.hid hI
  clear hI
  go_wp2_with fail
  refine (show Calls _ _ _ _ _ from HI.out).mono ?_
  rintro e w9 ⟨rfl, hb⟩
  clear q2a q2b hst2
  replace HC1 := Lib.hid (fun W' h => HC1.out W' (ext_trans hb h))
  replace HC2 := Lib.hid (fun W' h => HC2.out W' (ext_trans hb h))
  replace HB := Lib.hid (ext_trans HB.out hb)
  clear HI hb
  go_wp2_with fail
  refine (draw_LostDays v0 x0 _ (H0.out.ext HB.out)).mono ?_
  rintro e w10 ⟨u, s3, xs3, rfl, hO, hsm, hb⟩
  obtain ⟨A3, c3, rfl, hI⟩ := hO
  have HS3 := Lib.hid hsm
  replace HC1 := Lib.hid (fun W' h => HC1.out W' (ext_trans hb h))
  replace HC2 := Lib.hid (fun W' h => HC2.out W' (ext_trans hb h))
  replace HB := Lib.hid (ext_trans HB.out hb)
  clear hsm hb
  have HC3 : Hid (∀ W', Below (w10.alloc (.cells #[.string s3, .slice A3 xs3.length c3] 26)).heap.size (w10.alloc (.cells #[.string s3, .slice A3 xs3.length c3] 26)) W' → W'.cell? ⟨w10.heap.size, 0, none⟩ = some (.string s3) ∧ W'.cell? ⟨w10.heap.size, 1, none⟩ = some (.slice A3 xs3.length c3) ∧ ST W' (.agg #[.string s3, .slice A3 xs3.length c3]) s3 xs3) := Lib.hid fun W' h => ⟨cell_keep (by simp [go_sem]) h, cell_keep (by simp [go_sem]) h, ⟨A3, c3, rfl, ((hI.rd).ext (ext_alloc1 _ _)).ext h⟩⟩
  have hb := ext_alloc1 w10 (.cells #[.string s3, .slice A3 xs3.length c3] 26)
  replace HC1 := Lib.hid (fun W' h => HC1.out W' (ext_trans hb h))
  replace HC2 := Lib.hid (fun W' h => HC2.out W' (ext_trans hb h))
  replace HB := Lib.hid (ext_trans HB.out hb)
  clear hb
  go_wp2_with fail
  generalize hww : w10.alloc (.cells #[.string s3, .slice A3 xs3.length c3] 26) = w11 at *
  clear hww
  generalize w10.heap.size = p3 at *
  clear hI
  obtain ⟨M3, k3, hm3⟩ : ∃ y0 y1, mLostDays s3 xs3 = (y0, y1) := ⟨_, _, rfl⟩
  have HM3 := Lib.hid hm3
  obtain ⟨q3a, q3b, hst3⟩ := HC3.out _ (ext_refl _)
  have hI := impl_LostDays (.agg #[.string s3, .slice A3 xs3.length c3]) s3 xs3 w11 hst3 HS3.out
  rw [hm3] at hI
  have HI := Lib.hid hI
  clear hI
  refine (show Calls _ _ _ _ _ from HI.out).mono ?_
  rintro e w12 ⟨u, rfl, hO, hsm, hb⟩
  obtain ⟨B1, d1, rfl, hd1, hd2, _⟩ := hO.rd.open2
  clear q3a q3b hst3
  replace HC1 := Lib.hid (fun W' h => HC1.out W' (ext_trans hb h))
  replace HC2 := Lib.hid (fun W' h => HC2.out W' (ext_trans hb h))
  replace HC3 := Lib.hid (fun W' h => HC3.out W' (ext_trans hb h))
  replace HB := Lib.hid (ext_trans HB.out hb)
  have HR1 := Lib.hid hO.rd
  clear HI hO hb hsm hd1 hd2
  obtain ⟨q3a, q3b, hst3⟩ := HC3.out _ (ext_refl _)
  have hI := spec_LostDays (.agg #[.string s3, .slice A3 xs3.length c3]) s3 xs3 w12 hst3 HS3.out
  rw [hm3] at hI
  have HI := Lib.hid hI
  clear hI
  go_wp2_with fail
  refine (show Calls _ _ _ _ _ from HI.out).mono ?_
  rintro e w13 ⟨u, rfl, hO, hsm, hb⟩
  obtain ⟨B2, d2, rfl, hd1, hd2, _⟩ := hO.rd.open2
  clear q3a q3b hst3
  replace HC1 := Lib.hid (fun W' h => HC1.out W' (ext_trans hb h))
  replace HC2 := Lib.hid (fun W' h => HC2.out W' (ext_trans hb h))
  replace HC3 := Lib.hid (fun W' h => HC3.out W' (ext_trans hb h))
  replace HR1 := Lib.hid (HR1.out.ext hb)
  replace HB := Lib.hid (ext_trans HB.out hb)
  have HR2 := Lib.hid hO.rd
  clear HI hO hb hsm hd1 hd2
  obtain ⟨lg, k4, hm4⟩ : ∃ y0 y1, mLongestStop s3 xs3 = (y0, y1) := ⟨_, _, rfl⟩
  have HM4 := Lib.hid hm4
  obtain ⟨q3a, q3b, hst3⟩ := HC3.out _ (ext_refl _)
  have hI := impl_LongestStop (.agg #[.string s3, .slice A3 xs3.length c3]) s3 xs3 w13 hst3 HS3.out
  rw [hm4] at hI
  have HI := Lib.hid hI
  clear hI
  go_wp2_with fail
  refine (show Calls _ _ _ _ _ from HI.out).mono ?_
  rintro e w14 ⟨rfl, hb⟩
  clear q3a q3b hst3
  replace HC1 := Lib.hid (fun W' h => HC1.out W' (ext_trans hb h))
  replace HC2 := Lib.hid (fun W' h => HC2.out W' (ext_trans hb h))
  replace HC3 := Lib.hid (fun W' h => HC3.out W' (ext_trans hb h))
  replace HR1 := Lib.hid (HR1.out.ext hb)
  replace HR2 := Lib.hid (HR2.out.ext hb)
  replace HB := Lib.hid (ext_trans HB.out hb)
  clear HI hb
  obtain ⟨q3a, q3b, hst3⟩ := HC3.out _ (ext_refl _)
  have hI := spec_LongestStop (.agg #[.string s3, .slice A3 xs3.length c3]) s3 xs3 w14 hst3 HS3.out
  rw [hm4] at hI
  have HI := Lib.hid hI
  clear hI
  go_wp2_with fail
  refine (show Calls _ _ _ _ _ from HI.out).mono ?_
  rintro e w15 ⟨rfl, hb⟩
  clear q3a q3b hst3
  replace HC1 := Lib.hid (fun W' h => HC1.out W' (ext_trans hb h))
  replace HC2 := Lib.hid (fun W' h => HC2.out W' (ext_trans hb h))
  replace HC3 := Lib.hid (fun W' h => HC3.out W' (ext_trans hb h))
  replace HR1 := Lib.hid (HR1.out.ext hb)
  replace HR2 := Lib.hid (HR2.out.ext hb)
  replace HB := Lib.hid (ext_trans HB.out hb)
  clear HI hb
  go_wp2_with fail
  refine (draw_HoursOn v0 x0 _ (H0.out.ext HB.out)).mono ?_
  rintro e w16 ⟨u, s4, xs4, dn, rfl, hO, hsm, hb⟩
  obtain ⟨A4, c4, rfl, hI⟩ := hO
  have HS4 := Lib.hid hsm
  replace HC1 := Lib.hid (fun W' h => HC1.out W' (ext_trans hb h))
  replace HC2 := Lib.hid (fun W' h => HC2.out W' (ext_trans hb h))
  replace HC3 := Lib.hid (fun W' h => HC3.out W' (ext_trans hb h))
  replace HR1 := Lib.hid (HR1.out.ext hb)
  replace HR2 := Lib.hid (HR2.out.ext hb)
  replace HB := Lib.hid (ext_trans HB.out hb)
  clear hsm hb
  have HC4 : Hid (∀ W', Below (w16.alloc (.cells #[.string s4, .slice A4 xs4.length c4] 26)).heap.size (w16.alloc (.cells #[.string s4, .slice A4 xs4.length c4] 26)) W' → W'.cell? ⟨w16.heap.size, 0, none⟩ = some (.string s4) ∧ W'.cell? ⟨w16.heap.size, 1, none⟩ = some (.slice A4 xs4.length c4) ∧ ST W' (.agg #[.string s4, .slice A4 xs4.length c4]) s4 xs4) := Lib.hid fun W' h => ⟨cell_keep (by simp [go_sem]) h, cell_keep (by simp [go_sem]) h, ⟨A4, c4, rfl, ((hI.rd).ext (ext_alloc1 _ _)).ext h⟩⟩
  have hb := ext_alloc1 w16 (.cells #[.string s4, .slice A4 xs4.length c4] 26)
  replace HC1 := Lib.hid (fun W' h => HC1.out W' (ext_trans hb h))
  replace HC2 := Lib.hid (fun W' h => HC2.out W' (ext_trans hb h))
  replace HC3 := Lib.hid (fun W' h => HC3.out W' (ext_trans hb h))
  replace HR1 := Lib.hid (HR1.out.ext hb)
  replace HR2 := Lib.hid (HR2.out.ext hb)
  replace HB := Lib.hid (ext_trans HB.out hb)
  clear hb
  go_wp2_with fail
  generalize hww : w16.alloc (.cells #[.string s4, .slice A4 xs4.length c4] 26) = w17 at *
  clear hww
  generalize w16.heap.size = p4 at *
  clear hI
  obtain ⟨hn, k5, hm5⟩ : ∃ y0 y1, mHoursOn s4 xs4 dn = (y0, y1) := ⟨_, _, rfl⟩
  have HM5 := Lib.hid hm5
  obtain ⟨q4a, q4b, hst4⟩ := HC4.out _ (ext_refl _)
  have hI := impl_HoursOn (.agg #[.string s4, .slice A4 xs4.length c4]) s4 xs4 dn w17 hst4 HS4.out
  rw [hm5] at hI
  have HI := Lib.hid hI
  clear hI
  refine (show Calls _ _ _ _ _ from HI.out).mono ?_
  rintro e w18 ⟨rfl, hb⟩
  clear q4a q4b hst4
  replace HC1 := Lib.hid (fun W' h => HC1.out W' (ext_trans hb h))
  replace HC2 := Lib.hid (fun W' h => HC2.out W' (ext_trans hb h))
  replace HC3 := Lib.hid (fun W' h => HC3.out W' (ext_trans hb h))
  replace HC4 := Lib.hid (fun W' h => HC4.out W' (ext_trans hb h))
  replace HR1 := Lib.hid (HR1.out.ext hb)
  replace HR2 := Lib.hid (HR2.out.ext hb)
  replace HB := Lib.hid (ext_trans HB.out hb)
  clear HI hb
  obtain ⟨q4a, q4b, hst4⟩ := HC4.out _ (ext_refl _)
  have hI := spec_HoursOn (.agg #[.string s4, .slice A4 xs4.length c4]) s4 xs4 dn w18 hst4 HS4.out
  rw [hm5] at hI
  have HI := Lib.hid hI
  clear hI
  go_wp2_with fail
  refine (show Calls _ _ _ _ _ from HI.out).mono ?_
  rintro e w19 ⟨rfl, hb⟩
  clear q4a q4b hst4
  replace HC1 := Lib.hid (fun W' h => HC1.out W' (ext_trans hb h))
  replace HC2 := Lib.hid (fun W' h => HC2.out W' (ext_trans hb h))
  replace HC3 := Lib.hid (fun W' h => HC3.out W' (ext_trans hb h))
  replace HC4 := Lib.hid (fun W' h => HC4.out W' (ext_trans hb h))
  replace HR1 := Lib.hid (HR1.out.ext hb)
  replace HR2 := Lib.hid (HR2.out.ext hb)
  replace HB := Lib.hid (ext_trans HB.out hb)
  clear HI hb
  go_wp2_with fail
  refine (draw_SameSite v0 x0 _ (H0.out.ext HB.out)).mono ?_
  rintro e w20 ⟨u, s5, xs5, y, s6, xs6, rfl, hO, hsm, hO2, hsm2, hb⟩
  obtain ⟨A5, c5, rfl, hI⟩ := hO
  obtain ⟨A6, c6, rfl, hI2⟩ := hO2
  have HS5 := Lib.hid hsm
  have HS6 := Lib.hid hsm2
  replace HC1 := Lib.hid (fun W' h => HC1.out W' (ext_trans hb h))
  replace HC2 := Lib.hid (fun W' h => HC2.out W' (ext_trans hb h))
  replace HC3 := Lib.hid (fun W' h => HC3.out W' (ext_trans hb h))
  replace HC4 := Lib.hid (fun W' h => HC4.out W' (ext_trans hb h))
  replace HR1 := Lib.hid (HR1.out.ext hb)
  replace HR2 := Lib.hid (HR2.out.ext hb)
  replace HB := Lib.hid (ext_trans HB.out hb)
  clear hsm hsm2 hb
  have HC5 : Hid (∀ W', Below ((w20.alloc (.cells #[.string s5, .slice A5 xs5.length c5] 26)).alloc (.cells #[.string s6, .slice A6 xs6.length c6] 26)).heap.size ((w20.alloc (.cells #[.string s5, .slice A5 xs5.length c5] 26)).alloc (.cells #[.string s6, .slice A6 xs6.length c6] 26)) W' → W'.cell? ⟨w20.heap.size, 0, none⟩ = some (.string s5) ∧ W'.cell? ⟨w20.heap.size, 1, none⟩ = some (.slice A5 xs5.length c5) ∧ ST W' (.agg #[.string s5, .slice A5 xs5.length c5]) s5 xs5) := Lib.hid fun W' h => ⟨cell_keep (by simp [go_sem]) h, cell_keep (by simp [go_sem]) h, ⟨A5, c5, rfl, ((hI.ext (ext_alloc1 _ _)).ext (ext_alloc1 _ _)).ext h⟩⟩
  have HC6 : Hid (∀ W', Below ((w20.alloc (.cells #[.string s5, .slice A5 xs5.length c5] 26)).alloc (.cells #[.string s6, .slice A6 xs6.length c6] 26)).heap.size ((w20.alloc (.cells #[.string s5, .slice A5 xs5.length c5] 26)).alloc (.cells #[.string s6, .slice A6 xs6.length c6] 26)) W' → W'.cell? ⟨w20.heap.size + 1, 0, none⟩ = some (.string s6) ∧ W'.cell? ⟨w20.heap.size + 1, 1, none⟩ = some (.slice A6 xs6.length c6) ∧ ST W' (.agg #[.string s6, .slice A6 xs6.length c6]) s6 xs6) := Lib.hid fun W' h => ⟨cell_keep (by simp [go_sem]) h, cell_keep (by simp [go_sem]) h, ⟨A6, c6, rfl, ((hI2.ext (ext_alloc1 _ _)).ext (ext_alloc1 _ _)).ext h⟩⟩
  have hb := ext_trans (ext_alloc1 w20 (.cells #[.string s5, .slice A5 xs5.length c5] 26)) (ext_alloc1 (w20.alloc (.cells #[.string s5, .slice A5 xs5.length c5] 26)) (.cells #[.string s6, .slice A6 xs6.length c6] 26))
  replace HC1 := Lib.hid (fun W' h => HC1.out W' (ext_trans hb h))
  replace HC2 := Lib.hid (fun W' h => HC2.out W' (ext_trans hb h))
  replace HC3 := Lib.hid (fun W' h => HC3.out W' (ext_trans hb h))
  replace HC4 := Lib.hid (fun W' h => HC4.out W' (ext_trans hb h))
  replace HR1 := Lib.hid (HR1.out.ext hb)
  replace HR2 := Lib.hid (HR2.out.ext hb)
  replace HB := Lib.hid (ext_trans HB.out hb)
  clear hb hI hI2
  go_wp2_with fail
  generalize hww : (w20.alloc (.cells #[.string s5, .slice A5 xs5.length c5] 26)).alloc (.cells #[.string s6, .slice A6 xs6.length c6] 26) = w21 at *
  clear hww
  generalize w20.heap.size + 1 = p6 at *
  generalize w20.heap.size = p5 at *
  refine (draw_SiteText v0 x0 _ (H0.out.ext HB.out)).mono ?_
  rintro e w22 ⟨u, s7, xs7, rfl, hO, hsm, hb⟩
  obtain ⟨A7, c7, rfl, hI⟩ := hO
  have HS7 := Lib.hid hsm
  replace HC1 := Lib.hid (fun W' h => HC1.out W' (ext_trans hb h))
  replace HC2 := Lib.hid (fun W' h => HC2.out W' (ext_trans hb h))
  replace HC3 := Lib.hid (fun W' h => HC3.out W' (ext_trans hb h))
  replace HC4 := Lib.hid (fun W' h => HC4.out W' (ext_trans hb h))
  replace HC5 := Lib.hid (fun W' h => HC5.out W' (ext_trans hb h))
  replace HC6 := Lib.hid (fun W' h => HC6.out W' (ext_trans hb h))
  replace HR1 := Lib.hid (HR1.out.ext hb)
  replace HR2 := Lib.hid (HR2.out.ext hb)
  replace HB := Lib.hid (ext_trans HB.out hb)
  clear hsm hb
  have HC7 : Hid (∀ W', Below (w22.alloc (.cells #[.string s7, .slice A7 xs7.length c7] 26)).heap.size (w22.alloc (.cells #[.string s7, .slice A7 xs7.length c7] 26)) W' → W'.cell? ⟨w22.heap.size, 0, none⟩ = some (.string s7) ∧ W'.cell? ⟨w22.heap.size, 1, none⟩ = some (.slice A7 xs7.length c7) ∧ ST W' (.agg #[.string s7, .slice A7 xs7.length c7]) s7 xs7) := Lib.hid fun W' h => ⟨cell_keep (by simp [go_sem]) h, cell_keep (by simp [go_sem]) h, ⟨A7, c7, rfl, ((hI.rd).ext (ext_alloc1 _ _)).ext h⟩⟩
  have hb := ext_alloc1 w22 (.cells #[.string s7, .slice A7 xs7.length c7] 26)
  replace HC1 := Lib.hid (fun W' h => HC1.out W' (ext_trans hb h))
  replace HC2 := Lib.hid (fun W' h => HC2.out W' (ext_trans hb h))
  replace HC3 := Lib.hid (fun W' h => HC3.out W' (ext_trans hb h))
  replace HC4 := Lib.hid (fun W' h => HC4.out W' (ext_trans hb h))
  replace HC5 := Lib.hid (fun W' h => HC5.out W' (ext_trans hb h))
  replace HC6 := Lib.hid (fun W' h => HC6.out W' (ext_trans hb h))
  replace HR1 := Lib.hid (HR1.out.ext hb)
  replace HR2 := Lib.hid (HR2.out.ext hb)
  replace HB := Lib.hid (ext_trans HB.out hb)
  clear hb
  go_wp2_with fail
  generalize hww : w22.alloc (.cells #[.string s7, .slice A7 xs7.length c7] 26) = w23 at *
  clear hww
  generalize w22.heap.size = p7 at *
  clear hI
  obtain ⟨b6, hm6⟩ : ∃ a, (decide (s5 = s6) && decide (xs5 = xs6)) = a := ⟨_, rfl⟩
  have HM6 := Lib.hid hm6
  obtain ⟨tx, hm7⟩ : ∃ a, mSiteText s7 xs7 = a := ⟨_, rfl⟩
  have HM7 := Lib.hid hm7
  obtain ⟨b8, hm8⟩ : ∃ a, vSite s1 xs1 = a := ⟨_, rfl⟩
  have HM8 := Lib.hid hm8
  have r1a : ∀ d os, (grow (redrawn w23 d) os).cell? ⟨p1, 0, none⟩ = some (.string s1) := fun d os => cell_regrown (HC1.out _ (ext_refl _)).1 d os
  have r1b : ∀ d os, (grow (redrawn w23 d) os).cell? ⟨p1, 1, none⟩ = some (.slice A1 xs1.length c1) := fun d os => cell_regrown (HC1.out _ (ext_refl _)).2.1 d os
  have r5a : ∀ d os, (grow (redrawn w23 d) os).cell? ⟨p5, 0, none⟩ = some (.string s5) := fun d os => cell_regrown (HC5.out _ (ext_refl _)).1 d os
  have r5b : ∀ d os, (grow (redrawn w23 d) os).cell? ⟨p5, 1, none⟩ = some (.slice A5 xs5.length c5) := fun d os => cell_regrown (HC5.out _ (ext_refl _)).2.1 d os
  have r6a : ∀ d os, (grow (redrawn w23 d) os).cell? ⟨p6, 0, none⟩ = some (.string s6) := fun d os => cell_regrown (HC6.out _ (ext_refl _)).1 d os
  have r6b : ∀ d os, (grow (redrawn w23 d) os).cell? ⟨p6, 1, none⟩ = some (.slice A6 xs6.length c6) := fun d os => cell_regrown (HC6.out _ (ext_refl _)).2.1 d os
  have r7a : ∀ d os, (grow (redrawn w23 d) os).cell? ⟨p7, 0, none⟩ = some (.string s7) := fun d os => cell_regrown (HC7.out _ (ext_refl _)).1 d os
  have r7b : ∀ d os, (grow (redrawn w23 d) os).cell? ⟨p7, 1, none⟩ = some (.slice A7 xs7.length c7) := fun d os => cell_regrown (HC7.out _ (ext_refl _)).2.1 d os
  have K1 : Hid (∀ W', Below w23.heap.size w23 W' → Calls Try.prog 22 #[.slice B1 M3.length d1, .slice B2 M3.length d2] W' (Ret (.bool true) W')) := Lib.hid fun W' h => by
    have hh := f6ints_any _ _ M3 M3 W' (HR1.out.ext h) (HR2.out.ext h)
    rwa [show decide (M3 = M3) = true from decide_eq_true rfl] at hh
  have K2 : Hid (∀ W', Below w23.heap.size w23 W' → Calls Try.prog 23 #[(.agg #[.string s5, .slice A5 xs5.length c5]), (.agg #[.string s6, .slice A6 xs6.length c6])] W' (Ret (.bool b6) W')) := Lib.hid fun W' h => by
    have hh := impl_SameSite (.agg #[.string s5, .slice A5 xs5.length c5]) s5 xs5 (.agg #[.string s6, .slice A6 xs6.length c6]) s6 xs6 W' (HC5.out _ h).2.2 HS5.out (HC6.out _ h).2.2 HS6.out
    rwa [hm6] at hh
  have K3 : Hid (∀ W', Below w23.heap.size w23 W' → Calls Try.prog 24 #[(.agg #[.string s5, .slice A5 xs5.length c5]), (.agg #[.string s6, .slice A6 xs6.length c6])] W' (Ret (.bool b6) W')) := Lib.hid fun W' h => by
    have hh := spec_SameSite (.agg #[.string s5, .slice A5 xs5.length c5]) s5 xs5 (.agg #[.string s6, .slice A6 xs6.length c6]) s6 xs6 W' (HC5.out _ h).2.2 HS5.out (HC6.out _ h).2.2 HS6.out
    rwa [hm6] at hh
  have K4 : Hid (∀ W', Below w23.heap.size w23 W' → Calls Try.prog 25 #[(.agg #[.string s7, .slice A7 xs7.length c7])] W' (Ret (.string tx) W')) := Lib.hid fun W' h => by
    have hh := impl_SiteText (.agg #[.string s7, .slice A7 xs7.length c7]) s7 xs7 W' (HC7.out _ h).2.2 HS7.out
    rwa [hm7] at hh
  have K5 : Hid (∀ W', Below w23.heap.size w23 W' → Calls Try.prog 26 #[(.agg #[.string s7, .slice A7 xs7.length c7])] W' (Ret (.string tx) W')) := Lib.hid fun W' h => by
    have hh := spec_SiteText (.agg #[.string s7, .slice A7 xs7.length c7]) s7 xs7 W' (HC7.out _ h).2.2 HS7.out
    rwa [hm7] at hh
  have K6 : Hid (∀ W', Below w23.heap.size w23 W' → Calls Try.prog 27 #[(.agg #[.string s1, .slice A1 xs1.length c1])] W' (Ret (.bool b8) W')) := Lib.hid fun W' h => by
    have hh := impl_ValidSite (.agg #[.string s1, .slice A1 xs1.length c1]) s1 xs1 W' (HC1.out _ h).2.2 HS1.out
    rwa [hm8] at hh
  have K7 : Hid (∀ W', Below w23.heap.size w23 W' → Calls Try.prog 28 #[(.agg #[.string s1, .slice A1 xs1.length c1])] W' (Ret (.bool b8) W')) := Lib.hid fun W' h => by
    have hh := spec_ValidSite (.agg #[.string s1, .slice A1 xs1.length c1]) s1 xs1 W' (HC1.out _ h).2.2 HS1.out
    rwa [hm8] at hh
  simp only [List.append]
  refine wp_region_quiet_below (by kernel_rfl) (by kernel_rfl) ?_
  repeat (go_big_quiet_step (first | (go_at_call 22; exact regrown_r (K1.out _ (below_regrown _ _ _))) | (go_at_call 23; exact regrown_r (K2.out _ (below_regrown _ _ _))) | (go_at_call 24; exact regrown_r (K3.out _ (below_regrown _ _ _))) | (go_at_call 25; exact regrown_r (K4.out _ (below_regrown _ _ _))) | (go_at_call 26; exact regrown_r (K5.out _ (below_regrown _ _ _))) | (go_at_call 27; exact regrown_r (K6.out _ (below_regrown _ _ _))) | (go_at_call 28; exact regrown_r (K7.out _ (below_regrown _ _ _)))))
  refine wpQuiet_nil ?_
  intro w' hw'
  obtain ⟨pp, rfl⟩ := hw'
  have hb := below_regrown w23 pp.d pp.os
  clear r1a r1b r5a r5b r6a r6b r7a r7b K1 K2 K3 K4 K5 K6 K7 HR1
  replace HC1 := Lib.hid (fun W' h => HC1.out W' (ext_trans hb h))
  replace HC2 := Lib.hid (fun W' h => HC2.out W' (ext_trans hb h))
  replace HC3 := Lib.hid (fun W' h => HC3.out W' (ext_trans hb h))
  replace HC4 := Lib.hid (fun W' h => HC4.out W' (ext_trans hb h))
  replace HC5 := Lib.hid (fun W' h => HC5.out W' (ext_trans hb h))
  replace HC6 := Lib.hid (fun W' h => HC6.out W' (ext_trans hb h))
  replace HC7 := Lib.hid (fun W' h => HC7.out W' (ext_trans hb h))
  replace HR2 := Lib.hid (HR2.out.ext hb)
  replace HB := Lib.hid (ext_trans HB.out hb)
  generalize grow (redrawn w23 pp.d) pp.os = w24 at *
  clear hb
  clear HC5 HC6 HC7 HC4 hm5 HM5 hm6 HM6 hm7 HM7 hm8 HM8
  go_upto_if 207 with fail
  go_cut [35, 36, 37] from 207 to 232 (fun _ _ _ wx => Below w24.heap.size w24 wx)
  case first =>
    by_cases hk : k3 = 0
    · subst hk
      obtain ⟨hv, hM⟩ := lost_facts HM3.out
      have hlg : lg ≤ (M3.length : Int) := by
        have h9 := HM4.out
        unfold mLongestStop at h9
        rw [hv] at h9
        simp only [cond_true, Prod.mk.injEq] at h9
        have h8 := (stop_le (s := s3) (xs := xs3) s3.size).1
        rw [hM]
        unfold cnt at h8
        omega
      have hml : M3.length ≤ 120 := by
        have h7 := pick_len (lostB s3 xs3) s3.size
        have h6 := (vSite_size hv).1
        rw [hM]; omega
      have HDN : Hid (∀ k, k < M3.length → mHoursOn s3 xs3 (gi M3 k) = (0, 0)) := Lib.hid fun k hk => by rw [hM] at hk ⊢; exact days_none hv hk
      clear hM hv hm3 HM3 hm4 HM4
      go_wp2_with fail
      go_loopw [35] (fun i wr => ∃ k : Nat, k ≤ M3.length ∧ i = .int .i64 k ∧ Below w24.heap.size w24 wr) (fun i _ => M3.length - (intOf i).toNat)
      case atStart => exact ⟨0, Nat.zero_le _, rfl, ext_refl _⟩
      case round =>
        obtain ⟨k, hk, rfl, hbw⟩ := hrel
        have HBW := Lib.hid hbw
        by_cases hlt : k < M3.length
        · obtain ⟨ad, rfl, _, hcm⟩ := (HR2.out.ext hbw).at2 hlt
          have hq := hcm k hlt
          have hdn := HDN.out k hlt
          obtain ⟨dd, hdd⟩ : ∃ x, gi M3 k = x := ⟨_, rfl⟩
          rw [hdd] at hq hdn
          have hcc := HC3.out _ hbw
          have r3a : ∀ d os, (grow (redrawn wr d) os).cell? ⟨p3, 0, none⟩ = some (.string s3) := fun d os => cell_regrown hcc.1 d os
          have r3b : ∀ d os, (grow (redrawn wr d) os).cell? ⟨p3, 1, none⟩ = some (.slice A3 xs3.length c3) := fun d os => cell_regrown hcc.2.1 d os
          have r4 : ∀ d os, (grow (redrawn wr d) os).cell? (ad.add k) = some (.int .i64 dd) := fun d os => cell_regrown hq d os
          have K1 : Hid (∀ W', Below wr.heap.size wr W' → Calls Try.prog 18 #[(.agg #[.string s3, .slice A3 xs3.length c3]), .int .i64 dd] W' (Ret (.tuple #[.int .i64 0, .int .i64 0]) W')) := Lib.hid fun W' h => by
            have hh := impl_HoursOn (.agg #[.string s3, .slice A3 xs3.length c3]) s3 xs3 dd W' (HC3.out _ (ext_trans HBW.out h)).2.2 HS3.out
            rwa [hdn] at hh
          have e1 : (0:Int) ≤ k := by omega
          have e2 : (k:Int) < M3.length := by omega
          clear hcm hq hdn hdd hcc hbw
          go_wp2_with fail
          refine wp_region_quiet_below (by kernel_rfl) (by kernel_rfl) ?_
          repeat (go_big_quiet_step ((go_at_call 18; exact regrown_r (K1.out _ (below_regrown _ _ _)))))
          refine wpQuiet_nil ?_
          intro w' hw'
          obtain ⟨pp, rfl⟩ := hw'
          clear r3a r3b r4 K1
          go_wp2_with fail
          go_roundw
          case rel => exact ⟨k + 1, hlt, by go_num, ext_trans HBW.out (below_regrown _ _ _)⟩
          case measure => simp [intOf]; omega
        · obtain rfl : k = M3.length := by omega
          have e1 : ¬ (M3.length : Int) < lg := by omega
          go_wp2_with fail
          go_meet
          exact hbw
    · have e1 : (k3 == 0) = false := by simp [hk]
      go_wp2_with fail
      go_meet
      exact ext_refl _
  case rest =>
  have HX := Lib.hid hcut
  clear hcut hm3 HM3 hm4 HM4
  replace HC1 := Lib.hid (fun W' h => HC1.out W' (ext_trans HX.out h))
  replace HC2 := Lib.hid (fun W' h => HC2.out W' (ext_trans HX.out h))
  replace HC3 := Lib.hid (fun W' h => HC3.out W' (ext_trans HX.out h))
  replace HR2 := Lib.hid (HR2.out.ext HX.out)
  replace HB := Lib.hid (ext_trans HB.out HX.out)
  clear HX
  clear HR2 HC3
  go_upto_region 30 with fail
  go_cut [239] from 233 to 239 (fun s wx => s = .bool (decide (k2 = 0 ∧ bg < en)) ∧ wx = wc)
  case first =>
    by_cases hk : k2 = 0
    · have e2 : (k2 == 0) = true := by simp [hk]
      by_cases hle : bg < en
      · have HE := Lib.hid (decide_eq_true (show k2 = 0 ∧ bg < en from ⟨hk, hle⟩))
        have e3 : decide (bg < en) = true := decide_eq_true hle
        clear hk
        go_wp2_with fail
        go_meet
        exact ⟨congrArg Value.bool HE.out.symm, rfl⟩
      · have HE := Lib.hid (decide_eq_false (show ¬ (k2 = 0 ∧ bg < en) from fun h => hle h.2))
        have e3 : decide (bg < en) = false := decide_eq_false hle
        clear hk
        go_wp2_with fail
        go_meet
        exact ⟨congrArg Value.bool HE.out.symm, rfl⟩
    · have HE := Lib.hid (decide_eq_false (show ¬ (k2 = 0 ∧ bg < en) from fun h => hk h.1))
      have e2 : (k2 == 0) = false := by simp [hk]
      go_wp2_with fail
      go_meet
      exact ⟨congrArg Value.bool HE.out.symm, rfl⟩
  case rest =>
  obtain ⟨rfl, rfl⟩ := hcut
  go_upto_if 239 with fail
  go_cut [38, 39, 40, 41] from 239 to 266 (fun _ _ _ _ wx => Below wc.heap.size wc wx)
  case first =>
    by_cases hk : k2 = 0 ∧ bg < en
    · rw [decide_eq_true hk]
      obtain ⟨rfl, hle⟩ := hk
      obtain ⟨a, b, rfl, rfl, hab, hbs, hv, hsm⟩ := in_facts HM2.out
      have hab2 : a < b := by omega
      have h1 := on_mk hv (d := a) (by omega)
      have h2 : mHoursIn s2 xs2 ((a : Int) + 1) b = (hsum s2 xs2 (a + 1) b, 0) := by
        have := in_mk hv (a := a + 1) (b := b) (by omega) hbs
        rwa [Int.natCast_succ] at this
      have h3 := hsum_first (s := s2) (xs := xs2) hab2
      have h4 := hrs_bd s2 xs2 a
      have h5 := hsum_bd s2 xs2 (a + 1) b (by omega)
      have h6 := (vSite_size hv).1
      rw [h3] at hsm
      obtain ⟨x, hx⟩ : ∃ x, hrs s2 xs2 a = x := ⟨_, rfl⟩
      obtain ⟨y, hy⟩ : ∃ x, hsum s2 xs2 (a + 1) b = x := ⟨_, rfl⟩
      rw [hx] at h1 h4 hsm
      rw [hy] at h2 h5 hsm
      obtain ⟨q2a, q2b, hst2⟩ := HC2.out _ (ext_refl _)
      have hI := impl_HoursOn (.agg #[.string s2, .slice A2 xs2.length c2]) s2 xs2 a wc hst2 HS2.out
      rw [h1] at hI
      have HI := Lib.hid hI
      clear hI h1 h3 hx hy hm2 HM2
      subst hsm
      have e5 : 0 ≤ y ∧ y ≤ 1200 := by omega
      clear h5
      go_wp2_with fail
      refine (show Calls _ _ _ _ _ from HI.out).mono ?_
      rintro e wd ⟨rfl, hb⟩
      have HBD := Lib.hid hb
      clear q2a q2b hst2 HI
      obtain ⟨q2a, q2b, hst2⟩ := HC2.out _ hb
      have hI := impl_HoursIn (.agg #[.string s2, .slice A2 xs2.length c2]) s2 xs2 ((a : Int) + 1) b wd hst2 HS2.out
      rw [h2] at hI
      have HI := Lib.hid hI
      clear hI h2 hb
      go_wp2_with fail
      refine (show Calls _ _ _ _ _ from HI.out).mono ?_
      rintro e we ⟨rfl, hb⟩
      have HBE := Lib.hid (ext_trans HBD.out hb)
      clear q2a q2b hst2 HI hb
      go_wp2_with fail
      go_meet
      exact HBE.out
    · rw [decide_eq_false hk]
      clear hk
      go_wp2_with fail
      go_meet
      exact ext_refl _
  case rest =>
  have HX := Lib.hid hcut
  clear hcut hm2 HM2
  replace HC1 := Lib.hid (fun W' h => HC1.out W' (ext_trans HX.out h))
  replace HC2 := Lib.hid (fun W' h => HC2.out W' (ext_trans HX.out h))
  replace HB := Lib.hid (ext_trans HB.out HX.out)
  clear HX
  clear HC2
  by_cases hk : k1 = 0
  · subst hk
    obtain ⟨a, d, rfl, rfl, hab, hbs, hv, hge, hlt⟩ := after_facts HM1.out
    have h1 : mHoursIn s1 xs1 a ((d : Int) + 1) = (hsum s1 xs1 a (d + 1), 0) := by
      have := in_mk hv (a := a) (b := d + 1) (by omega) (by omega)
      rwa [Int.natCast_succ] at this
    have h2 := in_mk hv (a := a) (b := d) hab (by omega)
    have h6 := (vSite_size hv).1
    obtain ⟨x, hx⟩ : ∃ x, hsum s1 xs1 a (d + 1) = x := ⟨_, rfl⟩
    obtain ⟨y, hy⟩ : ∃ x, hsum s1 xs1 a d = x := ⟨_, rfl⟩
    rw [hx] at h1 hge
    rw [hy] at h2 hlt
    obtain ⟨q1a, q1b, hst1⟩ := HC1.out _ (ext_refl _)
    have hI := impl_HoursIn (.agg #[.string s1, .slice A1 xs1.length c1]) s1 xs1 a ((d : Int) + 1) wc hst1 HS1.out
    rw [h1] at hI
    have HI := Lib.hid hI
    have e1 : decide (hr ≤ x) = true := decide_eq_true hge
    have e2 : decide (y < hr) = true := decide_eq_true hlt
    clear hI h1 hx hy hm1 HM1
    go_wp2_with fail
    refine (show Calls _ _ _ _ _ from HI.out).mono ?_
    rintro e wd ⟨rfl, hb⟩
    have HBD := Lib.hid hb
    clear q1a q1b hst1 HI
    obtain ⟨q1a, q1b, hst1⟩ := HC1.out _ hb
    have hI := impl_HoursIn (.agg #[.string s1, .slice A1 xs1.length c1]) s1 xs1 a d wd hst1 HS1.out
    rw [h2] at hI
    have HI := Lib.hid hI
    clear hI h2 hb
    go_wp2_with fail
    refine (show Calls _ _ _ _ _ from HI.out).mono ?_
    rintro e we ⟨rfl, hb⟩
    have HBE := Lib.hid (ext_trans HBD.out hb)
    clear q1a q1b hst1 HI hb
    go_wp2_with fail
    go_ret
    exact ⟨rfl, ext_trans HB.out HBE.out⟩
  · have e1 : (k1 == 0) = false := by simp [hk]
    have e2 : (k1 != 0) = true := by simp [hk]
    go_wp2_with fail
    go_ret
    exact ⟨rfl, HB.out⟩

end Go.Proofs.Ytikiomjgnpdldaa
