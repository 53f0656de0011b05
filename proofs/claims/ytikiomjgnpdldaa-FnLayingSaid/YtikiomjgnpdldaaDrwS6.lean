/-
  Drawn sites: DrawPlanLaying.
-/
import Derived.Test.YtikiomjgnpdldaaDrwSX
namespace Go.Proofs.Ytikiomjgnpdldaa
open Go.ChangeShapes Go.WideShapes Go.ChangeAt Go.RowKit Go.Sort
set_option linter.unusedVariables false
set_option maxRecDepth 100000

set_option maxHeartbeats 3200000 in
theorem draw_PlanLaying (v : Value) (bs : List UInt8) (w : World) (hR : RB w v bs) : Calls Try.prog 29 #[v] w (PS4 w) := by
  have HR := Lib.hid hR; clear hR
  go_enter Try.func29, Try.ntmps29
  go_wp2_with fail
  refine (src_start v bs _ (HR.out.ext (ext_alloc1 _ _))).mono ?_
  rintro e w0 ⟨b, rfl, hS0, hB0⟩
  have HS0 := Lib.hid hS0
  have HB0 := Lib.hid hB0
  clear hS0 hB0
  go_wp2_with fail
  refine (draw_bent_site _ b v bs 0 0 _ HS0.out (by omega)).mono ?_
  rintro e w1 ⟨s, A, c, xs, a1, s1, rfl, hs1, hxl, h1, h2, HS1, HO1, HC1⟩
  have HD0 := Lib.hid (DX.made (s := s) HS0.out HB0.out HS1 HO1 HC1)
  clear HS1 HO1 HC1
  go_wp2_with fail
  generalize w1.alloc (.cells #[.string s, .slice A xs.length c] 26) = wB at *
  generalize w1.heap.size = q at *
  refine (draw_cure _ b v bs a1 s1 _ HD0.out.src (by omega)).mono ?_
  rintro e w5 ⟨cu, a5, s5, rfl, h51, h52, HS5, HC5⟩
  have HD5 := Lib.hid (HD0.out.pick HS5 HC5)
  clear HS5 HC5 HD0
  go_wp2_with fail
  refine (draw_many _ b v bs a5 s5 _ HD5.out.src (by omega)).mono ?_
  rintro e w6 ⟨mn, a6, s6, rfl, h61, h62, HS6, HC6⟩
  have HD6 := Lib.hid (HD5.out.pick HS6 HC6)
  clear HS6 HC6 HD5
  go_wp2_with fail
  refine (src_one _ b v bs a6 s6 8 _ HD6.out.src (by omega)).mono ?_
  rintro e w2 ⟨y, a2, s2, rfl, h3, h4, HS2, HC2⟩
  have HD2 := Lib.hid (HD6.out.pick HS2 HC2)
  clear HS2 HC2 HD6
  obtain ⟨hc0, hc1, hf0, hf1, _⟩ := HD2.out.bq
  cases y with
  | false =>
    have HAM := Lib.hid (src_pick _ b v bs a2 s2 40 w2.drew (src_drew HD2.out.src 1) (by omega))
    go_wp2_with fail
    go_region_with ((go_at_call 45; refine (show Calls _ _ _ _ _ from HAM.out).mono ?_; rintro e w3 ⟨x, a3, s3, rfl, hx, h5, h6, HS3, HC3⟩; (have HD3 := Lib.hid (HD2.out.pick HS3 ((Chg.of_below (ext_drew (ext_refl _)) _).trans HC3))); (have hx1 : 0 ≤ x ∧ x ≤ 200 := ⟨hx.1, pick_200 hx (by omega)⟩);(obtain ⟨hp0, hp1, hpf0, hpf1, _⟩ := HD3.out.bp); (obtain ⟨hd0, hd1, hg0, hg1, _⟩ := HD3.out.bq); clear HS3 HC3))
    all_goals
      first | (go_wp2_with fail) | skip
      refine bodyPost_ret (v := .tuple #[.agg #[.string s, .slice A xs.length c], .int .i64 cu, .int .i64 mn, .int .i64 (IntKind.i64.wrap (10 * IntKind.i64.wrap (1 + x)))]) (by simp [results, Try.results29, go_sem, hp0, hp1]) rfl ?_
      have HF := HD3.out.out hs1 hxl (.string s) (.slice A xs.length c)
      exact ⟨_, s, xs, cu, mn, IntKind.i64.wrap (10 * IntKind.i64.wrap (1 + x)), rfl, HF⟩
  | true =>
    have HAM := Lib.hid (src_litD _ b v bs a2 s2 [-1, 0, 1, 5000, 5001] (by simp) (by simp) w2 HD2.out.src (by omega) 2 _ rfl)
    go_wp2_with fail
    go_region_with ((go_at_call 44; refine (show Calls _ _ _ _ _ from HAM.out).mono ?_; rintro e w3 ⟨x, a3, s3, rfl, hx, h5, h6, HS3, HC3⟩; (have HD3 := Lib.hid (HD2.out.pick HS3 (HC3))); (obtain ⟨hp0, hp1, hpf0, hpf1, _⟩ := HD3.out.bp); (obtain ⟨hd0, hd1, hg0, hg1, _⟩ := HD3.out.bq); clear HS3 HC3))
    all_goals
      first | (go_wp2_with fail) | skip
      refine bodyPost_ret (v := .tuple #[.agg #[.string s, .slice A xs.length c], .int .i64 cu, .int .i64 mn, .int .i64 x]) (by simp [results, Try.results29, go_sem, hp0, hp1]) rfl ?_
      have HF := HD3.out.out hs1 hxl (.string s) (.slice A xs.length c)
      exact ⟨_, s, xs, cu, mn, x, rfl, HF⟩

end Go.Proofs.Ytikiomjgnpdldaa
