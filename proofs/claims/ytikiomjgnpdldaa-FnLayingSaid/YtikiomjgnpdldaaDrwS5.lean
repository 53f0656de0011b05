/-
  Drawn sites: DrawFrostRisk, DrawSafeDays, DrawChangeWeather.
-/
import Derived.Test.YtikiomjgnpdldaaDrwSX
namespace Go.Proofs.Ytikiomjgnpdldaa
open Go.ChangeShapes Go.WideShapes Go.ChangeAt Go.RowKit Go.Sort
set_option linter.unusedVariables false
set_option maxRecDepth 100000

set_option maxHeartbeats 3200000 in
theorem draw_FrostRisk (v : Value) (bs : List UInt8) (w : World) (hR : RB w v bs) : Calls Try.prog 35 #[v] w (PS3 w) := by
  have HR := Lib.hid hR; clear hR
  go_enter Try.func35, Try.ntmps35
  go_wp2_with fail
  refine (src_start v bs _ (HR.out.ext (ext_alloc1 _ _))).mono ?_
  rintro e w0 ⟨b, rfl, hS0, hB0⟩
  have HS0 := Lib.hid hS0
  have HB0 := Lib.hid hB0
  clear hS0 hB0
  go_wp2_with fail
  refine (draw_ask _ b v bs 0 0 _ HS0.out (by omega)).mono ?_
  rintro e w1 ⟨s, A, c, xs, d, a1, s1, rfl, hs1, hxl, hd0, hd1, h1, h2, HS1, HO1, HC1⟩
  have HD0 := Lib.hid (DX.made (s := s) HS0.out HB0.out HS1 HO1 HC1)
  clear HS1 HO1 HC1
  go_wp2_with fail
  generalize w1.alloc (.cells #[.string s, .slice A xs.length c] 26) = wB at *
  generalize w1.heap.size = q at *
  · have HAM := Lib.hid (draw_cure _ b v bs a1 s1 wB.drew (src_drew HD0.out.src 1) (by omega))
    obtain ⟨hc0, hc1, hf0, hf1, _⟩ := HD0.out.bq
    go_wp2_with fail
    go_region_with ((go_at_call 64; refine (show Calls _ _ _ _ _ from HAM.out).mono ?_; rintro e w3 ⟨x, a3, s3, rfl, h5, h6, HS3, HC3⟩; (have HD3 := Lib.hid (HD0.out.pick HS3 ((Chg.of_below (ext_drew (ext_refl _)) _).trans HC3))); (obtain ⟨hp0, hp1, hpf0, hpf1, _⟩ := HD3.out.bp); (obtain ⟨hd0, hd1, hg0, hg1, _⟩ := HD3.out.bq); clear HS3 HC3))
    all_goals
      first | (go_wp2_with fail) | skip
      refine bodyPost_ret (v := .tuple #[.agg #[.string s, .slice A xs.length c], .int .i64 d, .int .i64 x]) (by simp [results, Try.results35, go_sem, hp0, hp1]) rfl ?_
      have HF := HD3.out.out hs1 hxl (.string s) (.slice A xs.length c)
      exact ⟨_, s, xs, d, x, rfl, HF⟩

set_option maxHeartbeats 3200000 in
theorem draw_SafeDays (v : Value) (bs : List UInt8) (w : World) (hR : RB w v bs) : Calls Try.prog 32 #[v] w (PS2 w) := by
  have HR := Lib.hid hR; clear hR
  go_enter Try.func32, Try.ntmps32
  go_wp2_with fail
  refine (src_start v bs _ (HR.out.ext (ext_alloc1 _ _))).mono ?_
  rintro e w0 ⟨b, rfl, hS0, hB0⟩
  have HS0 := Lib.hid hS0
  have HB0 := Lib.hid hB0
  clear hS0 hB0
  go_wp2_with fail
  refine (draw_bent_site _ b v bs 0 0 _ HS0.out (by omega)).mono ?_
  rintro e w1 ⟨s, A, c, xs, a1, s1, rfl, hs1, hxl, h1, h2, HS1, HO1, HC1⟩
  have HD0 := Lib.hid (DX.made (s := s) HS0.out HB0.out HS1 HO1 HC1)
  clear HS1 HO1 HC1
  go_wp2_with fail
  generalize w1.alloc (.cells #[.string s, .slice A xs.length c] 26) = wB at *
  generalize w1.heap.size = q at *
  · have HAM := Lib.hid (draw_cure _ b v bs a1 s1 wB.drew (src_drew HD0.out.src 1) (by omega))
    obtain ⟨hc0, hc1, hf0, hf1, _⟩ := HD0.out.bq
    go_wp2_with fail
    go_region_with ((go_at_call 64; refine (show Calls _ _ _ _ _ from HAM.out).mono ?_; rintro e w3 ⟨x, a3, s3, rfl, h5, h6, HS3, HC3⟩; (have HD3 := Lib.hid (HD0.out.pick HS3 ((Chg.of_below (ext_drew (ext_refl _)) _).trans HC3))); (obtain ⟨hp0, hp1, hpf0, hpf1, _⟩ := HD3.out.bp); (obtain ⟨hd0, hd1, hg0, hg1, _⟩ := HD3.out.bq); clear HS3 HC3))
    all_goals
      first | (go_wp2_with fail) | skip
      refine bodyPost_ret (v := .tuple #[.agg #[.string s, .slice A xs.length c], .int .i64 x]) (by simp [results, Try.results32, go_sem, hp0, hp1]) rfl ?_
      have HF := HD3.out.out hs1 hxl (.string s) (.slice A xs.length c)
      exact ⟨_, s, xs, x, rfl, HF⟩

set_option maxHeartbeats 3200000 in
theorem draw_ChangeWeather (v : Value) (bs : List UInt8) (w : World) (hR : RB w v bs) : Calls Try.prog 38 #[v] w (PSt w) := by
  have HR := Lib.hid hR; clear hR
  go_enter Try.func38, Try.ntmps38
  go_wp2_with fail
  refine (src_start v bs _ (HR.out.ext (ext_alloc1 _ _))).mono ?_
  rintro e w0 ⟨b, rfl, hS0, hB0⟩
  have HS0 := Lib.hid hS0
  have HB0 := Lib.hid hB0
  clear hS0 hB0
  go_wp2_with fail
  refine (draw_ask _ b v bs 0 0 _ HS0.out (by omega)).mono ?_
  rintro e w1 ⟨s, A, c, xs, d, a1, s1, rfl, hs1, hxl, hd0, hd1, h1, h2, HS1, HO1, HC1⟩
  have HD0 := Lib.hid (DX.made (s := s) HS0.out HB0.out HS1 HO1 HC1)
  clear HS1 HO1 HC1
  go_wp2_with fail
  generalize w1.alloc (.cells #[.string s, .slice A xs.length c] 26) = wB at *
  generalize w1.heap.size = q at *
  · have HAM := Lib.hid (src_litSD _ b v bs a1 s1 [⟨#[100]⟩, ⟨#[109]⟩, ⟨#[114]⟩, ⟨#[102]⟩, ⟨#[102]⟩, ⟨#[]⟩, ⟨#[120]⟩, ⟨#[100, 100]⟩] (by simp) (by simp) wB HD0.out.src (by omega) 9 _ rfl)
    obtain ⟨hc0, hc1, hf0, hf1, _⟩ := HD0.out.bq
    go_wp2_with fail
    go_region_with ((go_at_call 72; refine (show Calls _ _ _ _ _ from HAM.out).mono ?_; rintro e w3 ⟨x, a3, s3, rfl, hx, h5, h6, HS3, HC3⟩; (have HD3 := Lib.hid (HD0.out.pick HS3 (HC3))); (have hx1 := letter_size hx);(obtain ⟨hp0, hp1, hpf0, hpf1, _⟩ := HD3.out.bp); (obtain ⟨hd0, hd1, hg0, hg1, _⟩ := HD3.out.bq); clear HS3 HC3))
    all_goals
      first | (go_wp2_with fail) | skip
      refine bodyPost_ret (v := .tuple #[.agg #[.string s, .slice A xs.length c], .int .i64 d, .string x]) (by simp [results, Try.results38, go_sem, hp0, hp1]) rfl ?_
      have HF := HD3.out.out hs1 hxl (.string s) (.slice A xs.length c)
      exact ⟨_, s, xs, d, x, rfl, hx1, HF⟩

end Go.Proofs.Ytikiomjgnpdldaa
