/-
  Lifts, fourteenth part: A2Rise, A2Plan.
-/
import Derived.Test.YtibbdlgganmklaaDoorLifts13
namespace Go.Proofs.YtibbdlgganmklaaDoor
open Go.ChangeShapes Go.WideShapes Go.ChangeAt Go.RowKit Go.Sort
set_option linter.unusedVariables false

set_option maxHeartbeats 1600000 in
theorem a2_rise (v : Value) (bs : List UInt8) (w : World) (hR : RB w v bs) :
    Calls Tryd.prog 5 #[v] w fun e w' => ∃ v' r, e = .returned v' ∧ OSR w' w.heap.size v' r ∧ vRise r = true ∧ Below w.heap.size w w' := by
  have HR := Lib.hid hR; clear hR
  go_enter Tryd.func5, Tryd.ntmps5
  go_wp2_with fail
  refine (src_from v bs _ (HR.out.ext (ext_alloc1 _ _))).mono ?_
  rintro e w1 ⟨b, rfl, hS, hb⟩
  have HS := Lib.hid hS
  have HBX : Hid (BX w1 w.heap.size (.slice none 0 0) (.int .i64 0) (.int .i64 0) (.int .i64 0)) := Lib.hid ((bx_box w (.slice none 0 0) (.int .i64 0) (.int .i64 0) (.int .i64 0) 26).chg (Chg.of_below hb (fun _ => False)) (fun h => h))
  have hbl : w.heap.size < b := by have := hS.low; rw [World.size_alloc] at this; omega
  have hz1 : w.heap.size < w1.heap.size := by have := hb.size; rw [World.size_alloc] at this; omega
  have HW1 := Lib.hid (ext_trans (ext_alloc1 _ _) hb)
  clear hS hb
  go_wp2_with fail
  refine (draw_rise _ b v bs 0 0 _ HS.out (by omega)).mono ?_
  rintro e w2 ⟨v2, r, a2, s2, rfl, hO, hv, h1, h2, hS2, hC2⟩
  obtain ⟨A, c, rfl, hOI⟩ := hO
  obtain ⟨hp0, hp1, hp2, hp3, hpf⟩ := HBX.out.chg hC2 (by omega)
  have hf0 := hpf 0
  have hf1 := hpf 1
  have hf2 := hpf 2
  have hf3 := hpf 3
  have HO := Lib.hid hOI
  have HV := Lib.hid hv
  have HW2 := Lib.hid (Chg.ext HW1.out hC2 (fun k hk => by omega))
  clear hpf hOI hv hS2 hC2 HBX HS
  go_wp2_with fail
  refine bodyPost_ret (v := .agg #[.slice A r.cs.length c, .int .i64 r.reach, .int .i64 r.setup, .int .i64 r.easy]) (by simp [results, Tryd.results5, go_sem, hp0, hp1, hp2, hp3]) rfl ⟨_, r, rfl, ⟨A, c, rfl, ?_⟩, HV.out, ?_⟩
  · have h1 := HO.out.mono (show w.heap.size ≤ w1.heap.size by omega)
    repeat (refine OI.chg ?_ (set_chg _ w.heap.size _ _) (fun k hk hs => by have := (HO.out.ge k hk).1; omega))
    exact h1
  · repeat (refine ext_set ?_ (by simp) _)
    exact HW2.out

set_option maxHeartbeats 1600000 in
theorem a2_plan (v : Value) (bs : List UInt8) (u : Value) (r : RS) (w : World) (hR : RB w v bs) (hS : SR w u r) (hl : r.cs.length ≤ 40) :
    Calls Tryd.prog 9 #[v, u] w fun e w' => ∃ v' xs, e = .returned v' ∧ OI w' w.heap.size v' xs ∧ xs.length ≤ 41 ∧ Below w.heap.size w w' := by
  obtain ⟨A, c, rfl, hf⟩ := hS
  have HR := Lib.hid hR; clear hR
  have e0 : (r.cs.length : Int) ≤ 40 := by omega
  have HP := Lib.hid (pr_box (T := 26) hf)
  clear hf
  go_enter Tryd.func9, Tryd.ntmps9
  go_wp2_with fail
  refine (src_from v bs _ (HR.out.ext (ext_alloc1 _ _))).mono ?_
  rintro e w1 ⟨b, rfl, hS, hb⟩
  have HS := Lib.hid hS
  have HP1 := Lib.hid (HP.out.ext hb)
  have hbl : w.heap.size < b := by have := hS.low; rw [World.size_alloc] at this; omega
  have hbl2 := hS.lt
  have HW1 := Lib.hid (ext_trans (ext_alloc1 _ _) hb)
  clear hS hb HP
  go_wp2_with fail
  have HO0 : Hid (OI (w1.alloc (.cells #[.int .i64 0] 2)) w1.heap.size (.slice (some ⟨w1.heap.size, 0, none⟩) 1 1) [0]) := Lib.hid (World.ownsRow_lit _ #[.int .i64 0] 1 (Nat.le_refl _) (by simp [maxLen]) (by simp))
  go_loopw [6, 7] (fun o t wr => ∃ (a : Nat) (xs : List Int) (A1 : Option Addr) (c1 : Nat) (at3 sd3 : Int), a ≤ 40 ∧ xs.length ≤ a + 1 ∧ o = .slice A1 xs.length c1 ∧ t = .int .i64 a ∧ at3 ≤ 2 * (a : Int) ∧ Hid (Src (w.alloc (.cells #[.slice A r.cs.length c, .int .i64 r.reach, .int .i64 r.setup, .int .i64 r.easy] 26)) wr b v bs at3 sd3) ∧ Hid (OI wr w1.heap.size (.slice A1 xs.length c1) xs) ∧ Hid (Chg (fun k => k = b) w1 wr)) (fun _ t _ => r.cs.length - (intOf t).toNat)
  case atStart => exact ⟨0, [0], some ⟨w1.heap.size, 0, none⟩, 1, 0, 0, by omega, by simp, rfl, rfl, by omega, HS.out.chg (Chg.of_below (ext_alloc1 _ _) (fun _ => False)) (fun k hk => hk.elim) (fun h => h), HO0.out, Chg.of_below (ext_alloc1 _ _) _⟩
  case round =>
    obtain ⟨a, xs, A1, c1, at3, sd3, ha, hxa, rfl, rfl, hat, HSr, HO, HC⟩ := hrel
    go_wp2_with fail
    refine (src_pick _ b v bs at3 sd3 4 _ HSr.out (by omega)).mono ?_
    rintro e w3 ⟨x, at4, sd4, rfl, hx, hq1, hq2, hS3, hC3⟩
    have hx1 : 0 ≤ x ∧ x ≤ 3 := ⟨hx.1, by have := hx.2.2.1 (by omega); omega⟩
    obtain ⟨y, rfl⟩ := Int.eq_ofNat_of_zero_le hx1.1
    have HS3 := Lib.hid hS3
    have HO3 := Lib.hid (HO.out.chg hC3 (fun k hk hs => by have := (HO.out.ge k hk).1; omega))
    have HC3 := Lib.hid (HC.out.trans hC3)
    obtain ⟨⟨A2, c2, hp0, _⟩, _⟩ := HP1.out
    have hcp := HC3.out.cell hp0 (by dsimp only; omega)
    have hsz3 := HC3.out.size
    clear hx hS3 hC3 HSr HO HC hp0
    by_cases hlt : a + 1 + y < r.cs.length
    · have e1 : ((a:Int) + (1 + (y:Int))) < r.cs.length := by omega
      have e2 : ¬ (r.cs.length : Int) ≤ (a:Int) + (1 + (y:Int)) := by omega
      go_wp2_with (at_builtin; refine wpList_append_i rfl _ _ rfl w1.heap.size (.slice A1 xs.length c1) xs ((a:Int) + (1 + (y:Int))) rfl rfl HO3.out (by omega) hsz3 ?_; intro g c5 w5 hO5 hg5 hlt5; (have HO5 := Lib.hid hO5); (have HG5 := Lib.hid hg5); clear hO5 hg5 hlt5)
      go_roundw
      case rel => exact ⟨a + 1 + y, xs ++ [((a:Int) + (1 + (y:Int)))], some ⟨g, 0, none⟩, c5, at4, sd4, by omega, by rw [List.length_append]; simp; omega, by rw [List.length_append]; rfl, congrArg (Value.int .i64) (by omega), by omega, HS3.out.chg HG5.out (fun k hk => by have := (HO3.out.ge k hk).1; have := HS3.out.low; omega) (fun hk => by have := (HO3.out.ge b hk).1; omega), by rw [List.length_append]; exact HO5.out,
        ⟨HG5.out.os.trans HC3.out.os, HG5.out.tape.trans HC3.out.tape, HG5.out.output.trans HC3.out.output, Nat.le_trans hsz3 HG5.out.size, fun k hk hn => (HG5.out.block k (by omega) (fun hs => by have := (HO3.out.ge k hs).1; omega)).trans (HC3.out.block k hk hn)⟩⟩
      case measure => simp [intOf]; omega
    · have e2 : (r.cs.length : Int) ≤ (a:Int) + (1 + (y:Int)) := by omega
      go_wp2_with fail
      go_ret
      exact ⟨_, xs, rfl, HO3.out.mono (by have := HW1.out.size; omega), by omega, Chg.ext HW1.out HC3.out (fun k hk => by omega)⟩

end Go.Proofs.YtibbdlgganmklaaDoor
