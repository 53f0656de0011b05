/-
  Parts of the proof: ClashX.
-/
import Derived.Test.YtfgopboddkhckaaGreatDoorKa18
import Derived.Test.YtfgopboddkhckaaGreatDoorKa21
import Derived.Test.YtfgopboddkhckaaGreatDoorKa24
import Derived.OwnWalk
import Derived.BigQuiet
import Derived.Lib.QuietBelow
namespace Go.Proofs.YtfgopboddkhckaaGreatDoor
open Go.ChangeShapes Go.WideShapes Go.ChangeAt Go.RowKit Go.Sort Go.Joins
set_option linter.unusedVariables false
set_option maxRecDepth 100000

/-- The reference's search. -/
def clR (lap : Int) (l : List ByteArray) : Int × Int × Int × Bool := match clW lap l with | some (k, x, y) => (k, x, y, true) | none => (0, 0, 0, false)
theorem clR_hit {l : List ByteArray} {lap k x y : Int} (h2 : clW lap l = some (k, x, y)) : clR lap l = (k, x, y, true) := by unfold clR; rw [h2]
theorem clR_end {l : List ByteArray} {lap : Int} (h2 : clW lap l = none) : clR lap l = (0, 0, 0, false) := by unfold clR; rw [h2]
set_option maxHeartbeats 6400000 in
theorem spec_clash6 (A : Option Addr) (c : Nat) (l : List ByteArray) (lap : Int) (w : World) (hR : RStr w (.slice A l.length c) l) (hv : vW l = true) (hl1 : 1 ≤ lap) (hl4 : lap ≤ 4) :
    Calls Tryz.prog 176 #[.slice A l.length c, .int .i64 lap] w (Ret (.tuple #[.int .i64 (clR lap l).1, .int .i64 (clR lap l).2.1, .int .i64 (clR lap l).2.2.1, .bool (clR lap l).2.2.2]) w) := by
  have HR := Lib.hid hR
  obtain ⟨v1, v2, v3⟩ := vW_parts hv
  have HV : Hid (∀ k, k < l.length → 1 ≤ (gd l k).size ∧ (gd l k).size ≤ 60) := Lib.hid fun k hk => ⟨(vCo_parts (v3 k hk)).1, (vCo_parts (v3 k hk)).2.1⟩
  clear hR hv v3
  obtain ⟨n, hn⟩ : ∃ n, l.length = n + 1 := ⟨l.length - 1, by omega⟩
  have HN := Lib.hid hn
  have hn40 : n ≤ 39 := by omega
  have hni : (l.length : Int) = n + 1 := by omega
  clear hn v1 v2
  go_enter Tryz.func176, Tryz.ntmps176
  go_wp2_with fail
  go_loopw [8] (fun i wr => ∃ k : Nat, k ≤ n ∧ i = .int .i64 (k : Int) ∧ Hid (clWk lap l k = none) ∧ Hid (Below w.heap.size w wr)) (fun i _ => n - (intOf i).toNat)
  case atStart => exact ⟨0, Nat.zero_le _, rfl, Lib.hid rfl, Lib.hid (ext_refl _)⟩
  case round =>
    obtain ⟨k, hk, rfl, HF, HB⟩ := hrel
    have e0 : (0 : Int) ≤ k := by omega
    by_cases hlt : k < n
    · have e1 : (0 : Int) ≤ (k : Int) + 1 := by omega
      have e2 : (k : Int) + 1 < l.length := by omega
      have e4 : (k : Int) < l.length := by omega
      have e5 : ((k : Int) + 1).toNat = k + 1 := by omega
      have hk1 : k + 1 < l.length := by have := HN.out; omega
      have hk0 : k < l.length := by omega
      obtain ⟨ad, rfl, _, hc⟩ := (HR.out.ext HB.out).at hk1
      have p1 := hc (k + 1) hk1
      rw [addr_succ] at p1
      have p0 := hc k hk0
      clear hc
      have HS := Lib.hid (HV.out (k + 1) hk1)
      have HT := Lib.hid (HV.out k hk0)
      have HNX := Lib.hid (fun h => clWk_next (lap := lap) (l := l) (k := k) (by have := HN.out; omega) HF.out h)
      have HHT := Lib.hid (fun x y h => clWk_hit (lap := lap) (l := l) (k := k) (x := x) (y := y) (by have := HN.out; omega) HF.out h)
      obtain ⟨s, hs⟩ : ∃ s, gd l (k + 1) = s := ⟨_, rfl⟩
      obtain ⟨t, ht⟩ : ∃ t, gd l k = t := ⟨_, rfl⟩
      rw [hs] at p1 HS HNX HHT
      rw [ht] at p0 HT HNX HHT
      have HCS := Lib.hid (fun w => spec_perps s HS.out.1 HS.out.2 w)
      have HCT := Lib.hid (fun w => spec_perps t HT.out.1 HT.out.2 w)
      have HXB : Hid (∀ i, i < (perp t).length → 0 ≤ gi (perp t) i ∧ gi (perp t) i ≤ 240) := Lib.hid fun i hi => perp_bd HT.out.2 (by rwa [perp_len] at hi)
      have HYB : Hid (∀ i, i < (perp s).length → 0 ≤ gi (perp s) i ∧ gi (perp s) i ≤ 240) := Lib.hid fun i hi => perp_bd HS.out.2 (by rwa [perp_len] at hi)
      have hx60 : (perp t).length ≤ 60 := by have := HT.out; rw [perp_len]; omega
      have hy60 : (perp s).length ≤ 60 := by have := HS.out; rw [perp_len]; omega
      obtain ⟨ys, hys⟩ : ∃ ys, perp s = ys := ⟨_, rfl⟩
      obtain ⟨xs, hxs⟩ : ∃ xs, perp t = xs := ⟨_, rfl⟩
      rw [hys] at HCS HNX HHT HYB hy60
      rw [hxs] at HCT HNX HHT HXB hx60
      clear hs ht hys hxs
      go_wp2_with fail
      refine (show Calls _ _ _ _ _ from HCT.out _).mono ?_
      rintro e w2 ⟨D, dc, rfl, hO2, hb2⟩
      have HO2 := Lib.hid hO2
      have HB2 := Lib.hid hb2
      have p2 := cell_keep p1 hb2
      clear hO2 hb2 p1 p0
      go_wp2_with fail
      refine (show Calls _ _ _ _ _ from HCS.out _).mono ?_
      rintro e w3 ⟨C, cc, rfl, hO3, hb3⟩
      have HO3 := Lib.hid hO3
      have HO2' := Lib.hid (HO2.out.ext hb3)
      have HB3 := Lib.hid (ext_trans HB.out (ext_trans HB2.out hb3))
      clear hO3 hb3 p2 HO2
      go_wp2_with fail
      go_loopw [11] (fun i wr => ∃ j : Nat, j ≤ xs.length ∧ i = .int .i64 j ∧ Hid (clAk lap xs ys j = none) ∧ Hid (Below w3.heap.size w3 wr)) (fun i _ => xs.length - (intOf i).toNat)
      case atStart => exact ⟨0, Nat.zero_le _, rfl, Lib.hid rfl, Lib.hid (ext_refl _)⟩
      case round =>
        obtain ⟨j, hj, rfl, HJ, HBJ⟩ := hrel
        have f0 : (0 : Int) ≤ j := by omega
        by_cases hjl : j < xs.length
        · have f1 : (j : Int) < xs.length := by omega
          have HAN := Lib.hid (fun h => clAk_next (lap := lap) (xs := xs) (ys := ys) hjl HJ.out h)
          have HAH := Lib.hid (fun y h => clAk_hit (lap := lap) (xs := xs) (ys := ys) (y := y) hjl HJ.out h)
          have hxb := HXB.out j hjl
          obtain ⟨bd, rfl, q0'⟩ := HO2'.out.at2 hjl
          have HQ0 := Lib.hid q0'
          clear q0'
          obtain ⟨x, hx⟩ : ∃ x, gi xs j = x := ⟨_, rfl⟩
          rw [hx] at HQ0 hxb HAN HAH
          clear hx
          go_wp2_with fail
          go_loopw [12] (fun i wr' => ∃ m : Nat, m ≤ ys.length ∧ i = .int .i64 m ∧ Hid (clBk lap x ys m = none) ∧ Hid (Below w3.heap.size w3 wr')) (fun i _ => ys.length - (intOf i).toNat)
          case atStart => exact ⟨0, Nat.zero_le _, rfl, Lib.hid rfl, HBJ⟩
          case round =>
            obtain ⟨m, hm, rfl, HM, HBM⟩ := hrel
            have g0 : (0 : Int) ≤ m := by omega
            by_cases hml : m < ys.length
            · have g1 : (m : Int) < ys.length := by omega
              have q0 := fun d os => cell_regrown (cell_keep HQ0.out HBM.out) d os
              obtain ⟨cd, rfl, q1'⟩ := (HO3.out.ext HBM.out).at2 hml
              have hyb := HYB.out m hml
              have HBN := Lib.hid (fun h => clBk_next (lap := lap) (x := x) (ys := ys) hml HM.out h)
              have HBH := Lib.hid (fun h => clB_yes (lap := lap) (x := x) (ys := ys) hml HM.out h)
              obtain ⟨y, hy⟩ : ∃ y, gi ys m = y := ⟨_, rfl⟩
              rw [hy] at q1' hyb HBN HBH
              have q1 := fun d os => cell_regrown q1' d os
              clear hy
              have HCA := Lib.hid (fun w => RetP.ret (spec_sizeD x y (by omega) (by omega) w))
              obtain ⟨z, hz⟩ : ∃ z, apt x y = z := ⟨_, rfl⟩
              rw [hz] at HCA HBN HBH
              clear hz q1'
              by_cases hzl : z < lap
              · have HW := Lib.hid (clR_hit (HHT.out _ _ (HAH.out _ (HBH.out hzl))))
                go_wp2_with fail
                refine wp_region_quiet_below (by kernel_rfl) (by kernel_rfl) ?_
                repeat (go_big_quiet_step ((go_at_call 224; exact regrown_r (HCA.out _))))
                refine wpQuiet_nil ?_
                intro w' hw'
                obtain ⟨p, rfl⟩ := hw'
                have HB5 := Lib.hid (ext_trans HBM.out (below_regrown _ p.d p.os))
                have r0 := fun d os => cell_regrown (q0 p.d p.os) d os
                have r1 := fun d os => cell_regrown (q1 p.d p.os) d os
                clear q0 q1
                generalize grow (redrawn wr p.d) p.os = w5 at *
                go_wp2_with fail
                refine wp_region_quiet_below (by kernel_rfl) (by kernel_rfl) ?_
                repeat (go_big_quiet_step (fail))
                refine wpQuiet_nil ?_
                intro w' hw'
                obtain ⟨p, rfl⟩ := hw'
                go_wp2_with fail
                refine bodyPost_ret (v := .tuple #[.int .i64 k, .int .i64 x, .int .i64 y, .bool true]) (by simp [results, Tryz.results176, go_sem]) rfl ?_
                rw [HW.out]
                exact ⟨rfl, ext_trans HB3.out (ext_trans HB5.out (below_regrown _ p.d p.os))⟩
              · have HBN2 := Lib.hid (HBN.out hzl)
                go_wp2_with fail
                refine wp_region_quiet_below (by kernel_rfl) (by kernel_rfl) ?_
                repeat (go_big_quiet_step ((go_at_call 224; exact regrown_r (HCA.out _))))
                refine wpQuiet_nil ?_
                intro w' hw'
                obtain ⟨p, rfl⟩ := hw'
                have HB5 := Lib.hid (ext_trans HBM.out (below_regrown _ p.d p.os))
                clear q0 q1
                go_wp2_with fail
                go_roundw
                case rel => exact ⟨m + 1, by omega, by go_num, HBN2, HB5⟩
                case measure => simp [intOf]; omega
            · obtain rfl : m = ys.length := by omega
              have HBE := Lib.hid (HAN.out (clBk_end HM.out))
              have g1 : ¬ (ys.length : Int) < ys.length := by omega
              go_wp2_with fail
              go_roundw
              case rel => exact ⟨j + 1, by omega, by go_num, HBE, HBM⟩
              case measure => simp [intOf]; omega
        · obtain rfl : j = xs.length := by omega
          have HAE := Lib.hid (HNX.out (clAk_end HJ.out))
          have f1 : ¬ (xs.length : Int) < xs.length := by omega
          go_wp2_with fail
          go_roundw
          case rel => exact ⟨k + 1, by omega, by go_num, HAE, Lib.hid (ext_trans HB3.out HBJ.out)⟩
          case measure => simp [intOf]; omega
    · obtain rfl : k = n := by omega
      have HE := Lib.hid (clR_end (clWk_end (by rw [HN.out]; exact HF.out)))
      have e1 : ¬ (k : Int) + 1 < l.length := by omega
      go_wp2_with fail
      refine bodyPost_ret (v := .tuple #[.int .i64 0, .int .i64 0, .int .i64 0, .bool false]) (by simp [results, Tryz.results176, go_sem]) rfl ?_
      rw [HE.out]
      exact ⟨rfl, HB.out⟩
set_option maxHeartbeats 1600000 in
theorem spec_FirstClash (A : Option Addr) (c : Nat) (l : List ByteArray) (lap : Int) (w : World) (hR : RStr w (.slice A l.length c) l) (hsm : SmWall l) :
    Calls Tryz.prog 116 #[.slice A l.length c, .int .i64 lap] w (Ret4 (mClash l lap) w) := by
  have HR := Lib.hid hR
  have HWC := Lib.hid (spec_wallC A c l lap w hR hsm)
  clear hR hsm
  by_cases h0 : wlC l lap = 0
  · obtain ⟨hv, hl1, hl4⟩ := wlC_ok h0
    have HCL := Lib.hid (fun w h => spec_clash6 A c l lap w h hv hl1 hl4)
    have HM : Hid (mClash l lap = (match clW lap l with | some (k, x, y) => (k, x, y, 0) | none => (0, 0, 0, 3))) := Lib.hid (by unfold mClash; rw [if_pos h0]; cases clW lap l <;> rfl)
    rw [h0] at HWC
    clear hv h0
    unfold clR at HCL
    cases hc : clW lap l with
    | none =>
      rw [hc] at HCL HM
      clear hc
      go_enter Tryz.func116, Tryz.ntmps116
      go_wp2_with fail
      refine (show Calls _ _ _ _ _ from HWC.out).mono ?_
      rintro e w1 ⟨rfl, hb⟩
      have HB1 := Lib.hid hb
      clear hb
      go_wp2_with fail
      refine (show Calls _ _ _ _ _ from HCL.out _ (HR.out.ext HB1.out)).mono ?_
      rintro e w2 ⟨rfl, hb⟩
      have HB2 := Lib.hid (ext_trans HB1.out hb)
      clear hb
      dsimp only
      go_wp2_with fail
      refine bodyPost_ret (v := .tuple #[.int .i64 0, .int .i64 0, .int .i64 0, .int .i64 3]) (by simp [results, Tryz.results116, go_sem]) rfl ?_
      unfold Ret4
      rw [HM.out]
      exact ⟨rfl, HB2.out⟩
    | some p =>
      obtain ⟨k, x, y⟩ := p
      rw [hc] at HCL HM
      clear hc
      go_enter Tryz.func116, Tryz.ntmps116
      go_wp2_with fail
      refine (show Calls _ _ _ _ _ from HWC.out).mono ?_
      rintro e w1 ⟨rfl, hb⟩
      have HB1 := Lib.hid hb
      clear hb
      go_wp2_with fail
      refine (show Calls _ _ _ _ _ from HCL.out _ (HR.out.ext HB1.out)).mono ?_
      rintro e w2 ⟨rfl, hb⟩
      have HB2 := Lib.hid (ext_trans HB1.out hb)
      clear hb
      dsimp only
      go_wp2_with fail
      refine bodyPost_ret (v := .tuple #[.int .i64 k, .int .i64 x, .int .i64 y, .int .i64 0]) (by simp [results, Tryz.results116, go_sem]) rfl ?_
      unfold Ret4
      rw [HM.out]
      exact ⟨rfl, HB2.out⟩
  · have HE := Lib.hid (mClash_no h0)
    obtain ⟨z, hz⟩ : ∃ z, wlC l lap = z := ⟨_, rfl⟩
    rw [hz] at h0 HWC HE
    have e1 : (z == 0) = false := beq_eq_false_iff_ne.2 h0
    have e2 : (z != 0) = true := bne_iff_ne.2 h0
    clear hz h0
    go_enter Tryz.func116, Tryz.ntmps116
    go_wp2_with fail
    refine (show Calls _ _ _ _ _ from HWC.out).mono ?_
    rintro e w1 ⟨rfl, hb⟩
    have HB1 := Lib.hid hb
    clear hb
    go_wp2_with fail
    refine bodyPost_ret (v := .tuple #[.int .i64 0, .int .i64 0, .int .i64 0, .int .i64 z]) (by simp [results, Tryz.results116, go_sem]) rfl ?_
    unfold Ret4
    rw [HE.out]
    exact ⟨rfl, HB1.out⟩
end Go.Proofs.YtfgopboddkhckaaGreatDoor
