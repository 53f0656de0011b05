/-
  The struct Course and slices of it: marks.
-/
import Derived.Test.YtpoalklakhegoaaDoorCo
import Derived.Test.YtpoalklakhegoaaDoorMtx
import Derived.Test.YtpoalklakhegoaaDoorRegrown
import Derived.Test.YtpoalklakhegoaaDoorRow
import Derived.Deep.RegionHeld3
import Derived.Deep.DrawnRows
namespace Go.Proofs.YtpoalklakhegoaaDoor
open Go.ChangeShapes Go.WideShapes Go.ChangeAt Go.RowKit Go.Sort Go.Joins
set_option linter.unusedVariables false

/-- Marked structs. -/
def mkCO1 (j : Int) (i : Nat) : CO := ⟨mtx (j + 2 * (i : Int)), mtx (j + 2 * (i : Int) + 1)⟩
def mkCO (j : Int) (n : Nat) : List CO := (List.range n).map (mkCO1 j)
theorem mkCO_len (j : Int) (n : Nat) : (mkCO j n).length = n := by simp [mkCO]
theorem mkCO_gd {j : Int} {n i : Nat} (h : i < n) : gd (mkCO j n) i = mkCO1 j i := by rw [gd_eq (by rw [mkCO_len]; exact h)]; simp [mkCO]
set_option maxHeartbeats 3200000 in
theorem mark_COS (base : Nat) (v : Value) (l : List CO) (j : Int) (hj0 : 0 ≤ j) (hj : j ≤ 1099511627776) (w : World) (hsm : SmCOS l) (hO : OCOS w base v l) :
    Calls Tryd.prog 21 #[v, .int .i64 j] w fun e w' => e = .returned (.int .i64 (j + 2 * (l.length : Int))) ∧ OCOS w' base v (mkCO j l.length) ∧ Chg (BCOS v) w w' := by
  unfold SmCOS at hsm
  have hO' := hO
  obtain ⟨h1, h2⟩ := hO'
  rcases h2 with ⟨rfl, h0⟩ | ⟨g, cap, cur, rfl, hg, hh, hn, hm, hs, ht⟩
  · clear hO h1
    have hx : l = [] := List.eq_nil_of_length_eq_zero h0
    subst hx
    go_enter Tryd.func21, Tryd.ntmps21
    go_wp2_with fail
    refine wp_loop_rounds 1 ?_
    rw [rounds_succ]
    go_wp2_with fail
    go_ret
    exact ⟨ret_int (by simp), World.ownsRow_nil _ _ _ _, Chg.of_below (ext_refl _) _⟩
  · clear h1 hh hn hs ht cur
    have HO0 := Lib.hid (ORow.of hO); clear hO
    have hlen : l.length ≤ 1048576 := by omega
    clear hsm
    obtain ⟨n, hnn⟩ : ∃ n, l.length = n := ⟨_, rfl⟩
    rw [hnn] at HO0 hlen
    rw [hnn]
    unfold OCOS
    rw [mkCO_len]
    have HN := Lib.hid hnn; clear hnn
    unfold maxLen at hm
    go_enter Tryd.func21, Tryd.ntmps21
    go_wp2_with fail
    go_loopw [5, 1] (fun i q wr => ∃ (k : Nat) (F : Nat → Value), k ≤ n ∧ i = .int .i64 k ∧ q = .int .i64 (j + 2 * (k : Int)) ∧ Hid (ORow wr base 50 2 (.slice (some ⟨g, 0, none⟩) n cap) n F) ∧ Hid (∀ x, x < k * 2 → F x = cf cCO 2 (mkCO j n) x) ∧ Hid (Chg (fun b => b = g) w wr)) (fun i _ _ => n - (intOf i).toNat)
    case atStart => exact ⟨0, _, Nat.zero_le _, rfl, by simp, HO0.out, (fun x hx => by omega), Chg.of_below (ext_refl _) _⟩
    case round =>
      obtain ⟨k, F, hk, rfl, rfl, HO, HF, HC⟩ := hrel
      by_cases hlt : k < n
      · have e1 : (0:Int) ≤ k := by omega
        have e2 : (k:Int) < n := by omega
        go_wp2_with fail
        refine (mark_text _ (by omega) (by omega) _).mono ?_
        rintro e w2 ⟨rfl, hb⟩
        have HO1 := Lib.hid (HO.out.ext hb)
        have HC1 := Lib.hid (HC.out.trans (Chg.of_below hb _))
        clear hb
        have hc0 := HO1.out.cell (j := k * 2) (by omega)
        have hf0 := HO1.out.frozen (k * 2)
        go_wp2_with fail
        refine (mark_text _ (by omega) (by omega) _).mono ?_
        rintro e w3 ⟨rfl, hb⟩
        have HO2 := Lib.hid ((HO1.out.set (k * 2) (.string (mtx (j + 2 * (k : Int))))).ext hb)
        have HC2 := Lib.hid ((HC1.out.trans (Chg.setCell (S := fun b => b = g) _ (p := ⟨g, k * 2, none⟩) rfl (.string (mtx (j + 2 * (k : Int)))))).trans (Chg.of_below hb _))
        clear hb hc0 hf0
        have hc1 := HO2.out.cell (j := k * 2 + 1) (by omega)
        have hf1 := HO2.out.frozen (k * 2 + 1)
        go_wp2_with fail
        have HOL := Lib.hid (HO2.out.set (k * 2 + 1) (.string (mtx (j + 2 * (k : Int) + 1))))
        have HCL := Lib.hid (HC2.out.trans (Chg.setCell (S := fun b => b = g) _ (p := ⟨g, k * 2 + 1, none⟩) rfl (.string (mtx (j + 2 * (k : Int) + 1)))))
        go_roundw
        case rel =>
          refine ⟨k + 1, _, by omega, by go_num, by rw [show (j + 2 * (k : Int) + 1 + 1) = j + 2 * ((k + 1 : Nat) : Int) from by omega], HOL.out, (fun x hx => ?_), HCL.out⟩
          rcases (show x < k * 2 ∨ x = k * 2 ∨ x = k * 2 + 1 by omega) with h | rfl | rfl
          · have hg := HF.out x h
            rw [if_neg (by omega)]; rw [if_neg (by omega)]
            exact hg
          · rw [if_neg (by omega)]; rw [if_pos rfl, ← Nat.add_zero (k * 2), cf_at cCO 2 (by omega), mkCO_gd hlt]; rfl
          · rw [if_pos rfl, cf_at cCO 2 (by omega), mkCO_gd hlt]; rfl
        case measure => simp [intOf]; omega
      · have hkn : k = n := by omega
        subst hkn
        go_wp2_with fail
        go_ret
        refine ⟨rfl, ?_, HC.out.mono fun b hb => by rw [hb]; rfl⟩
        have h9 := HO.out
        have h8 := ORow.flat (l := mkCO j k) cCO_len (by omega) (by rw [mkCO_len]; exact h9) (by rw [mkCO_len]; exact fun x hx => HF.out x hx)
        rwa [mkCO_len] at h8
set_option maxHeartbeats 3200000 in
theorem held_COS (v : Value) (l : List CO) (j : Int) (hj0 : 0 ≤ j) (hj : j ≤ 1099511627776) (w : World) (hsm : SmCOS l) (ha : RCOS w v (mkCO j l.length)) :
    Calls Tryd.prog 23 #[v, .int .i64 j] w (Ret (.int .i64 (j + 2 * (l.length : Int))) w) := by
  unfold SmCOS at hsm
  have hlen : l.length ≤ 1048576 := by omega
  clear hsm
  obtain ⟨n, hn⟩ : ∃ n, l.length = n := ⟨_, rfl⟩
  rw [hn] at ha hlen
  rw [hn]
  clear hn
  obtain ⟨A, c, rfl, hc1, hc2⟩ := ha.open_
  have HA := Lib.hid ha; clear ha
  rw [mkCO_len] at hc1
  rw [mkCO_len]
  unfold maxLen at hc2
  go_enter Tryd.func23, Tryd.ntmps23
  go_wp2_with fail
  go_loopw [5, 1] (fun i q wr => ∃ k : Nat, k ≤ n ∧ i = .int .i64 k ∧ q = .int .i64 (j + 2 * (k : Int)) ∧ Below w.heap.size w wr) (fun i _ _ => n - (intOf i).toNat)
  case atStart => exact ⟨0, Nat.zero_le _, rfl, by simp, ext_refl _⟩
  case round =>
    obtain ⟨k, hk, rfl, rfl, hbw⟩ := hrel
    have HAw := Lib.hid (HA.out.ext hbw)
    have HW := Lib.hid hbw; clear hbw
    by_cases hlt : k < n
    · have hA := HAw.out
      unfold RCOS at hA
      rw [mkCO_len] at hA
      obtain ⟨ad, rfl, _, hc⟩ := RCOS.at (l := mkCO j n) (n := n) (by unfold RCOS; rw [mkCO_len]; exact hA) (show k < (mkCO j n).length by rw [mkCO_len]; exact hlt)
      have hp := hc k (by rw [mkCO_len]; exact hlt)
      rw [mkCO_gd hlt] at hp
      clear hA hc
      have h0 : ∀ d os, (grow (redrawn wr d) os).cell? (ad.add (k * 2)) = some (.string (mtx (j + 2 * (k : Int)))) := fun d os => cell_regrown hp.1 d os
      have h1 : wr.cell? (⟨(ad.add (k * 2)).block, (ad.add (k * 2)).off + 1, none⟩) = some (.string (mtx (j + 2 * (k : Int) + 1))) := hp.2
      clear hp
      have e1 : (0:Int) ≤ k := by omega
      have e2 : (k:Int) < n := by omega
      go_wp2_with fail
      refine wp_region_quiet_below (by kernel_rfl) (by kernel_rfl) ?_
      repeat (go_big_quiet_step ((go_at_call 22; exact regrown_r (mark_text _ (by omega) (by omega) _))))
      refine wpQuiet_nil ?_
      intro w' hw'
      obtain ⟨p, rfl⟩ := hw'
      have HWL := Lib.hid (ext_trans HW.out (below_regrown wr p.d p.os))
      have h2 := cell_keep h1 (below_regrown wr p.d p.os)
      replace h1 : ∀ d os, (grow (redrawn (grow (redrawn wr p.d) p.os) d) os).cell? (⟨(ad.add (k * 2)).block, (ad.add (k * 2)).off + 1, none⟩) = some (.string (mtx (j + 2 * (k : Int) + 1))) := fun d os => cell_regrown h2 d os
      clear h0 h2
      generalize grow (redrawn wr p.d) p.os = w2 at *
      go_wp2_with fail
      refine wp_region_quiet_below (by kernel_rfl) (by kernel_rfl) ?_
      repeat (go_big_quiet_step ((go_at_call 22; exact regrown_r (mark_text _ (by omega) (by omega) _))))
      refine wpQuiet_nil ?_
      intro w' hw'
      obtain ⟨p2, rfl⟩ := hw'
      have HWM := Lib.hid (ext_trans HWL.out (below_regrown w2 p2.d p2.os))
      clear h1
      generalize grow (redrawn w2 p2.d) p2.os = w3 at *
      go_wp2_with fail
      go_roundw
      case rel => exact ⟨k + 1, by omega, by go_num, by rw [show (j + 2 * (k : Int) + 1 + 1) = j + 2 * ((k + 1 : Nat) : Int) from by omega], HWM.out⟩
      case measure => simp [intOf]; omega
    · have hkn : k = n := by omega
      subst hkn
      go_wp2_with fail
      go_ret
      exact ⟨rfl, HW.out⟩

end Go.Proofs.YtpoalklakhegoaaDoor
