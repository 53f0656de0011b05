/-
  The struct Order and slices of it: marks.
-/
import Derived.Test.YtohdkniajacohaaOrd
import Derived.Test.YtohdkniajacohaaMtx
import Derived.Test.YtohdkniajacohaaRegrown
import Derived.Test.YtohdkniajacohaaRow
import Derived.Deep.RegionHeld3
import Derived.Deep.DrawnRows
namespace Go.Proofs.Ytohdkniajacohaa
open Go.ChangeShapes Go.WideShapes Go.ChangeAt Go.RowKit Go.Sort Go.Joins
set_option linter.unusedVariables false

/-- Marked structs. -/
def mkOD1 (j : Int) (i : Nat) : OD := ⟨j + 5 * (i : Int), mtx (j + 5 * (i : Int) + 1), j + 5 * (i : Int) + 1 + 1, j + 5 * (i : Int) + 1 + 1 + 1, j + 5 * (i : Int) + 1 + 1 + 1 + 1⟩
def mkOD (j : Int) (n : Nat) : List OD := (List.range n).map (mkOD1 j)
theorem mkOD_len (j : Int) (n : Nat) : (mkOD j n).length = n := by simp [mkOD]
theorem mkOD_gd {j : Int} {n i : Nat} (h : i < n) : gd (mkOD j n) i = mkOD1 j i := by rw [gd_eq (by rw [mkOD_len]; exact h)]; simp [mkOD]
set_option maxHeartbeats 3200000 in
theorem mark_ODS (base : Nat) (v : Value) (l : List OD) (j : Int) (hj0 : 0 ≤ j) (hj : j ≤ 1099511627776) (w : World) (hsm : SmODS l) (hO : OODS w base v l) :
    Calls Try.prog 13 #[v, .int .i64 j] w fun e w' => e = .returned (.int .i64 (j + 5 * (l.length : Int))) ∧ OODS w' base v (mkOD j l.length) ∧ Chg (BODS v) w w' := by
  unfold SmODS at hsm
  have hO' := hO
  obtain ⟨h1, h2⟩ := hO'
  rcases h2 with ⟨rfl, h0⟩ | ⟨g, cap, cur, rfl, hg, hh, hn, hm, hs, ht⟩
  · clear hO h1
    have hx : l = [] := List.eq_nil_of_length_eq_zero h0
    subst hx
    go_enter Try.func13, Try.ntmps13
    go_wp2_with fail
    refine wp_loop_rounds 1 ?_
    rw [rounds_succ]
    go_wp2_with fail
    go_ret
    exact ⟨ret_int (by simp), World.ownsRow_nil _ _ _ _, Chg.of_below (ext_refl _) _⟩
  · clear h1 hh hn hs ht cur
    have HO0 := Lib.hid (ORow.of hO); clear hO
    have hlen : l.length ≤ 1048576 := by omega
    clear hsm
    obtain ⟨n, hnn⟩ : ∃ n, l.length = n := ⟨_, rfl⟩
    rw [hnn] at HO0 hlen
    rw [hnn]
    unfold OODS
    rw [mkOD_len]
    have HN := Lib.hid hnn; clear hnn
    unfold maxLen at hm
    go_enter Try.func13, Try.ntmps13
    go_wp2_with fail
    go_loopw [5, 1] (fun i q wr => ∃ (k : Nat) (F : Nat → Value), k ≤ n ∧ i = .int .i64 k ∧ q = .int .i64 (j + 5 * (k : Int)) ∧ Hid (ORow wr base 39 5 (.slice (some ⟨g, 0, none⟩) n cap) n F) ∧ Hid (∀ x, x < k * 5 → F x = cf cOD 5 (mkOD j n) x) ∧ Hid (Chg (fun b => b = g) w wr)) (fun i _ _ => n - (intOf i).toNat)
    case atStart => exact ⟨0, _, Nat.zero_le _, rfl, by simp, HO0.out, (fun x hx => by omega), Chg.of_below (ext_refl _) _⟩
    case round =>
      obtain ⟨k, F, hk, rfl, rfl, HO, HF, HC⟩ := hrel
      by_cases hlt : k < n
      · have e1 : (0:Int) ≤ k := by omega
        have e2 : (k:Int) < n := by omega
        have hc0 := HO.out.cell (j := k * 5) (by omega)
        have hf0 := HO.out.frozen (k * 5)
        go_wp2_with fail
        refine (mark_text _ (by omega) (by omega) _).mono ?_
        rintro e w2 ⟨rfl, hb⟩
        have HO1 := Lib.hid ((HO.out.set (k * 5) (.int .i64 (j + 5 * (k : Int)))).ext hb)
        have HC1 := Lib.hid (((HC.out.trans (Chg.setCell (S := fun b => b = g) _ (p := ⟨g, k * 5, none⟩) rfl (.int .i64 (j + 5 * (k : Int)))))).trans (Chg.of_below hb _))
        clear hb hc0 hf0
        have hc1 := HO1.out.cell (j := k * 5 + 1) (by omega)
        have hf1 := HO1.out.frozen (k * 5 + 1)
        have hc2 := HO1.out.cell (j := k * 5 + 2) (by omega)
        have hf2 := HO1.out.frozen (k * 5 + 2)
        have hc3 := HO1.out.cell (j := k * 5 + 3) (by omega)
        have hf3 := HO1.out.frozen (k * 5 + 3)
        have hc4 := HO1.out.cell (j := k * 5 + 4) (by omega)
        have hf4 := HO1.out.frozen (k * 5 + 4)
        go_wp2_with fail
        have HOL := Lib.hid (((((HO1.out.set (k * 5 + 1) (.string (mtx (j + 5 * (k : Int) + 1)))).set (k * 5 + 2) (.int .i64 (j + 5 * (k : Int) + 1 + 1))).set (k * 5 + 3) (.int .i64 (j + 5 * (k : Int) + 1 + 1 + 1))).set (k * 5 + 4) (.int .i64 (j + 5 * (k : Int) + 1 + 1 + 1 + 1))))
        have HCL := Lib.hid (((((HC1.out.trans (Chg.setCell (S := fun b => b = g) _ (p := ⟨g, k * 5 + 1, none⟩) rfl (.string (mtx (j + 5 * (k : Int) + 1))))).trans (Chg.setCell (S := fun b => b = g) _ (p := ⟨g, k * 5 + 2, none⟩) rfl (.int .i64 (j + 5 * (k : Int) + 1 + 1)))).trans (Chg.setCell (S := fun b => b = g) _ (p := ⟨g, k * 5 + 3, none⟩) rfl (.int .i64 (j + 5 * (k : Int) + 1 + 1 + 1)))).trans (Chg.setCell (S := fun b => b = g) _ (p := ⟨g, k * 5 + 4, none⟩) rfl (.int .i64 (j + 5 * (k : Int) + 1 + 1 + 1 + 1)))))
        go_roundw
        case rel =>
          refine ⟨k + 1, _, by omega, by go_num, by rw [show (j + 5 * (k : Int) + 1 + 1 + 1 + 1 + 1) = j + 5 * ((k + 1 : Nat) : Int) from by omega], HOL.out, (fun x hx => ?_), HCL.out⟩
          rcases (show x < k * 5 ∨ x = k * 5 ∨ x = k * 5 + 1 ∨ x = k * 5 + 2 ∨ x = k * 5 + 3 ∨ x = k * 5 + 4 by omega) with h | rfl | rfl | rfl | rfl | rfl
          · have hg := HF.out x h
            rw [if_neg (by omega)]; rw [if_neg (by omega)]; rw [if_neg (by omega)]; rw [if_neg (by omega)]; rw [if_neg (by omega)]
            exact hg
          · rw [if_neg (by omega)]; rw [if_neg (by omega)]; rw [if_neg (by omega)]; rw [if_neg (by omega)]; rw [if_pos rfl, ← Nat.add_zero (k * 5), cf_at cOD 5 (by omega), mkOD_gd hlt]; rfl
          · rw [if_neg (by omega)]; rw [if_neg (by omega)]; rw [if_neg (by omega)]; rw [if_pos rfl, cf_at cOD 5 (by omega), mkOD_gd hlt]; rfl
          · rw [if_neg (by omega)]; rw [if_neg (by omega)]; rw [if_pos rfl, cf_at cOD 5 (by omega), mkOD_gd hlt]; rfl
          · rw [if_neg (by omega)]; rw [if_pos rfl, cf_at cOD 5 (by omega), mkOD_gd hlt]; rfl
          · rw [if_pos rfl, cf_at cOD 5 (by omega), mkOD_gd hlt]; rfl
        case measure => simp [intOf]; omega
      · have hkn : k = n := by omega
        subst hkn
        go_wp2_with fail
        go_ret
        refine ⟨rfl, ?_, HC.out.mono fun b hb => by rw [hb]; rfl⟩
        have h9 := HO.out
        have h8 := ORow.flat (l := mkOD j k) cOD_len (by omega) (by rw [mkOD_len]; exact h9) (by rw [mkOD_len]; exact fun x hx => HF.out x hx)
        rwa [mkOD_len] at h8
set_option maxHeartbeats 3200000 in
theorem held_ODS (v : Value) (l : List OD) (j : Int) (hj0 : 0 ≤ j) (hj : j ≤ 1099511627776) (w : World) (hsm : SmODS l) (ha : RODS w v (mkOD j l.length)) :
    Calls Try.prog 20 #[v, .int .i64 j] w (Ret (.int .i64 (j + 5 * (l.length : Int))) w) := by
  unfold SmODS at hsm
  have hlen : l.length ≤ 1048576 := by omega
  clear hsm
  obtain ⟨n, hn⟩ : ∃ n, l.length = n := ⟨_, rfl⟩
  rw [hn] at ha hlen
  rw [hn]
  clear hn
  obtain ⟨A, c, rfl, hc1, hc2⟩ := ha.open_
  have HA := Lib.hid ha; clear ha
  rw [mkOD_len] at hc1
  rw [mkOD_len]
  unfold maxLen at hc2
  go_enter Try.func20, Try.ntmps20
  go_wp2_with fail
  go_loopw [5, 1] (fun i q wr => ∃ k : Nat, k ≤ n ∧ i = .int .i64 k ∧ q = .int .i64 (j + 5 * (k : Int)) ∧ Below w.heap.size w wr) (fun i _ _ => n - (intOf i).toNat)
  case atStart => exact ⟨0, Nat.zero_le _, rfl, by simp, ext_refl _⟩
  case round =>
    obtain ⟨k, hk, rfl, rfl, hbw⟩ := hrel
    have HAw := Lib.hid (HA.out.ext hbw)
    have HW := Lib.hid hbw; clear hbw
    by_cases hlt : k < n
    · have hA := HAw.out
      unfold RODS at hA
      rw [mkOD_len] at hA
      obtain ⟨ad, rfl, _, hc⟩ := RODS.at (l := mkOD j n) (n := n) (by unfold RODS; rw [mkOD_len]; exact hA) (show k < (mkOD j n).length by rw [mkOD_len]; exact hlt)
      have hp := hc k (by rw [mkOD_len]; exact hlt)
      rw [mkOD_gd hlt] at hp
      clear hA hc
      have h0 : wr.cell? (ad.add (k * 5)) = some (.int .i64 (j + 5 * (k : Int))) := hp.1
      have h1 : ∀ d os, (grow (redrawn wr d) os).cell? (⟨(ad.add (k * 5)).block, (ad.add (k * 5)).off + 1, none⟩) = some (.string (mtx (j + 5 * (k : Int) + 1))) := fun d os => cell_regrown hp.2.1 d os
      have h2 : ∀ d os, (grow (redrawn wr d) os).cell? (⟨(ad.add (k * 5)).block, (ad.add (k * 5)).off + 2, none⟩) = some (.int .i64 (j + 5 * (k : Int) + 1 + 1)) := fun d os => cell_regrown hp.2.2.1 d os
      have h3 : ∀ d os, (grow (redrawn wr d) os).cell? (⟨(ad.add (k * 5)).block, (ad.add (k * 5)).off + 3, none⟩) = some (.int .i64 (j + 5 * (k : Int) + 1 + 1 + 1)) := fun d os => cell_regrown hp.2.2.2.1 d os
      have h4 : ∀ d os, (grow (redrawn wr d) os).cell? (⟨(ad.add (k * 5)).block, (ad.add (k * 5)).off + 4, none⟩) = some (.int .i64 (j + 5 * (k : Int) + 1 + 1 + 1 + 1)) := fun d os => cell_regrown hp.2.2.2.2 d os
      clear hp
      have e1 : (0:Int) ≤ k := by omega
      have e2 : (k:Int) < n := by omega
      go_wp2_with fail
      refine wp_region_quiet_below (by kernel_rfl) (by kernel_rfl) ?_
      repeat (go_big_quiet_step ((go_at_call 30; exact regrown_r (mark_text _ (by omega) (by omega) _))))
      refine wpQuiet_nil ?_
      intro w' hw'
      obtain ⟨p, rfl⟩ := hw'
      have HWL := Lib.hid (ext_trans HW.out (below_regrown wr p.d p.os))
      replace h2 := h2 p.d p.os
      replace h3 := h3 p.d p.os
      replace h4 := h4 p.d p.os
      clear h1
      generalize grow (redrawn wr p.d) p.os = w2 at *
      go_wp2_with fail
      go_roundw
      case rel => exact ⟨k + 1, by omega, by go_num, by rw [show (j + 5 * (k : Int) + 1 + 1 + 1 + 1 + 1) = j + 5 * ((k + 1 : Nat) : Int) from by omega], HWL.out⟩
      case measure => simp [intOf]; omega
    · have hkn : k = n := by omega
      subst hkn
      go_wp2_with fail
      go_ret
      exact ⟨rfl, HW.out⟩

end Go.Proofs.Ytohdkniajacohaa
