/-
  Orders, third part: valid lists.
-/
import Derived.Test.YtbggggaoljpfnaaGreatDoorOrders2
namespace Go.Proofs.YtbggggaoljpfnaaGreatDoor
open Go.ChangeShapes Go.WideShapes Go.ChangeAt Go.RowKit Go.Sort
set_option linter.unusedVariables false

theorem okAt_zero (l : List OD) : okAt l 0 = oneO (gd l 0) := by unfold okAt; rw [show ((0 : Nat) == 0) = true from rfl, Bool.true_or, Bool.and_true]
theorem okAt_succ (l : List OD) (m : Nat) : okAt l (m + 1) = (oneO (gd l (m + 1)) && decide ((gd l m).id < (gd l (m + 1)).id)) := by
  unfold okAt; rw [show ((m + 1 : Nat) == 0) = false from rfl, Bool.false_or, Nat.add_sub_cancel]
theorem okAt_one {l : List OD} {k : Nat} (h : oneO (gd l k) = false) : okAt l k = false := by unfold okAt; rw [h]; rfl
theorem vOrders_no {l : List OD} {k : Nat} (hk : k < l.length) (h : okAt l k = false) : vOrders l = false := by unfold vOrders; rw [all_range_no hk h]; rfl

set_option maxHeartbeats 1600000 in
theorem spec_okO (v : Value) (l : List OD) (hsm : SmODS l) (w : World) (ha : RODS w v l) :
    Calls Tryz.prog 41 #[v] w (Ret (.bool (vOrders l)) w) := by
  obtain ⟨A, c, rfl, hc1, hc2⟩ := ha.open_
  have HA := Lib.hid ha; clear ha
  have HS := Lib.hid hsm
  unfold SmODS at hsm
  have hlen : l.length ≤ 1048576 := by omega
  clear hsm
  unfold maxLen at hc2
  go_enter Tryz.func41, Tryz.ntmps41
  go_wp2_with fail
  go_loopw [3] (fun i wr => ∃ k : Nat, k ≤ l.length ∧ i = .int .i64 k ∧ Hid ((List.range k).all (okAt l) = true) ∧ Below w.heap.size w wr) (fun i _ => l.length - (intOf i).toNat)
  case atStart => exact ⟨0, Nat.zero_le _, rfl, rfl, ext_refl _⟩
  case round =>
    obtain ⟨k, hk, rfl, HT, hbw⟩ := hrel
    have HAw := Lib.hid (HA.out.ext hbw)
    have HW := Lib.hid hbw; clear hbw
    by_cases hlt : k < l.length
    · obtain ⟨ad, rfl, _, hc⟩ := HAw.out.at hlt
      have HPk := hc k hlt
      have hid : ∀ d os, (grow (redrawn wr d) os).cell? (ad.add (k * 5)) = some (.int .i64 (gd l k).id) := fun d os => cell_regrown HPk.1 d os
      have HC : Hid (∀ d os, Calls Tryz.prog 42 #[.pointer (some (ad.add (k * 5)))] (grow (redrawn wr d) os) (Ret (.bool (oneO (gd l k))) (grow (redrawn wr d) os))) := Lib.hid fun d os => spec_one _ _ (by have := HS.out.one hlt; unfold SmOD at this; unfold LenOD maxLen; omega) _ (HPk.ext (below_regrown _ _ _))
      clear HPk
      have e1 : (0:Int) ≤ k := by omega
      have e2 : (k:Int) < l.length := by omega
      cases ho : oneO (gd l k) with
      | false =>
        have HX : Hid (vOrders l = false) := Lib.hid (vOrders_no hlt (okAt_one ho))
        rw [ho] at HC
        clear ho hc
        go_wp2_with fail
        refine wp_region_quiet_below (by kernel_rfl) (by kernel_rfl) ?_
        repeat (go_big_quiet_step ((go_at_call 42; exact regrown_r (HC.out _ _))))
        refine wpQuiet_nil ?_
        intro w' hw'
        obtain ⟨p, rfl⟩ := hw'
        clear hid
        go_wp2_with fail
        go_ret
        exact ⟨ret_bool HX.out.symm, ext_trans HW.out (below_regrown _ _ _)⟩
      | true =>
        rw [ho] at HC
        rcases Nat.eq_zero_or_pos k with h0 | h0
        · have HX : Hid (okAt l k = true) := Lib.hid (by rw [h0, okAt_zero, ← h0]; exact ho)
          have e3 : decide (0 < k) = false := decide_eq_false (by omega)
          clear ho hc h0
          go_wp2_with fail
          refine wp_region_quiet_below (by kernel_rfl) (by kernel_rfl) ?_
          repeat (go_big_quiet_step ((go_at_call 42; exact regrown_r (HC.out _ _))))
          refine wpQuiet_nil ?_
          intro w' hw'
          obtain ⟨p, rfl⟩ := hw'
          clear hid
          go_wp2_with fail
          go_roundw
          case rel => exact ⟨k + 1, by omega, by go_num, by unfold Hid; rw [all_range_succ, HT.out, HX.out]; rfl, ext_trans HW.out (below_regrown _ _ _)⟩
          case measure => simp [intOf]; omega
        · obtain ⟨m, hm⟩ : ∃ m, k = m + 1 := ⟨k - 1, by omega⟩
          have HPm := hc m (by omega)
          have him : ∀ d os, (grow (redrawn wr d) os).cell? (ad.add (m * 5)) = some (.int .i64 (gd l m).id) := fun d os => cell_regrown HPm.1 d os
          have e3 : decide (0 < k) = true := decide_eq_true (by omega)
          have e4 : (k:Int) - 1 = m := by omega
          have e5 : (m:Int) < l.length := by omega
          have e6 : (0:Int) ≤ m := by omega
          have HK := Lib.hid hm
          clear HPm hc h0 hm
          by_cases hlt2 : (gd l m).id < (gd l k).id
          · have HX : Hid (okAt l k = true) := Lib.hid (by rw [HK.out, okAt_succ, ← HK.out, ho, decide_eq_true hlt2]; rfl)
            have e7 : decide ((gd l k).id ≤ (gd l m).id) = false := by rw [decide_eq_false_iff_not]; omega
            clear ho
            go_wp2_with fail
            refine wp_region_quiet_below (by kernel_rfl) (by kernel_rfl) ?_
            repeat (go_big_quiet_step ((go_at_call 42; exact regrown_r (HC.out _ _))))
            refine wpQuiet_nil ?_
            intro w' hw'
            obtain ⟨p, rfl⟩ := hw'
            clear hid
            clear him
            go_wp2_with fail
            go_roundw
            case rel => exact ⟨k + 1, by omega, by go_num, by unfold Hid; rw [all_range_succ, HT.out, HX.out]; rfl, ext_trans HW.out (below_regrown _ _ _)⟩
            case measure => simp [intOf]; omega
          · have HX : Hid (vOrders l = false) := Lib.hid (vOrders_no hlt (by rw [HK.out, okAt_succ, ← HK.out, decide_eq_false hlt2, Bool.and_false]))
            have e7 : decide ((gd l k).id ≤ (gd l m).id) = true := by rw [decide_eq_true_eq]; omega
            clear ho
            go_wp2_with fail
            refine wp_region_quiet_below (by kernel_rfl) (by kernel_rfl) ?_
            repeat (go_big_quiet_step ((go_at_call 42; exact regrown_r (HC.out _ _))))
            refine wpQuiet_nil ?_
            intro w' hw'
            obtain ⟨p, rfl⟩ := hw'
            clear hid
            clear him
            go_wp2_with fail
            go_ret
            exact ⟨ret_bool HX.out.symm, ext_trans HW.out (below_regrown _ _ _)⟩
    · have hkn : k = l.length := by omega
      subst hkn
      have e2 : ¬ (l.length:Int) < l.length := by omega
      have HX : Hid (vOrders l = decide (l.length ≤ 30)) := Lib.hid (by unfold vOrders; rw [HT.out]; rfl)
      go_wp2_with fail
      go_ret
      exact ⟨ret_bool (by rw [HX.out]; exact decide_eq_decide.2 (by omega)), HW.out⟩
theorem spec_ValidOrders (v : Value) (l : List OD) (w : World) (ha : RODS w v l) (hsm : SmODS l) :
    Calls Tryz.prog 28 #[v] w (Ret (.bool (vOrders l)) w) := by
  have HC := Lib.hid (spec_okO v l hsm w ha)
  clear ha hsm
  go_enter Tryz.func28, Tryz.ntmps28
  go_wp2_with fail
  refine (show Calls _ _ _ _ _ from HC.out).mono ?_
  rintro e w' ⟨rfl, hb⟩
  go_wp2_with fail
  go_ret
  exact ⟨rfl, hb⟩

end Go.Proofs.YtbggggaoljpfnaaGreatDoor
