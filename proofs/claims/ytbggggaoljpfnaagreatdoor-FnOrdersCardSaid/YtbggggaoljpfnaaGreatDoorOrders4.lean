/-
  Orders, fourth part: the program's ValidOrders.
-/
import Derived.Test.YtbggggaoljpfnaaGreatDoorOrders3
namespace Go.Proofs.YtbggggaoljpfnaaGreatDoor
open Go.ChangeShapes Go.WideShapes Go.ChangeAt Go.RowKit Go.Sort
set_option linter.unusedVariables false

set_option maxHeartbeats 1600000 in
theorem impl_ValidOrders (v : Value) (l : List OD) (w : World) (ha : RODS w v l) (hsm : SmODS l) :
    Calls Tryz.prog 27 #[v] w (Ret (.bool (vOrders l)) w) := by
  obtain ⟨A, c, rfl, hc1, hc2⟩ := ha.open_
  have HA := Lib.hid ha; clear ha
  have HS := Lib.hid hsm
  unfold SmODS at hsm
  have hlen : l.length ≤ 1048576 := by omega
  clear hsm
  unfold maxLen at hc2
  go_enter Tryz.func27, Tryz.ntmps27
  go_wp2_with fail
  go_loopw [7] (fun i wr => ∃ k : Nat, k ≤ l.length ∧ i = .int .i64 k ∧ Hid ((List.range k).all (okAt l) = true) ∧ Below w.heap.size w wr) (fun i _ => l.length - (intOf i).toNat)
  case atStart => exact ⟨0, Nat.zero_le _, rfl, rfl, ext_refl _⟩
  case round =>
    obtain ⟨k, hk, rfl, HT, hbw⟩ := hrel
    have HAw := Lib.hid (HA.out.ext hbw)
    have HW := Lib.hid hbw; clear hbw
    by_cases hlt : k < l.length
    · obtain ⟨ad, rfl, hbd, hc⟩ := HAw.out.at hlt
      obtain ⟨h0, h1, h2, h3, h4⟩ := hc k hlt
      have HC := Lib.hid (fun w => impl_one (.agg #[.int .i64 (gd l k).id, .string (gd l k).cu, .int .i64 (gd l k).br, .int .i64 (gd l k).due, .int .i64 (gd l k).sent]) (gd l k) w (by have := HS.out.one hlt; unfold SmOD at this; unfold LenOD maxLen; omega) rfl)
      have e1 : (0:Int) ≤ k := by omega
      have e2 : (k:Int) < l.length := by omega
      go_wp2_with fail
      have HB1 := Lib.hid (ext_trans HW.out (ext_alloc1 wr (.cells #[.int .i64 (gd l k).id, .string (gd l k).cu, .int .i64 (gd l k).br, .int .i64 (gd l k).due, .int .i64 (gd l k).sent] 26)))
      have HA1 := Lib.hid (HAw.out.ext (ext_alloc1 wr (.cells #[.int .i64 (gd l k).id, .string (gd l k).cu, .int .i64 (gd l k).br, .int .i64 (gd l k).due, .int .i64 (gd l k).sent] 26)))
      have hbox := pOD_box wr (gd l k) 26
      clear h0 h1 h2 h3 h4 hc HAw HW hbd
      generalize wr.alloc (.cells #[.int .i64 (gd l k).id, .string (gd l k).cu, .int .i64 (gd l k).br, .int .i64 (gd l k).due, .int .i64 (gd l k).sent] 26) = w2 at *
      obtain ⟨g0, g1, g2, g3, g4⟩ := hbox
      have h0 : ∀ d os, (grow (redrawn w2 d) os).cell? ⟨wr.heap.size, 0, none⟩ = some (.int .i64 (gd l k).id) := fun d os => cell_regrown g0 d os
      have h1 : ∀ d os, (grow (redrawn w2 d) os).cell? ⟨wr.heap.size, 1, none⟩ = some (.string (gd l k).cu) := fun d os => cell_regrown g1 d os
      have h2 : ∀ d os, (grow (redrawn w2 d) os).cell? ⟨wr.heap.size, 2, none⟩ = some (.int .i64 (gd l k).br) := fun d os => cell_regrown g2 d os
      have h3 : ∀ d os, (grow (redrawn w2 d) os).cell? ⟨wr.heap.size, 3, none⟩ = some (.int .i64 (gd l k).due) := fun d os => cell_regrown g3 d os
      have h4 : ∀ d os, (grow (redrawn w2 d) os).cell? ⟨wr.heap.size, 4, none⟩ = some (.int .i64 (gd l k).sent) := fun d os => cell_regrown g4 d os
      obtain ⟨ad2, had, _, hc⟩ := HA1.out.at hlt
      injection had with had
      subst had
      clear g0 g1 g2 g3 g4
      cases ho : oneO (gd l k) with
      | false =>
        have HX : Hid (vOrders l = false) := Lib.hid (vOrders_no hlt (okAt_one ho))
        rw [ho] at HC
        clear ho hc
        refine wp_region_quiet_below (by kernel_rfl) (by kernel_rfl) ?_
        repeat (go_big_quiet_step ((go_at_call 37; exact regrown_r (HC.out _))))
        refine wpQuiet_nil ?_
        intro w' hw'
        obtain ⟨p, rfl⟩ := hw'
        clear h0 h1 h2 h3 h4
        go_wp2_with fail
        go_ret
        exact ⟨ret_bool HX.out.symm, ext_trans HB1.out (below_regrown _ _ _)⟩
      | true =>
        rw [ho] at HC
        rcases Nat.eq_zero_or_pos k with hk0 | hk0
        · have HX : Hid (okAt l k = true) := Lib.hid (by rw [hk0, okAt_zero, ← hk0]; exact ho)
          have e3 : decide (0 < k) = false := decide_eq_false (by omega)
          clear ho hc hk0
          refine wp_region_quiet_below (by kernel_rfl) (by kernel_rfl) ?_
          repeat (go_big_quiet_step ((go_at_call 37; exact regrown_r (HC.out _))))
          refine wpQuiet_nil ?_
          intro w' hw'
          obtain ⟨p, rfl⟩ := hw'
          clear h0 h1 h2 h3 h4
          go_wp2_with fail
          go_roundw
          case rel => exact ⟨k + 1, by omega, by go_num, by unfold Hid; rw [all_range_succ, HT.out, HX.out]; rfl, ext_trans HB1.out (below_regrown _ _ _)⟩
          case measure => simp [intOf]; omega
        · obtain ⟨m, hm⟩ : ∃ m, k = m + 1 := ⟨k - 1, by omega⟩
          have HPm := hc m (by omega)
          have him : ∀ d os, (grow (redrawn w2 d) os).cell? (ad.add (m * 5)) = some (.int .i64 (gd l m).id) := fun d os => cell_regrown HPm.1 d os
          have e3 : decide (0 < k) = true := decide_eq_true (by omega)
          have e4 : (k:Int) - 1 = m := by omega
          have e5 : (m:Int) < l.length := by omega
          have e6 : (0:Int) ≤ m := by omega
          have HK := Lib.hid hm
          clear HPm hc hk0 hm
          by_cases hlt2 : (gd l m).id < (gd l k).id
          · have HX : Hid (okAt l k = true) := Lib.hid (by rw [HK.out, okAt_succ, ← HK.out, ho, decide_eq_true hlt2]; rfl)
            have e7 : decide ((gd l k).id ≤ (gd l m).id) = false := by rw [decide_eq_false_iff_not]; omega
            clear ho
            refine wp_region_quiet_below (by kernel_rfl) (by kernel_rfl) ?_
            repeat (go_big_quiet_step ((go_at_call 37; exact regrown_r (HC.out _))))
            refine wpQuiet_nil ?_
            intro w' hw'
            obtain ⟨p, rfl⟩ := hw'
            clear h0 h1 h2 h3 h4
            clear him
            go_wp2_with fail
            go_roundw
            case rel => exact ⟨k + 1, by omega, by go_num, by unfold Hid; rw [all_range_succ, HT.out, HX.out]; rfl, ext_trans HB1.out (below_regrown _ _ _)⟩
            case measure => simp [intOf]; omega
          · have HX : Hid (vOrders l = false) := Lib.hid (vOrders_no hlt (by rw [HK.out, okAt_succ, ← HK.out, decide_eq_false hlt2, Bool.and_false]))
            have e7 : decide ((gd l k).id ≤ (gd l m).id) = true := by rw [decide_eq_true_eq]; omega
            clear ho
            refine wp_region_quiet_below (by kernel_rfl) (by kernel_rfl) ?_
            repeat (go_big_quiet_step ((go_at_call 37; exact regrown_r (HC.out _))))
            refine wpQuiet_nil ?_
            intro w' hw'
            obtain ⟨p, rfl⟩ := hw'
            clear h0 h1 h2 h3 h4
            clear him
            go_wp2_with fail
            go_ret
            exact ⟨ret_bool HX.out.symm, ext_trans HB1.out (below_regrown _ _ _)⟩
    · have hkn : k = l.length := by omega
      subst hkn
      have e2 : ¬ (l.length:Int) < l.length := by omega
      have HX : Hid (vOrders l = decide (l.length ≤ 30)) := Lib.hid (by unfold vOrders; rw [HT.out]; rfl)
      go_wp2_with fail
      go_ret
      exact ⟨ret_bool (by rw [HX.out]; exact decide_eq_decide.2 (by omega)), HW.out⟩

end Go.Proofs.YtbggggaoljpfnaaGreatDoor
