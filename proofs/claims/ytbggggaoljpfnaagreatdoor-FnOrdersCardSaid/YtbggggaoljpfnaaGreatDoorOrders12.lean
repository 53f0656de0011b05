/-
  Orders, twelfth part: the program's CancelOrder.
-/
import Derived.Test.YtbggggaoljpfnaaGreatDoorOrders11
namespace Go.Proofs.YtbggggaoljpfnaaGreatDoor
open Go.ChangeShapes Go.WideShapes Go.ChangeAt Go.RowKit Go.Sort
set_option linter.unusedVariables false

set_option maxHeartbeats 1600000 in
theorem impl_CancelOrder (v : Value) (l : List OD) (id : Int) (w : World) (ha : RODS w v l) (hsm : SmODS l) :
    Calls Tryz.prog 12 #[v, .int .i64 id] w (RetO (mCancelOrder l id).1 (mCancelOrder l id).2 w) := by
  obtain ⟨A, c, rfl, hc1, hc2⟩ := ha.open_
  have HA := Lib.hid ha; clear ha
  have HV0 := Lib.hid (impl_ValidOrders _ l w HA.out hsm)
  have HS := Lib.hid hsm
  clear hsm
  unfold maxLen at hc2
  go_enter Tryz.func12, Tryz.ntmps12
  go_wp2_with fail
  refine (show Calls _ _ _ _ _ from HV0.out).mono ?_
  rintro e w1 ⟨rfl, hb⟩
  have HW1 := Lib.hid hb; clear hb HV0
  cases hv : vOrders l with
  | false =>
    have HM : Hid (mCancelOrder l id = ([], 1)) := Lib.hid (by unfold mCancelOrder; rw [hv]; rfl)
    clear hv
    go_wp2_with fail
    go_ret2
    rw [HM.out]
    exact ⟨_, rfl, ood_nil _ _, by simp [SmODS, totOD], HW1.out⟩
  | true =>
    have HV := Lib.hid hv
    have hlen := v_len hv
    clear hv
    have HPL := Lib.hid (impl_place _ l id HV.out _ (HA.out.ext HW1.out))
    go_wp2_with fail
    refine (show Calls _ _ _ _ _ from HPL.out).mono ?_
    rintro e w2 ⟨rfl, hb⟩
    have HW2 := Lib.hid (ext_trans HW1.out hb)
    clear hb HPL
    cases hk : known l id with
    | false =>
      have HM : Hid (mCancelOrder l id = ([], 3)) := Lib.hid (by unfold mCancelOrder; rw [HV.out, hk]; rfl)
      clear hk
      go_wp2_with fail
      go_ret2
      rw [HM.out]
      exact ⟨_, rfl, ood_nil _ _, by simp [SmODS, totOD], HW2.out⟩
    | true =>
      have hkl : lb l id < l.length := by
        unfold known at hk
        simp only [Bool.and_eq_true, decide_eq_true_eq] at hk
        exact hk.1
      have HK := Lib.hid hk; clear hk
      obtain ⟨k, hkk⟩ : ∃ k, lb l id = k := ⟨_, rfl⟩
      rw [hkk] at hkl
      rw [hkk]
      have HLB := Lib.hid hkk; clear hkk
      have HA2 := Lib.hid (HA.out.ext HW2.out)
      obtain ⟨ad, rfl, _, hc⟩ := HA2.out.at hkl
      obtain ⟨_, _, _, _, h4⟩ := hc k hkl
      clear hc
      have e1 : (0:Int) ≤ k := by omega
      have e2 : (k:Int) < l.length := by omega
      by_cases hq : 0 < (gd l k).sent
      · have HM : Hid (mCancelOrder l id = ([], 6)) := Lib.hid (by unfold mCancelOrder; rw [HV.out, HK.out, HLB.out, decide_eq_true hq]; rfl)
        have e3 : decide (0 < (gd l k).sent) = true := decide_eq_true hq
        clear hq
        go_wp2_with fail
        go_ret2
        rw [HM.out]
        exact ⟨_, rfl, ood_nil _ _, by simp [SmODS, totOD], HW2.out⟩
      · have HM : Hid (mCancelOrder l id = (l.take k ++ l.drop (k + 1), 0)) := Lib.hid (by unfold mCancelOrder; rw [HV.out, HK.out, HLB.out, decide_eq_false hq]; rfl)
        have e3 : decide (0 < (gd l k).sent) = false := decide_eq_false hq
        have HSM := Lib.hid (sm_cut k HS.out)
        have HCL := Lib.hid (od_clone _ l (by omega) _ HA2.out)
        obtain ⟨m, hm⟩ : ∃ m, l.length = m + 1 := ⟨l.length - 1, by omega⟩
        have HMM := Lib.hid hm
        clear hq hm
        go_wp2_with fail
        refine (show Calls _ _ _ _ _ from HCL.out).mono ?_
        rintro e w4 ⟨A4, c4, rfl, hO4, hb⟩
        obtain ⟨g, rfl, hg1, hg2, _⟩ := hO4.blk (by omega)
        have HW4 := Lib.hid (ext_trans HW2.out hb)
        have hm := HMM.out
        rw [hm] at hO4 ⊢
        have HD := Lib.hid (od_delete g m c4 k w.heap.size l hm (by omega) (by omega) w4 (hO4.mono HW2.out.size))
        clear hO4 hb HCL e3 h4 hm
        go_wp2_with fail
        refine (show Calls _ _ _ _ _ from HD.out).mono ?_
        rintro e w5 ⟨rfl, hO5, hg5⟩
        have HO5 := Lib.hid hO5
        have HW5 := Lib.hid (Chg.ext HW4.out hg5 (fun b hb => by rw [hb]; exact Nat.le_trans HW2.out.size hg1))
        clear hO5 hg5 HD
        go_wp2_with fail
        go_ret2
        rw [HM.out]
        exact ⟨_, rfl, HO5.out, HSM.out, HW5.out⟩

end Go.Proofs.YtbggggaoljpfnaaGreatDoor
