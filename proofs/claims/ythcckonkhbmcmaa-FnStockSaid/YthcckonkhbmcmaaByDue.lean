/-
  Orders: OrdersByDue.
-/
import Derived.Test.YthcckonkhbmcmaaSrtE
import Derived.Test.YthcckonkhbmcmaaOrders8
namespace Go.Proofs.Ythcckonkhbmcmaa
open Go.ChangeShapes Go.WideShapes Go.ChangeAt Go.RowKit Go.Sort
set_option linter.unusedVariables false
set_option maxRecDepth 100000

def mOrdersByDue (l : List OD) : List Int × Int := bif vOrders l then (dueTo l l.length, 0) else ([], 1)
theorem spec_OrdersByDue (v : Value) (l : List OD) (w : World) (ha : RODS w v l) (hsm : SmODS l) :
    Calls Try.prog 9 #[v] w (RetI (mOrdersByDue l).1 (mOrdersByDue l).2 w) := by
  have HV0 := Lib.hid (spec_okO _ l hsm w ha)
  clear hsm
  obtain ⟨A, c, rfl, hc1, hc2⟩ := ha.open_
  have HA := Lib.hid ha; clear ha
  go_enter Try.func9, Try.ntmps9
  go_wp2_with fail
  refine (show Calls _ _ _ _ _ from HV0.out).mono ?_
  rintro e w1 ⟨rfl, hb⟩
  have HW1 := Lib.hid hb; clear hb HV0
  cases hv : vOrders l with
  | false =>
    have HM : Hid (mOrdersByDue l = ([], 1)) := Lib.hid (by unfold mOrdersByDue; rw [hv]; rfl)
    clear hv
    go_wp2_with fail
    go_ret2
    rw [HM.out]
    exact ⟨_, rfl, oi_nil _ _, by simp [SmI], HW1.out⟩
  | true =>
    have HM : Hid (mOrdersByDue l = (dueTo l l.length, 0)) := Lib.hid (by unfold mOrdersByDue; rw [hv]; rfl)
    have HC := Lib.hid (spec_due _ l hv w1 (HA.out.ext HW1.out))
    have hlen := v_len hv
    clear hv
    go_wp2_with fail
    refine (show Calls _ _ _ _ _ from HC.out).mono ?_
    rintro e w2 ⟨v', rfl, hO, hb⟩
    have HO := Lib.hid hO
    have HW2 := Lib.hid (ext_trans HW1.out hb)
    clear hO hb HC
    go_wp2_with fail
    go_ret2
    rw [HM.out]
    exact ⟨_, rfl, HO.out.mono HW1.out.size, (show (dueTo l l.length).length ≤ 1048576 by have := due_len l l.length; omega), HW2.out⟩
theorem impl_OrdersByDue (v : Value) (l : List OD) (w : World) (ha : RODS w v l) (hsm : SmODS l) :
    Calls Try.prog 8 #[v] w (RetI (mOrdersByDue l).1 (mOrdersByDue l).2 w) := by
  have HV0 := Lib.hid (impl_ValidOrders _ l w ha hsm)
  clear hsm
  obtain ⟨A, c, rfl, hc1, hc2⟩ := ha.open_
  have HA := Lib.hid ha; clear ha
  go_enter Try.func8, Try.ntmps8
  go_wp2_with fail
  refine (show Calls _ _ _ _ _ from HV0.out).mono ?_
  rintro e w1 ⟨rfl, hb⟩
  have HW1 := Lib.hid hb; clear hb HV0
  cases hv : vOrders l with
  | false =>
    have HM : Hid (mOrdersByDue l = ([], 1)) := Lib.hid (by unfold mOrdersByDue; rw [hv]; rfl)
    clear hv
    go_wp2_with fail
    go_ret2
    rw [HM.out]
    exact ⟨_, rfl, oi_nil _ _, by simp [SmI], HW1.out⟩
  | true =>
    have HM : Hid (mOrdersByDue l = (dueTo l l.length, 0)) := Lib.hid (by unfold mOrdersByDue; rw [hv]; rfl)
    have HC := Lib.hid (impl_due _ l hv w1 (HA.out.ext HW1.out))
    have hlen := v_len hv
    clear hv
    go_wp2_with fail
    refine (show Calls _ _ _ _ _ from HC.out).mono ?_
    rintro e w2 ⟨v', rfl, hO, hb⟩
    have HO := Lib.hid hO
    have HW2 := Lib.hid (ext_trans HW1.out hb)
    clear hO hb HC
    go_wp2_with fail
    go_ret2
    rw [HM.out]
    exact ⟨_, rfl, HO.out.mono HW1.out.size, (show (dueTo l l.length).length ≤ 1048576 by have := due_len l l.length; omega), HW2.out⟩
end Go.Proofs.Ythcckonkhbmcmaa
