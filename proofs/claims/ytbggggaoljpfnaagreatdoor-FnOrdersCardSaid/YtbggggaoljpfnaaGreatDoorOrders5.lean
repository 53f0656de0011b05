/-
  Orders, fifth part: OpenBricks, LateOrders.
-/
import Derived.Test.YtbggggaoljpfnaaGreatDoorOrders4
import Derived.Test.YtbggggaoljpfnaaGreatDoorApp
namespace Go.Proofs.YtbggggaoljpfnaaGreatDoor
open Go.ChangeShapes Go.WideShapes Go.ChangeAt Go.RowKit Go.Sort
set_option linter.unusedVariables false

def opn (o : OD) : Int := o.br - o.sent
theorem v_len {l : List OD} (h : vOrders l = true) : l.length ≤ 30 := by
  unfold vOrders at h
  simp only [Bool.and_eq_true, decide_eq_true_eq] at h
  exact h.2
theorem v_ok {l : List OD} (h : vOrders l = true) {k : Nat} (hk : k < l.length) : okAt l k = true := by
  unfold vOrders at h
  simp only [Bool.and_eq_true] at h
  exact List.all_eq_true.1 h.1 k (by simpa using hk)
theorem v_one {l : List OD} (h : vOrders l = true) {k : Nat} (hk : k < l.length) : oneO (gd l k) = true := by
  have := v_ok h hk
  unfold okAt at this
  simp only [Bool.and_eq_true] at this
  exact this.1
theorem v_asc {l : List OD} (h : vOrders l = true) {k : Nat} (hk : k + 1 < l.length) : (gd l k).id < (gd l (k + 1)).id := by
  have := v_ok h hk
  rw [okAt_succ] at this
  simp only [Bool.and_eq_true, decide_eq_true_eq] at this
  exact this.2
theorem opn_bd {l : List OD} (h : vOrders l = true) {k : Nat} (hk : k < l.length) : 0 ≤ opn (gd l k) ∧ opn (gd l k) ≤ 1000000 ∧ 0 ≤ (gd l k).due ∧ (gd l k).due ≤ 10000 := by
  obtain ⟨_, _, g3, g4, g5⟩ := oneO_iff.1 (v_one h hk)
  unfold opn; omega
/-- The open bricks of the first k orders. -/
def osum (l : List OD) (k : Nat) : Int := ((List.range k).map fun i => opn (gd l i)).sum
theorem osum_succ (l : List OD) (k : Nat) : osum l (k + 1) = osum l k + opn (gd l k) := by simp [osum, List.range_succ]
theorem osum_bd {l : List OD} (h : vOrders l = true) : ∀ k, k ≤ l.length → 0 ≤ osum l k ∧ osum l k ≤ 1000000 * (k : Int) := by
  intro k
  induction k with
  | zero => intro _; simp [osum]
  | succ k ih =>
    intro hk
    have h1 := ih (by omega)
    have h2 := opn_bd h (k := k) (by omega)
    rw [osum_succ]; omega
def mOpenBricks (l : List OD) : Int × Int := bif vOrders l then (osum l l.length, 0) else (0, 1)

set_option maxHeartbeats 1600000 in
theorem impl_OpenBricks (v : Value) (l : List OD) (w : World) (ha : RODS w v l) (hsm : SmODS l) :
    Calls Tryz.prog 30 #[v] w (Ret (.tuple #[.int .i64 (mOpenBricks l).1, .int .i64 (mOpenBricks l).2]) w) := by
  obtain ⟨A, c, rfl, hc1, hc2⟩ := ha.open_
  have HA := Lib.hid ha; clear ha
  have HV0 := Lib.hid (impl_ValidOrders _ l w HA.out hsm)
  clear hsm
  unfold maxLen at hc2
  go_enter Tryz.func30, Tryz.ntmps30
  go_wp2_with fail
  refine (show Calls _ _ _ _ _ from HV0.out).mono ?_
  rintro e w1 ⟨rfl, hb⟩
  have HW1 := Lib.hid hb; clear hb HV0
  cases hv : vOrders l with
  | false =>
    have HM : Hid (mOpenBricks l = (0, 1)) := Lib.hid (by unfold mOpenBricks; rw [hv]; rfl)
    clear hv
    go_wp2_with fail
    go_ret2
    exact ⟨by rw [HM.out]; rfl, HW1.out⟩
  | true =>
    have HM : Hid (mOpenBricks l = (osum l l.length, 0)) := Lib.hid (by unfold mOpenBricks; rw [hv]; rfl)
    have HV := Lib.hid hv
    have hlen := v_len hv
    clear hv
    go_wp2_with fail
    go_loopw [4, 12] (fun s i wr => ∃ k : Nat, k ≤ l.length ∧ i = .int .i64 k ∧ s = .int .i64 (osum l k) ∧ Below w.heap.size w wr) (fun _ i _ => l.length - (intOf i).toNat)
    case atStart => exact ⟨0, Nat.zero_le _, rfl, rfl, HW1.out⟩
    case round =>
      obtain ⟨k, hk, rfl, rfl, hbw⟩ := hrel
      have HAw := Lib.hid (HA.out.ext hbw)
      have HW := Lib.hid hbw; clear hbw
      by_cases hlt : k < l.length
      · obtain ⟨ad, rfl, _, hc⟩ := HAw.out.at hlt
        obtain ⟨h0, h1, h2, h3, h4⟩ := hc k hlt
        have HC := Lib.hid (fun w => impl_open (.agg #[.int .i64 (gd l k).id, .string (gd l k).cu, .int .i64 (gd l k).br, .int .i64 (gd l k).due, .int .i64 (gd l k).sent]) (gd l k) w rfl (v_one HV.out hlt))
        clear hc
        have hs := osum_bd HV.out k hk
        have ho := opn_bd HV.out hlt
        have HS := Lib.hid (osum_succ l k)
        have HO : Hid ((gd l k).br - (gd l k).sent = opn (gd l k)) := Lib.hid rfl
        rw [HO.out] at HC
        have e1 : (0:Int) ≤ k := by omega
        have e2 : (k:Int) < l.length := by omega
        go_wp2_with fail
        refine (show Calls _ _ _ _ _ from HC.out _).mono ?_
        rintro e w2 ⟨rfl, hb⟩
        have HW2 := Lib.hid (ext_trans HW.out (ext_trans (ext_alloc1 _ _) hb)); clear hb h0 h1 h2 h3 h4
        go_wp2_with fail
        go_roundw
        case rel => exact ⟨k + 1, by omega, by go_num, by rw [HS.out], HW2.out⟩
        case measure => simp [intOf]; omega
      · have hkn : k = l.length := by omega
        subst hkn
        go_wp2_with fail
        go_ret2
        exact ⟨by rw [HM.out]; rfl, HW.out⟩

end Go.Proofs.YtbggggaoljpfnaaGreatDoor
