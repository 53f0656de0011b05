/-
  Orders, eighth part: StockNeeded.
-/
import Derived.Test.YtohdkniajacohaaOrders7
import Derived.IntWalk
namespace Go.Proofs.Ytohdkniajacohaa
open Go.ChangeShapes Go.WideShapes Go.ChangeAt Go.RowKit Go.Sort
set_option linter.unusedVariables false

def codeS (l : List OD) (stock each : Int) : Int := bif vOrders l then (bif inB stock 0 10000000 && inB each 0 100000 then 0 else 2) else 1
set_option maxHeartbeats 800000 in
theorem spec_stock (v : Value) (l : List OD) (stock each : Int) (hsm : SmODS l) (w : World) (ha : RODS w v l) :
    Calls Try.prog 37 #[v, .int .i64 stock, .int .i64 each] w (Ret (.int .i64 (codeS l stock each)) w) := by
  have HV0 := Lib.hid (spec_okO _ l hsm w ha)
  clear hsm ha
  go_enter Try.func37, Try.ntmps37
  go_wp2_with fail
  refine (show Calls _ _ _ _ _ from HV0.out).mono ?_
  rintro e w1 ⟨rfl, hb⟩
  have HW1 := Lib.hid hb; clear hb HV0
  cases hv : vOrders l with
  | false =>
    have HM : Hid (codeS l stock each = 1) := Lib.hid (by unfold codeS; rw [hv]; rfl)
    clear hv
    go_wp2_with fail
    go_ret
    exact ⟨ret_int HM.out.symm, HW1.out⟩
  | true =>
    have HV := Lib.hid hv; clear hv
    go_wp2_with fail
    refine (spec_in stock 0 10000000 _).mono ?_
    rintro e w2 ⟨rfl, rfl⟩
    cases hi : inB stock 0 10000000 with
    | false =>
      have HM : Hid (codeS l stock each = 2) := Lib.hid (by unfold codeS; rw [HV.out, hi]; rfl)
      clear hi
      go_wp2_with fail
      go_ret
      exact ⟨ret_int HM.out.symm, HW1.out⟩
    | true =>
      have HI := Lib.hid hi; clear hi
      go_wp2_with fail
      refine (spec_in each 0 100000 _).mono ?_
      rintro e w2 ⟨rfl, rfl⟩
      cases hj : inB each 0 100000 with
      | false =>
        have HM : Hid (codeS l stock each = 2) := Lib.hid (by unfold codeS; rw [HV.out, HI.out, hj]; rfl)
        clear hj
        go_wp2_with fail
        go_ret
        exact ⟨ret_int HM.out.symm, HW1.out⟩
      | true =>
        have HM : Hid (codeS l stock each = 0) := Lib.hid (by unfold codeS; rw [HV.out, HI.out, hj]; rfl)
        clear hj
        go_wp2_with fail
        go_ret
        exact ⟨ret_int HM.out.symm, HW1.out⟩

theorem wI_nat (l : List OD) (d : Int) (k : Nat) : wI l d (k : Int) = if (gd l k).due ≤ d then opn (gd l k) else 0 := by unfold wI dI oI; rw [Int.toNat_natCast]
theorem dU_bd {l : List OD} (h : vOrders l = true) (d : Int) : ∀ k, k ≤ l.length → 0 ≤ dU l d k ∧ dU l d k ≤ 1000000 * (k : Int) := by
  intro k
  induction k with
  | zero => intro _; simp [dU]
  | succ k ih =>
    intro hk
    have h1 := ih (by omega)
    have h2 := opn_bd h (k := k) (by omega)
    rw [dU_succ, wI_nat]
    split <;> omega
theorem pS_bd {l : List OD} (h : vOrders l = true) : ∀ k, k ≤ (dueTo l l.length).length → 0 ≤ pS l (dueTo l l.length) k ∧ pS l (dueTo l l.length) k ≤ 1000000 * (k : Int) := by
  intro k
  induction k with
  | zero => intro _; simp [pS]
  | succ k ih =>
    intro hk
    have h1 := ih (by omega)
    obtain ⟨j, hj1, hj2, _⟩ := due_at (l := l) (m := l.length) (k := k) (by omega)
    have h2 := opn_bd h hj2
    rw [pS_succ]
    unfold oI
    rw [hj1, Int.toNat_natCast]
    omega
theorem mul_bd {a b : Int} (h1 : 0 ≤ a) (h2 : a ≤ 100000) (h3 : 0 ≤ b) (h4 : b ≤ 10000) : 0 ≤ a * b ∧ a * b ≤ 1000000000 := by
  refine ⟨Int.mul_nonneg h1 h3, ?_⟩
  exact Int.le_trans (Int.mul_le_mul_of_nonneg_left h4 h1) (by omega)
def mStockNeeded (l : List OD) (each : Int) : Int × Int := bif vOrders l then (bif inB each 0 100000 then (fmax (needI l each) l.length, 0) else (0, 2)) else (0, 1)

set_option maxHeartbeats 1600000 in
theorem impl_dueUntil (v : Value) (l : List OD) (d : Int) (hv : vOrders l = true) (w : World) (ha : RODS w v l) :
    Calls Try.prog 40 #[v, .int .i64 d] w (Ret (.int .i64 (dU l d l.length)) w) := by
  obtain ⟨A, c, rfl, hc1, hc2⟩ := ha.open_
  have HA := Lib.hid ha; clear ha
  have HV := Lib.hid hv
  have hlen := v_len hv
  clear hv
  unfold maxLen at hc2
  go_enter Try.func40, Try.ntmps40
  go_wp2_with fail
  go_loopw [5, 10] (fun s i wr => ∃ k : Nat, k ≤ l.length ∧ i = .int .i64 k ∧ s = .int .i64 (dU l d k) ∧ Below w.heap.size w wr) (fun _ i _ => l.length - (intOf i).toNat)
  case atStart => exact ⟨0, Nat.zero_le _, rfl, rfl, ext_refl _⟩
  case round =>
    obtain ⟨k, hk, rfl, rfl, hbw⟩ := hrel
    have HAw := Lib.hid (HA.out.ext hbw)
    have HW := Lib.hid hbw; clear hbw
    by_cases hlt : k < l.length
    · obtain ⟨ad, rfl, _, hc⟩ := HAw.out.at hlt
      obtain ⟨h0, h1, h2, h3, h4⟩ := hc k hlt
      have HC := Lib.hid (fun w => impl_open (.agg #[.int .i64 (gd l k).id, .string (gd l k).cu, .int .i64 (gd l k).br, .int .i64 (gd l k).due, .int .i64 (gd l k).sent]) (gd l k) w rfl (v_one HV.out hlt))
      clear hc
      have hs := dU_bd HV.out d k hk
      have ho := opn_bd HV.out hlt
      have HS := Lib.hid (dU_succ l d k)
      have HWI := Lib.hid (wI_nat l d k)
      have HO : Hid ((gd l k).br - (gd l k).sent = opn (gd l k)) := Lib.hid rfl
      rw [HO.out] at HC
      have e1 : (0:Int) ≤ k := by omega
      have e2 : (k:Int) < l.length := by omega
      by_cases hd : (gd l k).due ≤ d
      · have e3 : decide ((gd l k).due ≤ d) = true := decide_eq_true hd
        have HN : Hid (dU l d (k + 1) = dU l d k + opn (gd l k)) := Lib.hid (by rw [HS.out, HWI.out, if_pos hd])
        go_wp2_with fail
        refine (show Calls _ _ _ _ _ from HC.out _).mono ?_
        rintro e w2 ⟨rfl, hb⟩
        have HW2 := Lib.hid (ext_trans HW.out (ext_trans (ext_alloc1 _ _) hb)); clear hb h0 h1 h2 h3 h4
        go_wp2_with fail
        go_roundw
        case rel => exact ⟨k + 1, by omega, by go_num, by rw [HN.out], HW2.out⟩
        case measure => simp [intOf]; omega
      · have e3 : decide ((gd l k).due ≤ d) = false := decide_eq_false hd
        have HN : Hid (dU l d (k + 1) = dU l d k) := Lib.hid (by rw [HS.out, HWI.out, if_neg hd, Int.add_zero])
        go_wp2_with fail
        go_roundw
        case rel => exact ⟨k + 1, by omega, by go_num, by rw [HN.out], ext_trans HW.out (ext_alloc1 _ _)⟩
        case measure => simp [intOf]; omega
    · have hkn : k = l.length := by omega
      subst hkn
      go_wp2_with fail
      go_ret
      exact ⟨rfl, HW.out⟩

end Go.Proofs.Ytohdkniajacohaa
