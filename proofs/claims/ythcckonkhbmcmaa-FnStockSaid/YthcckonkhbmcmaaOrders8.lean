/-
  Orders, eighth part: StockNeeded.
-/
import Derived.Test.YthcckonkhbmcmaaOrders7
import Derived.IntWalk
namespace Go.Proofs.Ythcckonkhbmcmaa
open Go.ChangeShapes Go.WideShapes Go.ChangeAt Go.RowKit Go.Sort
set_option linter.unusedVariables false

def codeS (l : List OD) (stock each : Int) : Int := bif vOrders l then (bif inB stock 0 10000000 && inB each 0 100000 then 0 else 2) else 1
set_option maxHeartbeats 800000 in
theorem spec_stock (v : Value) (l : List OD) (stock each : Int) (hsm : SmODS l) (w : World) (ha : RODS w v l) :
    Calls Try.prog 28 #[v, .int .i64 stock, .int .i64 each] w (Ret (.int .i64 (codeS l stock each)) w) := by
  have HV0 := Lib.hid (spec_okO _ l hsm w ha)
  clear hsm ha
  go_enter Try.func28, Try.ntmps28
  go_wp2_with fail
  refine (show Calls _ _ _ _ _ from HV0.out).mono ?_
  rintro e w1 ⟨rfl, hb⟩
  have HW1 := Lib.hid hb; clear hb HV0
  cases hv : vOrders l with
  | false =>
    have HM : Hid (codeS l stock each = 1) := Lib.hid (by unfold codeS; rw [hv]; rfl)
    clear hv
    go_wp2_with fail
    go_ret
    exact ⟨ret_int HM.out.symm, HW1.out⟩
  | true =>
    have HV := Lib.hid hv; clear hv
    go_wp2_with fail
    refine (spec_in stock 0 10000000 _).mono ?_
    rintro e w2 ⟨rfl, rfl⟩
    cases hi : inB stock 0 10000000 with
    | false =>
      have HM : Hid (codeS l stock each = 2) := Lib.hid (by unfold codeS; rw [HV.out, hi]; rfl)
      clear hi
      go_wp2_with fail
      go_ret
      exact ⟨ret_int HM.out.symm, HW1.out⟩
    | true =>
      have HI := Lib.hid hi; clear hi
      go_wp2_with fail
      refine (spec_in each 0 100000 _).mono ?_
      rintro e w2 ⟨rfl, rfl⟩
      cases hj : inB each 0 100000 with
      | false =>
        have HM : Hid (codeS l stock each = 2) := Lib.hid (by unfold codeS; rw [HV.out, HI.out, hj]; rfl)
        clear hj
        go_wp2_with fail
        go_ret
        exact ⟨ret_int HM.out.symm, HW1.out⟩
      | true =>
        have HM : Hid (codeS l stock each = 0) := Lib.hid (by unfold codeS; rw [HV.out, HI.out, hj]; rfl)
        clear hj
        go_wp2_with fail
        go_ret
        exact ⟨ret_int HM.out.symm, HW1.out⟩

theorem wI_nat (l : List OD) (d : Int) (k : Nat) : wI l d (k : Int) = if (gd l k).due ≤ d then opn (gd l k) else 0 := by unfold wI dI oI; rw [Int.toNat_natCast]
theorem dU_bd {l : List OD} (h : vOrders l = true) (d : Int) : ∀ k, k ≤ l.length → 0 ≤ dU l d k ∧ dU l d k ≤ 1000000 * (k : Int) := by
  intro k
  induction k with
  | zero => intro _; simp [dU]
  | succ k ih =>
    intro hk
    have h1 := ih (by omega)
    have h2 := opn_bd h (k := k) (by omega)
    rw [dU_succ, wI_nat]
    split <;> omega
theorem pS_bd {l : List OD} (h : vOrders l = true) : ∀ k, k ≤ (dueTo l l.length).length → 0 ≤ pS l (dueTo l l.length) k ∧ pS l (dueTo l l.length) k ≤ 1000000 * (k : Int) := by
  intro k
  induction k with
  | zero => intro _; simp [pS]
  | succ k ih =>
    intro hk
    have h1 := ih (by omega)
    obtain ⟨j, hj1, hj2, _⟩ := due_at (l := l) (m := l.length) (k := k) (by omega)
    have h2 := opn_bd h hj2
    rw [pS_succ]
    unfold oI
    rw [hj1, Int.toNat_natCast]
    omega
theorem mul_bd {a b : Int} (h1 : 0 ≤ a) (h2 : a ≤ 100000) (h3 : 0 ≤ b) (h4 : b ≤ 10000) : 0 ≤ a * b ∧ a * b ≤ 1000000000 := by
  refine ⟨Int.mul_nonneg h1 h3, ?_⟩
  exact Int.le_trans (Int.mul_le_mul_of_nonneg_left h4 h1) (by omega)
def mStockNeeded (l : List OD) (each : Int) : Int × Int := bif vOrders l then (bif inB each 0 100000 then (fmax (needI l each) l.length, 0) else (0, 2)) else (0, 1)

set_option maxHeartbeats 1600000 in
theorem impl_dueUntil (v : Value) (l : List OD) (d : Int) (hv : vOrders l = true) (w : World) (ha : RODS w v l) :
    Calls Try.prog 34 #[v, .int .i64 d] w (Ret (.int .i64 (dU l d l.length)) w) := by
  obtain ⟨A, c, rfl, hc1, hc2⟩ := ha.open_
  have HA := Lib.hid ha; clear ha
  have HV := Lib.hid hv
  have hlen := v_len hv
  clear hv
  unfold maxLen at hc2
  go_enter Try.func34, Try.ntmps34
  go_wp2_with fail
  go_loopw [5, 10] (fun s i wr => ∃ k : Nat, k ≤ l.length ∧ i = .int .i64 k ∧ s = .int .i64 (dU l d k) ∧ Below w.heap.size w wr) (fun _ i _ => l.length - (intOf i).toNat)
  case atStart => exact ⟨0, Nat.zero_le _, rfl, rfl, ext_refl _⟩
  case round =>
    obtain ⟨k, hk, rfl, rfl, hbw⟩ := hrel
    have HAw := Lib.hid (HA.out.ext hbw)
    have HW := Lib.hid hbw; clear hbw
    by_cases hlt : k < l.length
    · obtain ⟨ad, rfl, _, hc⟩ := HAw.out.at hlt
      obtain ⟨h0, h1, h2, h3, h4⟩ := hc k hlt
      have HC := Lib.hid (fun w => impl_open (.agg #[.int .i64 (gd l k).id, .string (gd l k).cu, .int .i64 (gd l k).br, .int .i64 (gd l k).due, .int .i64 (gd l k).sent]) (gd l k) w rfl (v_one HV.out hlt))
      clear hc
      have hs := dU_bd HV.out d k hk
      have ho := opn_bd HV.out hlt
      have HS := Lib.hid (dU_succ l d k)
      have HWI := Lib.hid (wI_nat l d k)
      have HO : Hid ((gd l k).br - (gd l k).sent = opn (gd l k)) := Lib.hid rfl
      rw [HO.out] at HC
      have e1 : (0:Int) ≤ k := by omega
      have e2 : (k:Int) < l.length := by omega
      by_cases hd : (gd l k).due ≤ d
      · have e3 : decide ((gd l k).due ≤ d) = true := decide_eq_true hd
        have HN : Hid (dU l d (k + 1) = dU l d k + opn (gd l k)) := Lib.hid (by rw [HS.out, HWI.out, if_pos hd])
        go_wp2_with fail
        refine (show Calls _ _ _ _ _ from HC.out _).mono ?_
        rintro e w2 ⟨rfl, hb⟩
        have HW2 := Lib.hid (ext_trans HW.out (ext_trans (ext_alloc1 _ _) hb)); clear hb h0 h1 h2 h3 h4
        go_wp2_with fail
        go_roundw
        case rel => exact ⟨k + 1, by omega, by go_num, by rw [HN.out], HW2.out⟩
        case measure => simp [intOf]; omega
      · have e3 : decide ((gd l k).due ≤ d) = false := decide_eq_false hd
        have HN : Hid (dU l d (k + 1) = dU l d k) := Lib.hid (by rw [HS.out, HWI.out, if_neg hd, Int.add_zero])
        go_wp2_with fail
        go_roundw
        case rel => exact ⟨k + 1, by omega, by go_num, by rw [HN.out], ext_trans HW.out (ext_alloc1 _ _)⟩
        case measure => simp [intOf]; omega
    · have hkn : k = l.length := by omega
      subst hkn
      go_wp2_with fail
      go_ret
      exact ⟨rfl, HW.out⟩

set_option maxHeartbeats 1600000 in
theorem spec_StockNeeded (v : Value) (l : List OD) (each : Int) (w : World) (ha : RODS w v l) (hsm : SmODS l) :
    Calls Try.prog 12 #[v, .int .i64 each] w (Ret (.tuple #[.int .i64 (mStockNeeded l each).1, .int .i64 (mStockNeeded l each).2]) w) := by
  obtain ⟨A, c, rfl, hc1, hc2⟩ := ha.open_
  have HA := Lib.hid ha; clear ha
  have HV0 := Lib.hid (spec_stock _ l 0 each hsm w HA.out)
  clear hsm
  unfold maxLen at hc2
  go_enter Try.func12, Try.ntmps12
  go_wp2_with fail
  refine (show Calls _ _ _ _ _ from HV0.out).mono ?_
  rintro e w1 ⟨rfl, hb⟩
  have HW1 := Lib.hid hb; clear hb HV0
  cases hv : vOrders l with
  | false =>
    have HM : Hid (mStockNeeded l each = (0, 1)) := Lib.hid (by unfold mStockNeeded; rw [hv]; rfl)
    rw [show codeS l 0 each = 1 from by unfold codeS; rw [hv]; rfl]
    clear hv
    go_wp2_with fail
    go_ret2
    exact ⟨by rw [HM.out]; rfl, HW1.out⟩
  | true =>
    cases hj : inB each 0 100000 with
    | false =>
      have HM : Hid (mStockNeeded l each = (0, 2)) := Lib.hid (by unfold mStockNeeded; rw [hv, hj]; rfl)
      rw [show codeS l 0 each = 2 from by unfold codeS; rw [hv, hj]; rfl]
      clear hv hj
      go_wp2_with fail
      go_ret2
      exact ⟨by rw [HM.out]; rfl, HW1.out⟩
    | true =>
      have hj2 := inB_iff.1 hj
      have HM : Hid (mStockNeeded l each = (fmax (needS l each) (dueTo l l.length).length, 0)) := Lib.hid (by unfold mStockNeeded; rw [hv, hj, need_eq hv hj2.1]; rfl)
      rw [show codeS l 0 each = 0 from by unfold codeS; rw [hv, hj]; rfl]
      have HV := Lib.hid hv
      have hlen := v_len hv
      clear hv hj
      have HD := Lib.hid (spec_due (.slice A l.length c) l HV.out w1 (HA.out.ext HW1.out))
      go_wp2_with fail
      refine (show Calls _ _ _ _ _ from HD.out).mono ?_
      rintro e w2 ⟨v2, rfl, hO, hb⟩
      have hql := due_len l l.length
      have HSB := Lib.hid (fun k => pS_bd HV.out k)
      have HDA := Lib.hid (fun k => due_at (l := l) (m := l.length) (k := k))
      obtain ⟨q, hq⟩ : ∃ q, dueTo l l.length = q := ⟨_, rfl⟩
      rw [hq] at hO hql HM HSB HDA
      have HW2 := Lib.hid (ext_trans HW1.out hb)
      have HA2 := Lib.hid (HA.out.ext HW2.out)
      obtain ⟨B, d, rfl, hd1, hd2, _⟩ := hO.rd.open2
      have HQ := Lib.hid hO.rd
      have HQE := Lib.hid hq
      clear hO hb HD hq
      unfold maxLen at hd2
      go_wp2_with fail
      go_loopw [7, 8, 10] (fun m s i wr => ∃ k : Nat, k ≤ q.length ∧ i = .int .i64 k ∧ s = .int .i64 (pS l q k) ∧ m = .int .i64 (fmax (needS l each) k) ∧ Below w2.heap.size w2 wr) (fun _ _ i _ => q.length - (intOf i).toNat)
      case atStart => exact ⟨0, Nat.zero_le _, rfl, rfl, rfl, ext_refl _⟩
      case round =>
        obtain ⟨k, hk, rfl, rfl, rfl, hbw⟩ := hrel
        have HAw := Lib.hid (HA2.out.ext hbw)
        have HQw := Lib.hid (HQ.out.ext hbw)
        have HW := Lib.hid hbw; clear hbw
        by_cases hlt : k < q.length
        · obtain ⟨j, hj1, hj3, _⟩ := HDA.out k hlt
          obtain ⟨bd, rfl, _, hcb⟩ := HQw.out.at2 hlt
          have hcq := hcb k hlt
          rw [hj1] at hcq
          obtain ⟨ad, rfl, _, hc⟩ := HAw.out.at hj3
          have HC := Lib.hid (spec_open _ _ _ (hc j hj3) (v_one HV.out hj3))
          have HPJ := Lib.hid (hc j hj3)
          clear hc hcb
          have hs := HSB.out k hk
          have ho := opn_bd HV.out hj3
          have hm := mul_bd hj2.1 hj2.2 ho.2.2.1 ho.2.2.2
          have HS := Lib.hid (pS_succ l q k)
          have hoI : oI l (gi q k) = opn (gd l j) := by unfold oI; rw [hj1, Int.toNat_natCast]
          have HN : Hid (needS l each k = pS l q (k + 1) - each * (gd l j).due) := Lib.hid (by unfold needS dI; rw [HQE.out, hj1, Int.toNat_natCast])
          have HF : Hid (fmax (needS l each) (k + 1) = max (fmax (needS l each) k) (needS l each k)) := Lib.hid rfl
          have HOP : Hid ((gd l j).br - (gd l j).sent = opn (gd l j)) := Lib.hid rfl
          rw [HOP.out] at HC
          have HO1 := Lib.hid hoI
          clear hoI hj1
          have e1 : (0:Int) ≤ k := by omega
          have e2 : (k:Int) < q.length := by omega
          have e3 : (0:Int) ≤ j := by omega
          have e4 : (j:Int) < l.length := by omega
          have e5 : IntKind.i64.wrap (each * (gd l j).due) = each * (gd l j).due := IntWalk.i64_in _ (by omega)
          go_wp2_with fail
          refine (show Calls _ _ _ _ _ from HC.out).mono ?_
          rintro e w3 ⟨rfl, hb⟩
          have HW3 := Lib.hid (ext_trans HW.out hb)
          obtain ⟨_, _, _, g3, _⟩ := HPJ.out.ext hb
          clear hb hcq
          go_wp2_with fail
          refine (spec_max _ _ _).mono ?_
          rintro e w4 ⟨rfl, rfl⟩
          rw [maxI_eq]
          have HN2 : Hid (fmax (needS l each) (k + 1) = max (fmax (needS l each) k) (pS l q k + opn (gd l j) - each * (gd l j).due)) := Lib.hid (by rw [HF.out, HN.out, HS.out, HO1.out])
          have HS2 : Hid (pS l q (k + 1) = pS l q k + opn (gd l j)) := Lib.hid (by rw [HS.out, HO1.out])
          go_wp2_with fail
          go_roundw
          case rel => exact ⟨k + 1, by omega, by go_num, by rw [HS2.out], by rw [HN2.out], HW3.out⟩
          case measure => simp [intOf]; omega
        · have hkn : k = q.length := by omega
          subst hkn
          go_wp2_with fail
          go_ret2
          exact ⟨by rw [HM.out]; rfl, ext_trans HW2.out HW.out⟩

set_option maxHeartbeats 1600000 in
theorem impl_StockNeeded (v : Value) (l : List OD) (each : Int) (w : World) (ha : RODS w v l) (hsm : SmODS l) :
    Calls Try.prog 11 #[v, .int .i64 each] w (Ret (.tuple #[.int .i64 (mStockNeeded l each).1, .int .i64 (mStockNeeded l each).2]) w) := by
  obtain ⟨A, c, rfl, hc1, hc2⟩ := ha.open_
  have HA := Lib.hid ha; clear ha
  have HV0 := Lib.hid (impl_ValidOrders _ l w HA.out hsm)
  clear hsm
  unfold maxLen at hc2
  go_enter Try.func11, Try.ntmps11
  go_wp2_with fail
  refine (show Calls _ _ _ _ _ from HV0.out).mono ?_
  rintro e w1 ⟨rfl, hb⟩
  have HW1 := Lib.hid hb; clear hb HV0
  cases hv : vOrders l with
  | false =>
    have HM : Hid (mStockNeeded l each = (0, 1)) := Lib.hid (by unfold mStockNeeded; rw [hv]; rfl)
    clear hv
    go_wp2_with fail
    go_ret2
    exact ⟨by rw [HM.out]; rfl, HW1.out⟩
  | true =>
    have HV := Lib.hid hv
    have hlen := v_len hv
    clear hv
    go_wp2_with fail
    refine (impl_within each 0 100000 _).mono ?_
    rintro e w2 ⟨rfl, rfl⟩
    cases hj : inB each 0 100000 with
    | false =>
      have HM : Hid (mStockNeeded l each = (0, 2)) := Lib.hid (by unfold mStockNeeded; rw [HV.out, hj]; rfl)
      clear hj
      go_wp2_with fail
      go_ret2
      exact ⟨by rw [HM.out]; rfl, HW1.out⟩
    | true =>
      have hj2 := inB_iff.1 hj
      have HM : Hid (mStockNeeded l each = (fmax (needI l each) l.length, 0)) := Lib.hid (by unfold mStockNeeded; rw [HV.out, hj]; rfl)
      clear hj
      go_wp2_with fail
      go_loopw [6, 19] (fun m i wr => ∃ k : Nat, k ≤ l.length ∧ i = .int .i64 k ∧ m = .int .i64 (fmax (needI l each) k) ∧ Below w.heap.size w wr) (fun _ i _ => l.length - (intOf i).toNat)
      case atStart => exact ⟨0, Nat.zero_le _, rfl, rfl, HW1.out⟩
      case round =>
        obtain ⟨k, hk, rfl, rfl, hbw⟩ := hrel
        have HAw := Lib.hid (HA.out.ext hbw)
        have HW := Lib.hid hbw; clear hbw
        by_cases hlt : k < l.length
        · obtain ⟨ad, rfl, hbd, hc⟩ := HAw.out.at hlt
          obtain ⟨h0, h1, h2, h3, h4⟩ := hc k hlt
          have ho := opn_bd HV.out hlt
          have hm := mul_bd hj2.1 hj2.2 ho.2.2.1 ho.2.2.2
          have hdu := dU_bd HV.out (gd l k).due l.length (Nat.le_refl _)
          have HF : Hid (fmax (needI l each) (k + 1) = max (fmax (needI l each) k) (dU l (gd l k).due l.length - each * (gd l k).due)) := Lib.hid rfl
          have HC := Lib.hid (fun w h => impl_dueUntil (.slice (some ad) l.length c) l (gd l k).due HV.out w h)
          have e1 : (0:Int) ≤ k := by omega
          have e2 : (k:Int) < l.length := by omega
          have e5 : IntKind.i64.wrap (each * (gd l k).due) = each * (gd l k).due := IntWalk.i64_in _ (by omega)
          go_wp2_with fail
          have HB1 := Lib.hid (ext_trans HW.out (ext_alloc1 wr (.cells #[.int .i64 (gd l k).id, .string (gd l k).cu, .int .i64 (gd l k).br, .int .i64 (gd l k).due, .int .i64 (gd l k).sent] 40)))
          have HA1 := Lib.hid (HAw.out.ext (ext_alloc1 wr (.cells #[.int .i64 (gd l k).id, .string (gd l k).cu, .int .i64 (gd l k).br, .int .i64 (gd l k).due, .int .i64 (gd l k).sent] 40)))
          have hbox := pOD_box wr (gd l k) 40
          clear h0 h1 h2 h3 h4 hc HAw HW hbd
          generalize wr.alloc (.cells #[.int .i64 (gd l k).id, .string (gd l k).cu, .int .i64 (gd l k).br, .int .i64 (gd l k).due, .int .i64 (gd l k).sent] 40) = w2 at *
          obtain ⟨_, _, _, g3, _⟩ := hbox
          have h3 : ∀ d os, (grow (redrawn w2 d) os).cell? ⟨wr.heap.size, 3, none⟩ = some (.int .i64 (gd l k).due) := fun d os => cell_regrown g3 d os
          clear g3
          refine wp_region_quiet_below (by kernel_rfl) (by kernel_rfl) ?_
          repeat (go_big_quiet_step ((go_at_call 34; exact regrown_r (HC.out _ (HA1.out.ext (below_regrown _ _ _))))))
          refine wpQuiet_nil ?_
          intro w' hw'
          obtain ⟨p, rfl⟩ := hw'
          clear h3
          go_wp2_with fail
          go_roundw
          case rel => exact ⟨k + 1, by omega, by go_num, by rw [HF.out]; exact congrArg (Value.int .i64) (by split <;> omega), ext_trans HB1.out (below_regrown _ _ _)⟩
          case measure => simp [intOf]; omega
        · have hkn : k = l.length := by omega
          subst hkn
          go_wp2_with fail
          go_ret2
          exact ⟨by rw [HM.out]; rfl, HW.out⟩

end Go.Proofs.Ythcckonkhbmcmaa
