/-
  Orders, sixth part: LateOrders.
-/
import Derived.Test.YthcckonkhbmcmaaOrders5
namespace Go.Proofs.Ythcckonkhbmcmaa
open Go.ChangeShapes Go.WideShapes Go.ChangeAt Go.RowKit Go.Sort
set_option linter.unusedVariables false

/-- The result of a function that returns numbers and a code. -/
def RetI (M : List Int) (code : Int) (w : World) : Ending → World → Prop := fun e w' => ∃ v, e = .returned (.tuple #[v, .int .i64 code]) ∧ OI w' w.heap.size v M ∧ SmI M ∧ Below w.heap.size w w'
theorem oi_nil (w : World) (B : Nat) : OI w B (.slice none 0 0) [] := World.ownsRow_nil _ _ _ _
theorem oi_lit (w : World) (B : Nat) (h : B ≤ w.heap.size) : OI (w.alloc (.cells #[] 2)) B (.slice (some ⟨w.heap.size, 0, none⟩) 0 0) [] :=
  World.ownsRow_lit _ #[] 0 h (by simp [maxLen]) (by simp)
/-- The orders up to k that are late. -/
def lateTo (l : List OD) (day : Int) (k : Nat) : List Int := ((List.range k).filter fun i => decide ((gd l i).due < day) && decide (0 < opn (gd l i))).map fun (i : Nat) => (i : Int)
theorem late_len (l : List OD) (day : Int) (k : Nat) : (lateTo l day k).length ≤ k := by
  unfold lateTo
  rw [List.length_map]
  exact Nat.le_trans (List.length_filter_le _ _) (Nat.le_of_eq (List.length_range))
theorem late_yes {l : List OD} {day : Int} {k : Nat} (h1 : (gd l k).due < day) (h2 : 0 < opn (gd l k)) : lateTo l day (k + 1) = lateTo l day k ++ [(k : Int)] := by
  simp [lateTo, List.range_succ, List.filter_append, h1, h2]
theorem late_no {l : List OD} {day : Int} {k : Nat} (h : ¬ ((gd l k).due < day ∧ 0 < opn (gd l k))) : lateTo l day (k + 1) = lateTo l day k := by
  have : (decide ((gd l k).due < day) && decide (0 < opn (gd l k))) = false := by
    rw [Bool.and_eq_false_iff, decide_eq_false_iff_not, decide_eq_false_iff_not]; omega
  simp [lateTo, List.range_succ, List.filter_append, this]
def mLateOrders (l : List OD) (day : Int) : List Int × Int := bif vOrders l then (bif inB day 0 10001 then (lateTo l day l.length, 0) else ([], 2)) else ([], 1)

set_option maxHeartbeats 1600000 in
theorem spec_LateOrders (v : Value) (l : List OD) (day : Int) (w : World) (ha : RODS w v l) (hsm : SmODS l) :
    Calls Try.prog 18 #[v, .int .i64 day] w (RetI (mLateOrders l day).1 (mLateOrders l day).2 w) := by
  obtain ⟨A, c, rfl, hc1, hc2⟩ := ha.open_
  have HA := Lib.hid ha; clear ha
  have HV0 := Lib.hid (spec_okO _ l hsm w HA.out)
  clear hsm
  unfold maxLen at hc2
  go_enter Try.func18, Try.ntmps18
  go_wp2_with fail
  refine (show Calls _ _ _ _ _ from HV0.out).mono ?_
  rintro e w1 ⟨rfl, hb⟩
  have HW1 := Lib.hid hb; clear hb HV0
  cases hv : vOrders l with
  | false =>
    have HM : Hid (mLateOrders l day = ([], 1)) := Lib.hid (by unfold mLateOrders; rw [hv]; rfl)
    clear hv
    go_wp2_with fail
    go_ret2
    rw [HM.out]
    exact ⟨_, rfl, oi_nil _ _, by simp [SmI], HW1.out⟩
  | true =>
    have HV := Lib.hid hv
    have hlen := v_len hv
    clear hv
    go_wp2_with fail
    refine (spec_in day 0 10001 _).mono ?_
    rintro e w2 ⟨rfl, rfl⟩
    cases hi : inB day 0 10001 with
    | false =>
      have HM : Hid (mLateOrders l day = ([], 2)) := Lib.hid (by unfold mLateOrders; rw [HV.out, hi]; rfl)
      clear hi
      go_wp2_with fail
      go_ret2
      rw [HM.out]
      exact ⟨_, rfl, oi_nil _ _, by simp [SmI], HW1.out⟩
    | true =>
      have HM : Hid (mLateOrders l day = (lateTo l day l.length, 0)) := Lib.hid (by unfold mLateOrders; rw [HV.out, hi]; rfl)
      clear hi
      have HA1 := Lib.hid (HA.out.ext HW1.out)
      go_wp2_with fail
      go_loopw [6, 7] (fun o i wr => ∃ (k : Nat) (xs : List Int), k ≤ l.length ∧ i = .int .i64 k ∧ Hid (xs = lateTo l day k) ∧ xs.length ≤ k ∧ ∃ A c, o = .slice A xs.length c ∧ Hid (OI wr w1.heap.size (.slice A xs.length c) xs) ∧ Below w1.heap.size w1 wr) (fun _ i _ => l.length - (intOf i).toNat)
      case atStart => exact ⟨0, [], Nat.zero_le _, rfl, Lib.hid rfl, Nat.le_refl _, some ⟨w1.heap.size, 0, none⟩, 0, rfl, oi_lit w1 _ (Nat.le_refl _), ext_alloc1 _ _⟩
      case round =>
        obtain ⟨k, xs, hk, rfl, HX, hxk, A1, c1, rfl, HO, hbw⟩ := hrel
        have HAw := Lib.hid (HA1.out.ext hbw)
        have hsz := hbw.size
        have HW := Lib.hid hbw; clear hbw
        by_cases hlt : k < l.length
        · obtain ⟨ad, rfl, _, hc⟩ := HAw.out.at hlt
          have HC := Lib.hid (spec_open _ _ _ (hc k hlt) (v_one HV.out hlt))
          obtain ⟨_, _, _, h3, _⟩ := hc k hlt
          clear hc
          have HOP : Hid ((gd l k).br - (gd l k).sent = opn (gd l k)) := Lib.hid rfl
          rw [HOP.out] at HC
          have ho := opn_bd HV.out hlt
          have e1 : (0:Int) ≤ k := by omega
          have e2 : (k:Int) < l.length := by omega
          by_cases h4 : (gd l k).due < day
          · have e3 : decide ((gd l k).due < day) = true := decide_eq_true h4
            go_wp2_with fail
            refine (show Calls _ _ _ _ _ from HC.out).mono ?_
            rintro e w3 ⟨rfl, hb⟩
            have HO3 := Lib.hid (HO.out.ext hb)
            have HW3 := Lib.hid (ext_trans HW.out hb)
            have hsz3 := HW3.out.size
            clear hb h3 HC
            by_cases h5 : 0 < opn (gd l k)
            · have e4 : decide (0 < opn (gd l k)) = true := decide_eq_true h5
              have HY := Lib.hid (late_yes h4 h5)
              go_wp2_with (at_builtin; refine wpList_append_i rfl _ _ rfl w1.heap.size (.slice A1 xs.length c1) xs (k : Int) rfl rfl HO3.out (by omega) hsz3 ?_; intro g c2 w4 hO1 hg1 hlt1)
              go_roundw
              case rel => exact ⟨k + 1, xs ++ [(k : Int)], by omega, by go_num, Lib.hid (by rw [HY.out, HX.out]), by rw [List.length_append]; simp; omega, _, _, by rw [List.length_append]; rfl, by rw [List.length_append]; exact hO1, Chg.ext HW3.out hg1 fun j hj => (HO3.out.ge j hj).1⟩
              case measure => simp [intOf]; omega
            · have e4 : decide (0 < opn (gd l k)) = false := decide_eq_false h5
              have HY := Lib.hid (late_no (l := l) (day := day) (k := k) (fun h => h5 h.2))
              go_wp2_with fail
              go_roundw
              case rel => exact ⟨k + 1, xs, by omega, by go_num, Lib.hid (by rw [HY.out, HX.out]), by omega, _, _, rfl, HO3.out, HW3.out⟩
              case measure => simp [intOf]; omega
          · have e3 : decide ((gd l k).due < day) = false := decide_eq_false h4
            have HY := Lib.hid (late_no (l := l) (day := day) (k := k) (fun h => h4 h.1))
            go_wp2_with fail
            go_roundw
            case rel => exact ⟨k + 1, xs, by omega, by go_num, Lib.hid (by rw [HY.out, HX.out]), by omega, _, _, rfl, HO.out, HW.out⟩
            case measure => simp [intOf]; omega
        · have hkn : k = l.length := by omega
          subst hkn
          have e2 : ¬ (l.length:Int) < l.length := by omega
          go_wp2_with fail
          go_ret2
          rw [HM.out]
          dsimp only
          rw [← HX.out]
          exact ⟨_, rfl, HO.out.mono HW1.out.size, by unfold SmI; omega, ext_trans HW1.out HW.out⟩

set_option maxHeartbeats 1600000 in
theorem impl_LateOrders (v : Value) (l : List OD) (day : Int) (w : World) (ha : RODS w v l) (hsm : SmODS l) :
    Calls Try.prog 17 #[v, .int .i64 day] w (RetI (mLateOrders l day).1 (mLateOrders l day).2 w) := by
  obtain ⟨A, c, rfl, hc1, hc2⟩ := ha.open_
  have HA := Lib.hid ha; clear ha
  have HV0 := Lib.hid (impl_ValidOrders _ l w HA.out hsm)
  clear hsm
  unfold maxLen at hc2
  go_enter Try.func17, Try.ntmps17
  go_wp2_with fail
  refine (show Calls _ _ _ _ _ from HV0.out).mono ?_
  rintro e w1 ⟨rfl, hb⟩
  have HW1 := Lib.hid hb; clear hb HV0
  cases hv : vOrders l with
  | false =>
    have HM : Hid (mLateOrders l day = ([], 1)) := Lib.hid (by unfold mLateOrders; rw [hv]; rfl)
    clear hv
    go_wp2_with fail
    go_ret2
    rw [HM.out]
    exact ⟨_, rfl, oi_nil _ _, by simp [SmI], HW1.out⟩
  | true =>
    have HV := Lib.hid hv
    have hlen := v_len hv
    clear hv
    go_wp2_with fail
    refine (impl_within day 0 10001 _).mono ?_
    rintro e w2 ⟨rfl, rfl⟩
    cases hi : inB day 0 10001 with
    | false =>
      have HM : Hid (mLateOrders l day = ([], 2)) := Lib.hid (by unfold mLateOrders; rw [HV.out, hi]; rfl)
      clear hi
      go_wp2_with fail
      go_ret2
      rw [HM.out]
      exact ⟨_, rfl, oi_nil _ _, by simp [SmI], HW1.out⟩
    | true =>
      have HM : Hid (mLateOrders l day = (lateTo l day l.length, 0)) := Lib.hid (by unfold mLateOrders; rw [HV.out, hi]; rfl)
      clear hi
      have HA1 := Lib.hid (HA.out.ext HW1.out)
      go_wp2_with fail
      go_loopw [6, 20] (fun o i wr => ∃ (k : Nat) (xs : List Int), k ≤ l.length ∧ i = .int .i64 k ∧ Hid (xs = lateTo l day k) ∧ xs.length ≤ k ∧ ∃ A c, o = .slice A xs.length c ∧ Hid (OI wr w1.heap.size (.slice A xs.length c) xs) ∧ Below w1.heap.size w1 wr) (fun _ i _ => l.length - (intOf i).toNat)
      case atStart => exact ⟨0, [], Nat.zero_le _, rfl, Lib.hid rfl, Nat.le_refl _, some ⟨w1.heap.size, 0, none⟩, 0, rfl, oi_lit w1 _ (Nat.le_refl _), ext_alloc1 _ _⟩
      case round =>
        obtain ⟨k, xs, hk, rfl, HX, hxk, A1, c1, rfl, HO, hbw⟩ := hrel
        have HAw := Lib.hid (HA1.out.ext hbw)
        have hsz := hbw.size
        have HW := Lib.hid hbw; clear hbw
        by_cases hlt : k < l.length
        · obtain ⟨ad, rfl, _, hc⟩ := HAw.out.at hlt
          obtain ⟨h0, h1, h2, h3, h4⟩ := hc k hlt
          have HC := Lib.hid (fun w => impl_open (.agg #[.int .i64 (gd l k).id, .string (gd l k).cu, .int .i64 (gd l k).br, .int .i64 (gd l k).due, .int .i64 (gd l k).sent]) (gd l k) w rfl (v_one HV.out hlt))
          clear hc
          have HOP : Hid ((gd l k).br - (gd l k).sent = opn (gd l k)) := Lib.hid rfl
          rw [HOP.out] at HC
          have e1 : (0:Int) ≤ k := by omega
          have e2 : (k:Int) < l.length := by omega
          have HBX := Lib.hid (pOD_box wr (gd l k) 40)
          go_wp2_with fail
          refine (show Calls _ _ _ _ _ from HC.out _).mono ?_
          rintro e w3 ⟨rfl, hb⟩
          have HO3 := Lib.hid (HO.out.ext (ext_trans (ext_alloc1 _ _) hb))
          have HW3 := Lib.hid (ext_trans HW.out (ext_trans (ext_alloc1 _ _) hb))
          obtain ⟨_, _, _, g3, _⟩ := HBX.out.ext hb
          simp only [Nat.zero_add] at g3
          have hsz3 := HW3.out.size
          clear hb h0 h1 h2 h3 h4 HC HBX
          by_cases h5 : 0 < opn (gd l k)
          · have e4 : decide (0 < opn (gd l k)) = true := decide_eq_true h5
            by_cases h4 : (gd l k).due < day
            · have e3 : decide ((gd l k).due < day) = true := decide_eq_true h4
              have HY := Lib.hid (late_yes h4 h5)
              go_wp2_with (at_builtin; refine wpList_append_i rfl _ _ rfl w1.heap.size (.slice A1 xs.length c1) xs (k : Int) rfl rfl HO3.out (by omega) hsz3 ?_; intro g c2 w4 hO1 hg1 hlt1)
              go_roundw
              case rel => exact ⟨k + 1, xs ++ [(k : Int)], by omega, by go_num, Lib.hid (by rw [HY.out, HX.out]), by rw [List.length_append]; simp; omega, _, _, by rw [List.length_append]; rfl, by rw [List.length_append]; exact hO1, Chg.ext HW3.out hg1 fun j hj => (HO3.out.ge j hj).1⟩
              case measure => simp [intOf]; omega
            · have e3 : decide ((gd l k).due < day) = false := decide_eq_false h4
              have HY := Lib.hid (late_no (l := l) (day := day) (k := k) (fun h => h4 h.1))
              go_wp2_with fail
              go_roundw
              case rel => exact ⟨k + 1, xs, by omega, by go_num, Lib.hid (by rw [HY.out, HX.out]), by omega, _, _, rfl, HO3.out, HW3.out⟩
              case measure => simp [intOf]; omega
          · have e4 : decide (0 < opn (gd l k)) = false := decide_eq_false h5
            have HY := Lib.hid (late_no (l := l) (day := day) (k := k) (fun h => h5 h.2))
            go_wp2_with fail
            go_roundw
            case rel => exact ⟨k + 1, xs, by omega, by go_num, Lib.hid (by rw [HY.out, HX.out]), by omega, _, _, rfl, HO3.out, HW3.out⟩
            case measure => simp [intOf]; omega
        · have hkn : k = l.length := by omega
          subst hkn
          have e2 : ¬ (l.length:Int) < l.length := by omega
          go_wp2_with fail
          go_ret2
          rw [HM.out]
          dsimp only
          rw [← HX.out]
          exact ⟨_, rfl, HO.out.mono HW1.out.size, by unfold SmI; omega, ext_trans HW1.out HW.out⟩

end Go.Proofs.Ythcckonkhbmcmaa
