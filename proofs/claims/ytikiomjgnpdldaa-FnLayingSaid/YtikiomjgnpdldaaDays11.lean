/-
  Days at the site, eleventh part: PlanLaying.
-/
import Derived.Test.YtikiomjgnpdldaaDays10
namespace Go.Proofs.Ytikiomjgnpdldaa
open Go.ChangeShapes Go.WideShapes Go.ChangeAt Go.RowKit Go.Sort

/-- The bricks of the first k days, and those that are left. -/
def layTo (s : ByteArray) (xs : List Int) (cu : Nat) (each bricks : Int) : Nat → List Int × Int
  | 0 => ([], bricks)
  | k + 1 => ((layTo s xs cu each bricks k).1 ++ [bif safeB s xs cu k then minI (layTo s xs cu each bricks k).2 (each * hrs s xs k) else 0],
      (layTo s xs cu each bricks k).2 - (bif safeB s xs cu k then minI (layTo s xs cu each bricks k).2 (each * hrs s xs k) else 0))
theorem layTo_len (s : ByteArray) (xs : List Int) (cu : Nat) (each bricks : Int) (k : Nat) : (layTo s xs cu each bricks k).1.length = k := by
  induction k with
  | zero => rfl
  | succ k ih => rw [layTo, List.length_append, ih]; rfl
theorem mul_bd {each h : Int} (h1 : 1 ≤ each) (h2 : each ≤ 5000) (h3 : 0 ≤ h) (h4 : h ≤ 10) : 0 ≤ each * h ∧ each * h ≤ 50000 := by
  constructor
  · exact Int.mul_nonneg (by omega) h3
  · have := Int.mul_le_mul h2 h4 h3 (by omega : (0:Int) ≤ 5000)
    omega
theorem layTo_bd (s : ByteArray) (xs : List Int) (cu : Nat) {each bricks : Int} (h1 : 1 ≤ each) (h2 : each ≤ 5000) (hb : 0 ≤ bricks) (k : Nat) : 0 ≤ (layTo s xs cu each bricks k).2 ∧ (layTo s xs cu each bricks k).2 ≤ bricks := by
  induction k with
  | zero => exact ⟨hb, Int.le_refl _⟩
  | succ k ih =>
    rw [layTo]
    have hh := hrs_bd s xs k
    have hm := mul_bd h1 h2 hh.1 hh.2
    cases safeB s xs cu k <;> simp only [cond_true, cond_false, minI] <;> (first | omega | (split <;> omega))
theorem layTo_yes {s : ByteArray} {xs : List Int} {cu : Nat} {each bricks : Int} {k : Nat} (h : safeB s xs cu k = true) : layTo s xs cu each bricks (k + 1) =
    ((layTo s xs cu each bricks k).1 ++ [minI (layTo s xs cu each bricks k).2 (each * hrs s xs k)], (layTo s xs cu each bricks k).2 - minI (layTo s xs cu each bricks k).2 (each * hrs s xs k)) := by
  rw [layTo, h]; rfl
theorem layTo_no {s : ByteArray} {xs : List Int} {cu : Nat} {each bricks : Int} {k : Nat} (h : safeB s xs cu k = false) : layTo s xs cu each bricks (k + 1) =
    ((layTo s xs cu each bricks k).1 ++ [0], (layTo s xs cu each bricks k).2) := by
  rw [layTo, h]; simp
theorem minI_bd {a b c : Int} (h1 : 0 ≤ a) (h2 : a ≤ c) (h3 : 0 ≤ b) : 0 ≤ minI a b ∧ minI a b ≤ c ∧ minI a b ≤ a := by unfold minI; split <;> omega

def mPlanLaying (s : ByteArray) (xs : List Int) (cure bricks each : Int) : List Int × Int :=
  bif vSite s xs then (bif inB cure 0 28 && inB bricks 0 1000000 && inB each 1 5000 then
    (bif decide (0 < (layTo s xs cure.toNat each bricks s.size).2) then ([], 3) else ((layTo s xs cure.toNat each bricks s.size).1, 0)) else ([], 2)) else ([], 1)

theorem impl_isOrder (n : Int) (w : World) : Calls Try.prog 66 #[.int .i64 n] w (RetP (.bool (inB n 0 1000000)) w) := by
  go_enter Try.func66, Try.ntmps66
  go_wp2_with fail
  refine (impl_within n 0 1000000 _).mono ?_
  rintro e w2 ⟨rfl, rfl⟩
  go_wp2_with fail
  go_ret
  exact ⟨rfl, rfl⟩

set_option maxHeartbeats 800000 in
theorem spec_PlanLaying (v : Value) (s : ByteArray) (xs : List Int) (cure bricks each : Int) (w : World) (hR : ST w v s xs) (hsm : SmST s xs) :
    Calls Try.prog 31 #[v, .int .i64 cure, .int .i64 bricks, .int .i64 each] w (RetI (mPlanLaying s xs cure bricks each).1 (mPlanLaying s xs cure bricks each).2 w) := by
  obtain ⟨A, c, rfl, hR⟩ := hR
  have HP := Lib.hid (ps_box (T := 26) (s := s) hR)
  have e3 : (s.size:Int) ≤ 1048576 := by have := hsm.1; omega
  have HS := Lib.hid hsm.1; clear hsm hR
  go_enter Try.func31, Try.ntmps31
  go_wp2_with fail
  refine (spec_ok _ s xs (by unfold maxLen; omega) _ HP.out).mono ?_
  rintro e w1 ⟨rfl, hb⟩
  have HW := Lib.hid (ext_trans (ext_alloc1 _ _) hb)
  have HP1 := Lib.hid (HP.out.ext hb)
  clear hb
  cases hv : vSite s xs with
  | false =>
    have HV := Lib.hid hv; clear hv
    have HM : Hid (mPlanLaying s xs cure bricks each = ([], 1)) := Lib.hid (by unfold mPlanLaying; rw [HV.out]; rfl)
    go_wp2_with fail
    go_ret2
    rw [HM.out]
    exact ⟨_, rfl, oi_nil _ _, by simp [SmI], HW.out⟩
  | true =>
    have HV := Lib.hid hv; clear hv
    go_wp2_with fail
    refine (spec_in cure 0 28 _).mono ?_
    rintro e w2 ⟨rfl, rfl⟩
    cases hi : inB cure 0 28 with
    | false =>
      have HI := Lib.hid hi; clear hi
      have HM : Hid (mPlanLaying s xs cure bricks each = ([], 2)) := Lib.hid (by unfold mPlanLaying; rw [HV.out, HI.out]; rfl)
      go_wp2_with fail
      go_ret2
      rw [HM.out]
      exact ⟨_, rfl, oi_nil _ _, by simp [SmI], HW.out⟩
    | true =>
    have HI := Lib.hid hi; clear hi
    go_wp2_with fail
    refine (spec_in bricks 0 1000000 _).mono ?_
    rintro e w2 ⟨rfl, rfl⟩
    cases hi : inB bricks 0 1000000 with
    | false =>
      have HI2 := Lib.hid hi; clear hi
      have HM : Hid (mPlanLaying s xs cure bricks each = ([], 2)) := Lib.hid (by unfold mPlanLaying; rw [HV.out, HI.out, HI2.out]; rfl)
      go_wp2_with fail
      go_ret2
      rw [HM.out]
      exact ⟨_, rfl, oi_nil _ _, by simp [SmI], HW.out⟩
    | true =>
    have HI2 := Lib.hid hi; clear hi
    go_wp2_with fail
    refine (spec_in each 1 5000 _).mono ?_
    rintro e w2 ⟨rfl, rfl⟩
    cases hi : inB each 1 5000 with
    | false =>
      have HI3 := Lib.hid hi; clear hi
      have HM : Hid (mPlanLaying s xs cure bricks each = ([], 2)) := Lib.hid (by unfold mPlanLaying; rw [HV.out, HI.out, HI2.out, HI3.out]; rfl)
      go_wp2_with fail
      go_ret2
      rw [HM.out]
      exact ⟨_, rfl, oi_nil _ _, by simp [SmI], HW.out⟩
    | true =>
    have HI3 := Lib.hid hi; clear hi
    have hj' := inB_iff.1 HI.out
    obtain ⟨cu, rfl⟩ := Int.eq_ofNat_of_zero_le hj'.1
    have hcu : cu ≤ 28 := by omega
    clear hj'
    have hbr := inB_iff.1 HI2.out
    have hea := inB_iff.1 HI3.out
    have HM : Hid (mPlanLaying s xs cu bricks each = (bif decide (0 < (layTo s xs cu each bricks s.size).2) then ([], 3) else ((layTo s xs cu each bricks s.size).1, 0))) := Lib.hid (by unfold mPlanLaying; rw [HV.out, HI.out, HI2.out, HI3.out]; rfl)
    go_wp2_with fail
    go_loopw [10, 11, 12] (fun o l d wr => ∃ k : Nat, k ≤ s.size ∧ d = .int .i64 k ∧ l = .int .i64 (layTo s xs cu each bricks k).2 ∧ ∃ A c, o = .slice A (layTo s xs cu each bricks k).1.length c ∧ OI wr w1.heap.size (.slice A (layTo s xs cu each bricks k).1.length c) (layTo s xs cu each bricks k).1 ∧ Below w1.heap.size w1 wr) (fun _ _ d _ => s.size - (intOf d).toNat)
    case atStart => exact ⟨0, Nat.zero_le _, rfl, rfl, some ⟨w1.heap.size, 0, none⟩, 0, rfl, oi_lit w1 _ (Nat.le_refl _), ext_alloc1 _ _⟩
    case round =>
      obtain ⟨k, hk, rfl, rfl, A1, c1, rfl, hO, hbw⟩ := hrel
      have HLN := Lib.hid (layTo_len s xs cu each bricks k)
      have hbd := layTo_bd s xs cu hea.1 hea.2 hbr.1 k
      have HPw := Lib.hid (HP1.out.ext hbw)
      have HB := Lib.hid hbw
      have HO := Lib.hid hO
      obtain ⟨hc0, hrest⟩ := id HPw.out
      have hsz := hbw.size
      clear hrest hbw hO
      by_cases hlt : k < s.size
      · have e5 : (k:Int) < s.size := by omega
        have hh := hrs_bd s xs k
        go_wp2_with fail
        refine (spec_safe _ s xs k cu hlt hcu HS.out _ HPw.out).mono ?_
        rintro e w2 ⟨rfl, rfl⟩
        cases hq : safeB s xs cu k with
        | true =>
          have HQ := Lib.hid (layTo_yes (each := each) (bricks := bricks) hq); clear hq
          have hh := hrs_bd s xs k
          have hm := mul_bd hea.1 hea.2 hh.1 hh.2
          go_wp2_with fail
          refine (spec_hours _ s xs k hlt HS.out _ HPw.out).mono ?_
          rintro e w2 ⟨rfl, rfl⟩
          go_wp2_with fail
          refine (spec_min _ _ _).mono ?_
          rintro e w2 ⟨rfl, rfl⟩
          have hmb := minI_bd hbd.1 (Int.le_trans hbd.2 hbr.2) hm.1
          go_wp2_with (at_builtin; refine wpList_append_i rfl _ _ rfl w1.heap.size (.slice A1 (layTo s xs cu each bricks k).1.length c1) (layTo s xs cu each bricks k).1 (minI (layTo s xs cu each bricks k).2 (each * hrs s xs k)) rfl rfl HO.out (by rw [HLN.out]; omega) hsz ?_; intro g c2 w3 hO1 hg1 hlt1)
          go_roundw
          case rel =>
            refine ⟨k + 1, by omega, by go_num, by rw [HQ.out], some ⟨g, 0, none⟩, c2, by rw [HQ.out, List.length_append]; rfl, by rw [HQ.out, List.length_append]; exact hO1, Chg.ext HB.out hg1 fun j hj => ?_⟩
            exact (HO.out.ge j hj).1
          case measure => simp [intOf]; omega
        | false =>
          have HQ := Lib.hid (layTo_no (each := each) (bricks := bricks) hq); clear hq
          go_wp2_with (at_builtin; refine wpList_append_i rfl _ _ rfl w1.heap.size (.slice A1 (layTo s xs cu each bricks k).1.length c1) (layTo s xs cu each bricks k).1 0 rfl rfl HO.out (by rw [HLN.out]; omega) hsz ?_; intro g c2 w3 hO1 hg1 hlt1)
          go_roundw
          case rel =>
            refine ⟨k + 1, by omega, by go_num, by rw [HQ.out], some ⟨g, 0, none⟩, c2, by rw [HQ.out, List.length_append]; rfl, by rw [HQ.out, List.length_append]; exact hO1, Chg.ext HB.out hg1 fun j hj => ?_⟩
            exact (HO.out.ge j hj).1
          case measure => simp [intOf]; omega
      · have e5 : ¬ (k:Int) < s.size := by omega
        have hkn : k = s.size := by omega
        subst hkn
        by_cases hz : 0 < (layTo s xs cu each bricks s.size).2
        · have HM2 : Hid (mPlanLaying s xs cu bricks each = ([], 3)) := Lib.hid (by rw [HM.out, decide_eq_true hz]; rfl)
          go_wp2_with fail
          go_ret2
          rw [HM2.out]
          exact ⟨_, rfl, oi_nil _ _, by simp [SmI], ext_trans HW.out HB.out⟩
        · have HM2 : Hid (mPlanLaying s xs cu bricks each = ((layTo s xs cu each bricks s.size).1, 0)) := Lib.hid (by rw [HM.out, decide_eq_false hz]; rfl)
          go_wp2_with fail
          go_ret2
          rw [HM2.out]
          exact ⟨_, rfl, HO.out.mono (HW.out.size), by show (layTo s xs cu each bricks s.size).1.length ≤ _; rw [HLN.out]; omega, ext_trans HW.out HB.out⟩

set_option maxHeartbeats 800000 in
theorem impl_PlanLaying (v : Value) (s : ByteArray) (xs : List Int) (cure bricks each : Int) (w : World) (hR : ST w v s xs) (hsm : SmST s xs) :
    Calls Try.prog 30 #[v, .int .i64 cure, .int .i64 bricks, .int .i64 each] w (RetI (mPlanLaying s xs cure bricks each).1 (mPlanLaying s xs cure bricks each).2 w) := by
  obtain ⟨A, c, rfl, hR⟩ := hR
  have HP := Lib.hid (ps_box (T := 26) (s := s) hR)
  have HR := Lib.hid hR; clear hR
  have e3 : (s.size:Int) ≤ 1048576 := by have := hsm.1; omega
  have HX : Hid (s.size ≤ maxLen) := Lib.hid (by unfold maxLen; omega)
  have HS := Lib.hid hsm; clear hsm
  go_enter Try.func30, Try.ntmps30
  go_wp2_with fail
  refine (impl_ValidSite _ s xs _ ⟨_, _, rfl, HR.out.alloc _⟩ HS.out).mono ?_
  rintro e w1 ⟨rfl, hb⟩
  have HW := Lib.hid (ext_trans (ext_alloc1 _ _) hb)
  have HP1 := Lib.hid (HP.out.ext hb)
  clear hb HP
  obtain ⟨A1, c1, hc0, hc1, hs1⟩ := HP1.out.st
  have H1 := Lib.hid hs1; clear hs1
  cases hv : vSite s xs with
  | false =>
    have HV := Lib.hid hv; clear hv
    have HM : Hid (mPlanLaying s xs cure bricks each = ([], 1)) := Lib.hid (by unfold mPlanLaying; rw [HV.out]; rfl)
    go_wp2_with fail
    go_ret2
    rw [HM.out]
    exact ⟨_, rfl, oi_nil _ _, by simp [SmI], HW.out⟩
  | true =>
    have HV := Lib.hid hv; clear hv
    go_wp2_with fail
    refine (impl_within cure 0 28 _).mono ?_
    rintro e w2 ⟨rfl, rfl⟩
    cases hi : inB cure 0 28 with
    | false =>
      have HI := Lib.hid hi; clear hi
      have HM : Hid (mPlanLaying s xs cure bricks each = ([], 2)) := Lib.hid (by unfold mPlanLaying; rw [HV.out, HI.out]; rfl)
      go_wp2_with fail
      go_ret2
      rw [HM.out]
      exact ⟨_, rfl, oi_nil _ _, by simp [SmI], HW.out⟩
    | true =>
    have HI := Lib.hid hi; clear hi
    go_wp2_with fail
    refine (impl_isOrder bricks _).mono ?_
    rintro e w2 ⟨rfl, rfl⟩
    cases hi : inB bricks 0 1000000 with
    | false =>
      have HI2 := Lib.hid hi; clear hi
      have HM : Hid (mPlanLaying s xs cure bricks each = ([], 2)) := Lib.hid (by unfold mPlanLaying; rw [HV.out, HI.out, HI2.out]; rfl)
      go_wp2_with fail
      go_ret2
      rw [HM.out]
      exact ⟨_, rfl, oi_nil _ _, by simp [SmI], HW.out⟩
    | true =>
    have HI2 := Lib.hid hi; clear hi
    go_wp2_with fail
    refine (impl_within each 1 5000 _).mono ?_
    rintro e w2 ⟨rfl, rfl⟩
    cases hi : inB each 1 5000 with
    | false =>
      have HI3 := Lib.hid hi; clear hi
      have HM : Hid (mPlanLaying s xs cure bricks each = ([], 2)) := Lib.hid (by unfold mPlanLaying; rw [HV.out, HI.out, HI2.out, HI3.out]; rfl)
      go_wp2_with fail
      go_ret2
      rw [HM.out]
      exact ⟨_, rfl, oi_nil _ _, by simp [SmI], HW.out⟩
    | true =>
    have HI3 := Lib.hid hi; clear hi
    have hj' := inB_iff.1 HI.out
    obtain ⟨cu, rfl⟩ := Int.eq_ofNat_of_zero_le hj'.1
    have hcu : cu ≤ 28 := by omega
    clear hj'
    have hbr := inB_iff.1 HI2.out
    have hea := inB_iff.1 HI3.out
    have HM : Hid (mPlanLaying s xs cu bricks each = (bif decide (0 < (layTo s xs cu each bricks s.size).2) then ([], 3) else ((layTo s xs cu each bricks s.size).1, 0))) := Lib.hid (by unfold mPlanLaying; rw [HV.out, HI.out, HI2.out, HI3.out]; rfl)
    have hw1 : Below w1.heap.size w1 (w1.alloc (.cells #[] 2)) := ext_alloc1 _ _
    clear hc0 hc1
    obtain ⟨A2, c2, hd0, hd1, hs2⟩ := (HP1.out.ext hw1).st
    have H2 := Lib.hid hs2; clear hs2
    have HW1 := Lib.hid hw1; clear hw1
    go_wp2_with fail
    refine (impl_days _ s xs HX.out _ H2.out).mono ?_
    rintro e w2 ⟨rfl, hb⟩
    have HO2 := Lib.hid ((oi_lit w1 _ (Nat.le_refl _)).ext hb)
    have HW2 := Lib.hid (Below.trans HW1.out (hb.mono HW1.out.size))
    clear hb hd0 hd1
    go_wp2_with fail
    go_loopw [2, 10, 34] (fun l o d wr => ∃ k : Nat, k ≤ s.size ∧ d = .int .i64 k ∧ l = .int .i64 (layTo s xs cu each bricks k).2 ∧ ∃ A c, o = .slice A (layTo s xs cu each bricks k).1.length c ∧ OI wr w1.heap.size (.slice A (layTo s xs cu each bricks k).1.length c) (layTo s xs cu each bricks k).1 ∧ Below w1.heap.size w1 wr) (fun _ _ d _ => s.size - (intOf d).toNat)
    case atStart => exact ⟨0, Nat.zero_le _, rfl, rfl, some ⟨w1.heap.size, 0, none⟩, 0, rfl, HO2.out, HW2.out⟩
    case round =>
      obtain ⟨k, hk, rfl, rfl, A1, c1, rfl, hO, hbw⟩ := hrel
      have HLN := Lib.hid (layTo_len s xs cu each bricks k)
      have hbd := layTo_bd s xs cu hea.1 hea.2 hbr.1 k
      have HB := Lib.hid hbw
      have HO := Lib.hid hO
      obtain ⟨A3, c3, hc0, hc1, hs1⟩ := (HP1.out.ext hbw).st
      have H3 := Lib.hid hs1; clear hs1
      have hsz := hbw.size
      clear hbw hO
      by_cases hlt : k < s.size
      · have e5 : (k:Int) < s.size := by omega
        have hh := hrs_bd s xs k
        go_wp2_with fail
        refine (impl_safe _ s xs k cu hlt hcu HS.out.1 _ H3.out).mono ?_
        rintro e w3 ⟨rfl, hb⟩
        have HB3 := Lib.hid ((HB.out.trans (hb.mono HB.out.size)))
        have HO3 := Lib.hid (HO.out.ext hb)
        have hsz3 := HB3.out.size
        clear hb hc0 hc1 hsz HB HO H3
        cases hq : safeB s xs cu k with
        | true =>
          have HQ := Lib.hid (layTo_yes (each := each) (bricks := bricks) hq); clear hq
          have hh := hrs_bd s xs k
          have hm := mul_bd hea.1 hea.2 hh.1 hh.2
          obtain ⟨A3, c3, hc0, hc1, hs1⟩ := (HP1.out.ext HB3.out).st
          have H3 := Lib.hid hs1; clear hs1
          go_wp2_with fail
          refine (impl_hours _ s xs k (by omega) HS.out.1 _ H3.out).mono ?_
          rintro e w4 ⟨rfl, hb⟩
          have HB4 := Lib.hid (HB3.out.trans (hb.mono HB3.out.size))
          have HO4 := Lib.hid (HO3.out.ext hb)
          have hsz4 := HB4.out.size
          clear hb hc0 hc1 hsz3 HB3 HO3 H3
          have hmb := minI_bd hbd.1 (Int.le_trans hbd.2 hbr.2) hm.1
          have hme := minI_eq (layTo s xs cu each bricks k).2 (each * hrs s xs k)
          rw [hme] at hmb
          have HME := Lib.hid hme; clear hme
          go_wp2_with (at_builtin; refine wpList_append_i rfl _ _ rfl w1.heap.size (.slice A1 (layTo s xs cu each bricks k).1.length c1) (layTo s xs cu each bricks k).1 (min (layTo s xs cu each bricks k).2 (each * hrs s xs k)) rfl rfl HO4.out (by rw [HLN.out]; omega) hsz4 ?_; intro g c2 w3 hO1 hg1 hlt1)
          go_roundw
          case rel =>
            refine ⟨k + 1, by omega, by go_num, by rw [HQ.out, HME.out], some ⟨g, 0, none⟩, c2, by rw [HQ.out, List.length_append]; rfl, by rw [HQ.out, HME.out, List.length_append]; exact hO1, Chg.ext HB4.out hg1 fun j hj => ?_⟩
            exact (HO4.out.ge j hj).1
          case measure => simp [intOf]; omega
        | false =>
          have HQ := Lib.hid (layTo_no (each := each) (bricks := bricks) hq); clear hq
          go_wp2_with (at_builtin; refine wpList_append_i rfl _ _ rfl w1.heap.size (.slice A1 (layTo s xs cu each bricks k).1.length c1) (layTo s xs cu each bricks k).1 0 rfl rfl HO3.out (by rw [HLN.out]; omega) hsz3 ?_; intro g c2 w3 hO1 hg1 hlt1)
          go_roundw
          case rel =>
            refine ⟨k + 1, by omega, by go_num, by rw [HQ.out], some ⟨g, 0, none⟩, c2, by rw [HQ.out, List.length_append]; rfl, by rw [HQ.out, List.length_append]; exact hO1, Chg.ext HB3.out hg1 fun j hj => ?_⟩
            exact (HO3.out.ge j hj).1
          case measure => simp [intOf]; omega
      · have e5 : ¬ (k:Int) < s.size := by omega
        have hkn : k = s.size := by omega
        subst hkn
        by_cases hz : 0 < (layTo s xs cu each bricks s.size).2
        · have HM2 : Hid (mPlanLaying s xs cu bricks each = ([], 3)) := Lib.hid (by rw [HM.out, decide_eq_true hz]; rfl)
          go_wp2_with fail
          go_ret2
          rw [HM2.out]
          exact ⟨_, rfl, oi_nil _ _, by simp [SmI], ext_trans HW.out HB.out⟩
        · have HM2 : Hid (mPlanLaying s xs cu bricks each = ((layTo s xs cu each bricks s.size).1, 0)) := Lib.hid (by rw [HM.out, decide_eq_false hz]; rfl)
          go_wp2_with fail
          go_ret2
          rw [HM2.out]
          exact ⟨_, rfl, HO.out.mono (HW.out.size), by show (layTo s xs cu each bricks s.size).1.length ≤ _; rw [HLN.out]; omega, ext_trans HW.out HB.out⟩

end Go.Proofs.Ytikiomjgnpdldaa
