/-
  Days at the site, tenth part: SafeDays, PlanLaying.
-/
import Derived.Test.YtikiomjgnpdldaaDays9
namespace Go.Proofs.Ytikiomjgnpdldaa
open Go.ChangeShapes Go.WideShapes Go.ChangeAt Go.RowKit Go.Sort

def mSafeDays (s : ByteArray) (xs : List Int) (cure : Int) : List Int × Int := bif vSite s xs then (bif inB cure 0 28 then (pick (safeB s xs cure.toNat) s.size, 0) else ([], 2)) else ([], 1)

set_option maxHeartbeats 800000 in
theorem spec_SafeDays (v : Value) (s : ByteArray) (xs : List Int) (cure : Int) (w : World) (hR : ST w v s xs) (hsm : SmST s xs) :
    Calls Try.prog 34 #[v, .int .i64 cure] w (RetI (mSafeDays s xs cure).1 (mSafeDays s xs cure).2 w) := by
  obtain ⟨A, c, rfl, hR⟩ := hR
  have HP := Lib.hid (ps_box (T := 26) (s := s) hR)
  have e3 : (s.size:Int) ≤ 1048576 := by have := hsm.1; omega
  have HS := Lib.hid hsm.1; clear hsm hR
  go_enter Try.func34, Try.ntmps34
  go_wp2_with fail
  refine (spec_ok _ s xs (by unfold maxLen; omega) _ HP.out).mono ?_
  rintro e w1 ⟨rfl, hb⟩
  have HW := Lib.hid (ext_trans (ext_alloc1 _ _) hb)
  have HP1 := Lib.hid (HP.out.ext hb)
  clear hb
  cases hv : vSite s xs with
  | false =>
    have HV := Lib.hid hv; clear hv
    have HM : Hid (mSafeDays s xs cure = ([], 1)) := Lib.hid (by unfold mSafeDays; rw [HV.out]; rfl)
    go_wp2_with fail
    go_ret2
    rw [HM.out]
    exact ⟨_, rfl, oi_nil _ _, by simp [SmI], HW.out⟩
  | true =>
    have HV := Lib.hid hv; clear hv
    go_wp2_with fail
    refine (spec_in cure 0 28 _).mono ?_
    rintro e w2 ⟨rfl, rfl⟩
    cases hi : inB cure 0 28 with
    | false =>
      have HI := Lib.hid hi; clear hi
      have HM : Hid (mSafeDays s xs cure = ([], 2)) := Lib.hid (by unfold mSafeDays; rw [HV.out, HI.out]; rfl)
      go_wp2_with fail
      go_ret2
      rw [HM.out]
      exact ⟨_, rfl, oi_nil _ _, by simp [SmI], HW.out⟩
    | true =>
    have hj' := inB_iff.1 hi
    obtain ⟨cu, rfl⟩ := Int.eq_ofNat_of_zero_le hj'.1
    have hcu : cu ≤ 28 := by omega
    have HI := Lib.hid hi; clear hi hj'
    have HM : Hid (mSafeDays s xs cu = (pick (safeB s xs cu) s.size, 0)) := Lib.hid (by unfold mSafeDays; rw [HV.out, HI.out]; rfl)
    go_wp2_with fail
    go_loopw [6, 7] (fun o d wr => ∃ k : Nat, k ≤ s.size ∧ d = .int .i64 k ∧ ∃ A c, o = .slice A (pick (safeB s xs cu) k).length c ∧ OI wr w1.heap.size (.slice A (pick (safeB s xs cu) k).length c) (pick (safeB s xs cu) k) ∧ Below w1.heap.size w1 wr) (fun _ d _ => s.size - (intOf d).toNat)
    case atStart => exact ⟨0, Nat.zero_le _, rfl, some ⟨w1.heap.size, 0, none⟩, 0, rfl, oi_lit w1 _ (Nat.le_refl _), ext_alloc1 _ _⟩
    case round =>
      obtain ⟨k, hk, rfl, A1, c1, rfl, hO, hbw⟩ := hrel
      have hl := pick_len (safeB s xs cu) k
      have HPw := Lib.hid (HP1.out.ext hbw)
      have HB := Lib.hid hbw
      have HO := Lib.hid hO
      obtain ⟨hc0, hrest⟩ := id HPw.out
      have hsz := hbw.size
      clear hrest hbw hO
      by_cases hlt : k < s.size
      · have e5 : (k:Int) < s.size := by omega
        have hh := hrs_bd s xs k
        go_wp2_with fail
        refine (spec_safe _ s xs k cu hlt hcu HS.out _ HPw.out).mono ?_
        rintro e w2 ⟨rfl, rfl⟩
        cases hq : safeB s xs cu k with
        | true =>
          have HQ := Lib.hid hq; clear hq
          go_wp2_with (at_builtin; (refine wpList_append_i rfl _ _ rfl w1.heap.size (.slice A1 (pick (safeB s xs cu) k).length c1) (pick (safeB s xs cu) k) (k : Int) rfl rfl HO.out (by omega) hsz ?_; intro g c2 w3 hO1 hg1 hlt1))
          go_roundw
          case rel =>
            have he : pick (safeB s xs cu) (k + 1) = pick (safeB s xs cu) k ++ [(k:Int)] := by rw [pick_succ, HQ.out]; rfl
            refine ⟨k + 1, by omega, by go_num, some ⟨g, 0, none⟩, c2, by rw [he, List.length_append]; rfl, by rw [he, List.length_append]; exact hO1, Chg.ext HB.out hg1 fun j hj => ?_⟩
            exact (HO.out.ge j hj).1
          case measure => simp [intOf]; omega
        | false =>
          have HQ := Lib.hid hq; clear hq
          go_wp2_with fail
          go_roundw
          case rel =>
            have he : pick (safeB s xs cu) (k + 1) = pick (safeB s xs cu) k := by rw [pick_succ, HQ.out]; simp
            exact ⟨k + 1, by omega, by go_num, A1, c1, by rw [he], by rw [he]; exact HO.out, HB.out⟩
          case measure => simp [intOf]; omega
      · have e5 : ¬ (k:Int) < s.size := by omega
        go_wp2_with fail
        go_ret2
        have hkn : k = s.size := by omega
        subst hkn
        rw [HM.out]
        exact ⟨_, rfl, HO.out.mono (HW.out.size), by show (pick (safeB s xs cu) s.size).length ≤ _; omega, ext_trans HW.out HB.out⟩

set_option maxHeartbeats 800000 in
theorem impl_SafeDays (v : Value) (s : ByteArray) (xs : List Int) (cure : Int) (w : World) (hR : ST w v s xs) (hsm : SmST s xs) :
    Calls Try.prog 33 #[v, .int .i64 cure] w (RetI (mSafeDays s xs cure).1 (mSafeDays s xs cure).2 w) := by
  obtain ⟨A, c, rfl, hR⟩ := hR
  have HP := Lib.hid (ps_box (T := 26) (s := s) hR)
  have HR := Lib.hid hR; clear hR
  have e3 : (s.size:Int) ≤ 1048576 := by have := hsm.1; omega
  have HX : Hid (s.size ≤ maxLen) := Lib.hid (by unfold maxLen; omega)
  have HS := Lib.hid hsm; clear hsm
  go_enter Try.func33, Try.ntmps33
  go_wp2_with fail
  refine (impl_ValidSite _ s xs _ ⟨_, _, rfl, HR.out.alloc _⟩ HS.out).mono ?_
  rintro e w1 ⟨rfl, hb⟩
  have HW := Lib.hid (ext_trans (ext_alloc1 _ _) hb)
  have HP1 := Lib.hid (HP.out.ext hb)
  clear hb HP
  obtain ⟨A1, c1, hc0, hc1, hs1⟩ := HP1.out.st
  have H1 := Lib.hid hs1; clear hs1
  cases hv : vSite s xs with
  | false =>
    have HV := Lib.hid hv; clear hv
    have HM : Hid (mSafeDays s xs cure = ([], 1)) := Lib.hid (by unfold mSafeDays; rw [HV.out]; rfl)
    go_wp2_with fail
    go_ret2
    rw [HM.out]
    exact ⟨_, rfl, oi_nil _ _, by simp [SmI], HW.out⟩
  | true =>
    have HV := Lib.hid hv; clear hv
    go_wp2_with fail
    refine (impl_within cure 0 28 _).mono ?_
    rintro e w2 ⟨rfl, rfl⟩
    cases hi : inB cure 0 28 with
    | false =>
      have HI := Lib.hid hi; clear hi
      have HM : Hid (mSafeDays s xs cure = ([], 2)) := Lib.hid (by unfold mSafeDays; rw [HV.out, HI.out]; rfl)
      go_wp2_with fail
      go_ret2
      rw [HM.out]
      exact ⟨_, rfl, oi_nil _ _, by simp [SmI], HW.out⟩
    | true =>
    have hj' := inB_iff.1 hi
    obtain ⟨cu, rfl⟩ := Int.eq_ofNat_of_zero_le hj'.1
    have hcu : cu ≤ 28 := by omega
    have HI := Lib.hid hi; clear hi hj'
    have HM : Hid (mSafeDays s xs cu = (pick (safeB s xs cu) s.size, 0)) := Lib.hid (by unfold mSafeDays; rw [HV.out, HI.out]; rfl)
    have hw1 : Below w1.heap.size w1 (w1.alloc (.cells #[] 2)) := ext_alloc1 _ _
    clear hc0 hc1
    obtain ⟨A2, c2, hd0, hd1, hs2⟩ := (HP1.out.ext hw1).st
    have H2 := Lib.hid hs2; clear hs2
    have HW1 := Lib.hid hw1; clear hw1
    go_wp2_with fail
    refine (impl_days _ s xs HX.out _ H2.out).mono ?_
    rintro e w2 ⟨rfl, hb⟩
    have HO2 := Lib.hid ((oi_lit w1 _ (Nat.le_refl _)).ext hb)
    have HW2 := Lib.hid (Below.trans HW1.out (hb.mono HW1.out.size))
    clear hb hd0 hd1
    go_wp2_with fail
    go_loopw [6, 19] (fun o d wr => ∃ k : Nat, k ≤ s.size ∧ d = .int .i64 k ∧ ∃ A c, o = .slice A (pick (safeB s xs cu) k).length c ∧ OI wr w1.heap.size (.slice A (pick (safeB s xs cu) k).length c) (pick (safeB s xs cu) k) ∧ Below w1.heap.size w1 wr) (fun _ d _ => s.size - (intOf d).toNat)
    case atStart => exact ⟨0, Nat.zero_le _, rfl, some ⟨w1.heap.size, 0, none⟩, 0, rfl, HO2.out, HW2.out⟩
    case round =>
      obtain ⟨k, hk, rfl, A1, c1, rfl, hO, hbw⟩ := hrel
      have hl := pick_len (safeB s xs cu) k
      have HB := Lib.hid hbw
      have HO := Lib.hid hO
      obtain ⟨A3, c3, hc0, hc1, hs1⟩ := (HP1.out.ext hbw).st
      have H3 := Lib.hid hs1; clear hs1
      have hsz := hbw.size
      clear hbw hO
      by_cases hlt : k < s.size
      · have e5 : (k:Int) < s.size := by omega
        have hh := hrs_bd s xs k
        go_wp2_with fail
        refine (impl_safe _ s xs k cu hlt hcu HS.out.1 _ H3.out).mono ?_
        rintro e w3 ⟨rfl, hb⟩
        have HB3 := Lib.hid ((HB.out.trans (hb.mono HB.out.size)))
        have HO3 := Lib.hid (HO.out.ext hb)
        have hsz3 := HB3.out.size
        clear hb hc0 hc1 hsz HB HO H3
        cases hq : safeB s xs cu k with
        | true =>
          have HQ := Lib.hid hq; clear hq
          go_wp2_with (at_builtin; refine wpList_append_i rfl _ _ rfl w1.heap.size (.slice A1 (pick (safeB s xs cu) k).length c1) (pick (safeB s xs cu) k) (k : Int) rfl rfl HO3.out (by omega) hsz3 ?_; intro g c2 w3 hO1 hg1 hlt1)
          go_roundw
          case rel =>
            have he : pick (safeB s xs cu) (k + 1) = pick (safeB s xs cu) k ++ [(k:Int)] := by rw [pick_succ, HQ.out]; rfl
            refine ⟨k + 1, by omega, by go_num, some ⟨g, 0, none⟩, c2, by rw [he, List.length_append]; rfl, by rw [he, List.length_append]; exact hO1, Chg.ext HB3.out hg1 fun j hj => ?_⟩
            exact (HO3.out.ge j hj).1
          case measure => simp [intOf]; omega
        | false =>
          have HQ := Lib.hid hq; clear hq
          go_wp2_with fail
          go_roundw
          case rel =>
            have he : pick (safeB s xs cu) (k + 1) = pick (safeB s xs cu) k := by rw [pick_succ, HQ.out]; simp
            exact ⟨k + 1, by omega, by go_num, A1, c1, by rw [he], by rw [he]; exact HO3.out, HB3.out⟩
          case measure => simp [intOf]; omega
      · have e5 : ¬ (k:Int) < s.size := by omega
        go_wp2_with fail
        go_ret2
        have hkn : k = s.size := by omega
        subst hkn
        rw [HM.out]
        exact ⟨_, rfl, HO.out.mono (HW.out.size), by show (pick (safeB s xs cu) s.size).length ≤ _; omega, ext_trans HW.out HB.out⟩

end Go.Proofs.Ytikiomjgnpdldaa
