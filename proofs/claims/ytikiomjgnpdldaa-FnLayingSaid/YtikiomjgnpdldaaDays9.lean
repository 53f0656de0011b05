/-
  Days at the site, ninth part: FrostRisk, safe days.
-/
import Derived.Test.YtikiomjgnpdldaaDays8
namespace Go.Proofs.Ytikiomjgnpdldaa
open Go.ChangeShapes Go.WideShapes Go.ChangeAt Go.RowKit Go.Sort

def mFrostRisk (s : ByteArray) (xs : List Int) (day cure : Int) : Bool × Int :=
  bif vSite s xs then (bif inB day 0 ((s.size : Int) - 1) && inB cure 0 28 then (frostB s day.toNat cure.toNat, 0) else (false, 2)) else (false, 1)

set_option maxHeartbeats 800000 in
theorem spec_FrostRisk (v : Value) (s : ByteArray) (xs : List Int) (day cure : Int) (w : World) (hR : ST w v s xs) (hsm : SmST s xs) :
    Calls Try.prog 37 #[v, .int .i64 day, .int .i64 cure] w (Ret (.tuple #[.bool (mFrostRisk s xs day cure).1, .int .i64 (mFrostRisk s xs day cure).2]) w) := by
  obtain ⟨A, c, rfl, hR⟩ := hR
  have HP := Lib.hid (ps_box (T := 26) (s := s) hR)
  have e3 : (s.size:Int) ≤ 1048576 := by have := hsm.1; omega
  have HS := Lib.hid hsm.1; clear hsm hR
  go_enter Try.func37, Try.ntmps37
  go_wp2_with fail
  refine (spec_day _ s xs day HS.out _ HP.out).mono ?_
  rintro e w1 ⟨rfl, hb⟩
  have HW := Lib.hid (ext_trans (ext_alloc1 _ _) hb)
  have HP1 := Lib.hid (HP.out.ext hb)
  clear hb
  cases hv : vSite s xs with
  | false =>
    have e1 : codeDay s xs day = 1 := by unfold codeDay; rw [hv]; rfl
    have HV := Lib.hid hv; clear hv
    rw [e1]; clear e1
    go_wp2_with fail
    go_ret2
    exact ⟨by unfold mFrostRisk; rw [HV.out]; rfl, HW.out⟩
  | true =>
    cases hi : inB day 0 ((s.size : Int) - 1) with
    | false =>
      have e1 : codeDay s xs day = 2 := by unfold codeDay; rw [hv, hi]; rfl
      have HV := Lib.hid hv; clear hv
      have HI := Lib.hid hi; clear hi
      rw [e1]; clear e1
      go_wp2_with fail
      go_ret2
      exact ⟨by unfold mFrostRisk; rw [HV.out, HI.out]; rfl, HW.out⟩
    | true =>
      have e1 : codeDay s xs day = 0 := by unfold codeDay; rw [hv, hi]; rfl
      have hd := inB_iff.1 hi
      obtain ⟨a, rfl⟩ := Int.eq_ofNat_of_zero_le hd.1
      have hd1 : a < s.size := by omega
      have HV := Lib.hid hv; clear hv
      have HI := Lib.hid hi; clear hi hd
      rw [e1]; clear e1
      go_wp2_with fail
      refine (spec_in cure 0 28 _).mono ?_
      rintro e w2 ⟨rfl, rfl⟩
      cases hj : inB cure 0 28 with
      | false =>
        have HJ := Lib.hid hj; clear hj
        go_wp2_with fail
        go_ret2
        exact ⟨by unfold mFrostRisk; rw [HV.out, HI.out, HJ.out]; rfl, HW.out⟩
      | true =>
        have hj' := inB_iff.1 hj
        obtain ⟨cu, rfl⟩ := Int.eq_ofNat_of_zero_le hj'.1
        have hcu : cu ≤ 28 := by omega
        have HJ := Lib.hid hj; clear hj hj'
        go_wp2_with fail
        refine (spec_frost _ s xs a cu hd1 hcu HS.out _ HP1.out).mono ?_
        rintro e w2 ⟨rfl, rfl⟩
        go_wp2_with fail
        go_ret2
        exact ⟨by unfold mFrostRisk; rw [HV.out, HI.out, HJ.out]; rfl, HW.out⟩

set_option maxHeartbeats 800000 in
theorem impl_FrostRisk (v : Value) (s : ByteArray) (xs : List Int) (day cure : Int) (w : World) (hR : ST w v s xs) (hsm : SmST s xs) :
    Calls Try.prog 36 #[v, .int .i64 day, .int .i64 cure] w (Ret (.tuple #[.bool (mFrostRisk s xs day cure).1, .int .i64 (mFrostRisk s xs day cure).2]) w) := by
  obtain ⟨A, c, rfl, hR⟩ := hR
  have HP := Lib.hid (ps_box (T := 26) (s := s) hR)
  have HR := Lib.hid hR; clear hR
  have e3 : (s.size:Int) ≤ 1048576 := by have := hsm.1; omega
  have HS := Lib.hid hsm; clear hsm
  go_enter Try.func36, Try.ntmps36
  go_wp2_with fail
  refine (impl_code _ s xs day cure HS.out _ ⟨_, _, rfl, HR.out.alloc _⟩).mono ?_
  rintro e w1 ⟨rfl, hb⟩
  have HW := Lib.hid (ext_trans (ext_alloc1 _ _) hb)
  have HP1 := Lib.hid (HP.out.ext hb)
  clear hb HP
  cases hv : vSite s xs with
  | false =>
    have e1 : code2 s xs day cure = 1 := by unfold code2; rw [hv]; rfl
    have HV := Lib.hid hv; clear hv
    rw [e1]; clear e1
    go_wp2_with fail
    go_ret2
    exact ⟨by unfold mFrostRisk; rw [HV.out]; rfl, HW.out⟩
  | true =>
    cases hi : inB day 0 ((s.size : Int) - 1) && inB cure 0 28 with
    | false =>
      have e1 : code2 s xs day cure = 2 := by unfold code2; rw [hv, hi]; rfl
      have HV := Lib.hid hv; clear hv
      have HI := Lib.hid hi; clear hi
      rw [e1]; clear e1
      go_wp2_with fail
      go_ret2
      exact ⟨by unfold mFrostRisk; rw [HV.out, HI.out]; rfl, HW.out⟩
    | true =>
      have e1 : code2 s xs day cure = 0 := by unfold code2; rw [hv, hi]; rfl
      have hd := hi
      simp only [Bool.and_eq_true, inB_iff] at hd
      obtain ⟨a, rfl⟩ := Int.eq_ofNat_of_zero_le hd.1.1
      obtain ⟨cu, rfl⟩ := Int.eq_ofNat_of_zero_le hd.2.1
      have hd1 : a < s.size := by omega
      have hcu : cu ≤ 28 := by omega
      have HV := Lib.hid hv; clear hv
      have HI := Lib.hid hi; clear hi hd
      obtain ⟨A1, c1, hc0, hc1, hs1⟩ := HP1.out.st
      have H1 := Lib.hid hs1; clear hs1
      rw [e1]; clear e1
      go_wp2_with fail
      refine (impl_frost _ s xs a cu hd1 hcu HS.out.1 _ H1.out).mono ?_
      rintro e w2 ⟨rfl, hb⟩
      have HW2 := Lib.hid (ext_trans HW.out hb)
      clear hb
      go_wp2_with fail
      go_ret2
      exact ⟨by unfold mFrostRisk; rw [HV.out, HI.out]; rfl, HW2.out⟩

/-- Can bricks be laid on day d? -/
def safeB (s : ByteArray) (xs : List Int) (cure d : Nat) : Bool := decide (0 < hrs s xs d) && !frostB s d cure

theorem spec_safe (b : Nat) (s : ByteArray) (xs : List Int) (d cure : Nat) (hd : d < s.size) (hcu : cure ≤ 28) (hs : s.size ≤ 1048576) (w : World) (hP : PS w b s xs) :
    Calls Try.prog 68 #[.pointer (some ⟨b, 0, none⟩), .int .i64 d, .int .i64 cure] w (RetP (.bool (safeB s xs cure d)) w) := by
  have HP := Lib.hid hP
  clear hP
  go_enter Try.func68, Try.ntmps68
  go_wp2_with fail
  refine (spec_hours _ s xs d hd hs _ HP.out).mono ?_
  rintro e w2 ⟨rfl, rfl⟩
  by_cases hq : 0 < hrs s xs d
  · have HQ := Lib.hid (decide_eq_true hq)
    go_wp2_with fail
    refine (spec_frost _ s xs d cure hd hcu hs _ HP.out).mono ?_
    rintro e w2 ⟨rfl, rfl⟩
    go_wp2_with fail
    go_ret
    exact ⟨ret_bool (by unfold safeB; rw [HQ.out]; rfl), rfl⟩
  · have HQ := Lib.hid (decide_eq_false hq)
    go_wp2_with fail
    go_ret
    exact ⟨ret_bool (by unfold safeB; rw [HQ.out]; rfl), rfl⟩

theorem impl_safe (v : Value) (s : ByteArray) (xs : List Int) (d cure : Nat) (hd : d < s.size) (hcu : cure ≤ 28) (hs : s.size ≤ 1048576) (w : World) (hS : ST w v s xs) :
    Calls Try.prog 67 #[v, .int .i64 d, .int .i64 cure] w (Ret (.bool (safeB s xs cure d)) w) := by
  obtain ⟨A, c, rfl, hR⟩ := hS
  have HP := Lib.hid (ps_box (T := 26) (s := s) hR)
  have HR := Lib.hid hR; clear hR
  go_enter Try.func67, Try.ntmps67
  go_wp2_with fail
  refine (impl_hours _ s xs d hd hs _ ⟨_, _, rfl, HR.out.alloc _⟩).mono ?_
  rintro e w1 ⟨rfl, hb⟩
  have HW := Lib.hid (ext_trans (ext_alloc1 _ _) hb)
  have HP1 := Lib.hid (HP.out.ext hb)
  clear hb HP
  obtain ⟨A1, c1, hc0, hc1, hs1⟩ := HP1.out.st
  have H1 := Lib.hid hs1; clear hs1
  by_cases hq : 0 < hrs s xs d
  · have HQ := Lib.hid (decide_eq_true hq)
    go_wp2_with fail
    refine (impl_frost _ s xs d cure hd hcu hs _ H1.out).mono ?_
    rintro e w2 ⟨rfl, hb⟩
    have HW2 := Lib.hid (ext_trans HW.out hb)
    clear hb
    go_wp2_with fail
    go_ret
    exact ⟨ret_bool (by unfold safeB; rw [HQ.out]; rfl), HW2.out⟩
  · have HQ := Lib.hid (decide_eq_false hq)
    go_wp2_with fail
    go_ret
    exact ⟨ret_bool (by unfold safeB; rw [HQ.out]; rfl), HW.out⟩

end Go.Proofs.Ytikiomjgnpdldaa
