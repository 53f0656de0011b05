/-
  Days at the site, third part: HoursOn, HoursIn.
-/
import Derived.Test.YtikiomjgnpdldaaDays2
namespace Go.Proofs.Ytikiomjgnpdldaa
open Go.ChangeShapes Go.WideShapes Go.ChangeAt Go.RowKit Go.Sort

theorem PS.st {w : World} {b : Nat} {s : ByteArray} {xs : List Int} (h : PS w b s xs) : ∃ A c, w.cell? ⟨b, 0, none⟩ = some (.string s) ∧ w.cell? ⟨b, 1, none⟩ = some (.slice A xs.length c) ∧ ST w (.agg #[.string s, .slice A xs.length c]) s xs := by
  obtain ⟨h1, A, c, h2, h3⟩ := h; exact ⟨A, c, h1, h2, A, c, rfl, h3⟩

def code2 (s : ByteArray) (xs : List Int) (day cure : Int) : Int := bif vSite s xs then (bif inB day 0 ((s.size : Int) - 1) && inB cure 0 28 then 0 else 2) else 1

set_option maxHeartbeats 400000 in
theorem impl_code (v : Value) (s : ByteArray) (xs : List Int) (day cure : Int) (hsm : SmST s xs) (w : World) (hS : ST w v s xs) :
    Calls Try.prog 56 #[v, .int .i64 day, .int .i64 cure] w (Ret (.int .i64 (code2 s xs day cure)) w) := by
  obtain ⟨A, c, rfl, hR⟩ := hS
  have e3 : (s.size:Int) ≤ 1048576 := by have := hsm.1; omega
  have HM : Hid (s.size ≤ maxLen) := Lib.hid (by unfold maxLen; omega)
  have HS := Lib.hid hsm; clear hsm
  have HP := Lib.hid (ps_box (T := 26) (s := s) hR)
  have HR := Lib.hid hR; clear hR
  go_enter Try.func56, Try.ntmps56
  go_wp2_with fail
  refine (impl_ValidSite _ s xs _ ⟨_, _, rfl, HR.out.alloc _⟩ HS.out).mono ?_
  rintro e w1 ⟨rfl, hb⟩
  have HW := Lib.hid (ext_trans (ext_alloc1 _ _) hb)
  obtain ⟨A1, c1, hc0, hc1, hs1⟩ := (HP.out.ext hb).st
  have HP1 := Lib.hid (HP.out.ext hb)
  have H1 := Lib.hid hs1
  clear hb hs1
  cases hv : vSite s xs with
  | false =>
    have HV := Lib.hid hv; clear hv
    go_wp2_with fail
    go_ret
    exact ⟨ret_int (by unfold code2; rw [HV.out]; rfl), HW.out⟩
  | true =>
    have HV := Lib.hid hv; clear hv
    go_wp2_with fail
    refine (impl_days _ s xs HM.out _ H1.out).mono ?_
    rintro e w2 ⟨rfl, hb⟩
    have HW2 := Lib.hid (ext_trans HW.out hb)
    clear hc0 hc1 hb
    go_wp2_with fail
    refine (impl_within day 0 _ _).mono ?_
    rintro e w3 ⟨rfl, rfl⟩
    cases hi : inB day 0 ((s.size : Int) - 1) with
    | false =>
      have HI := Lib.hid hi; clear hi
      go_wp2_with fail
      go_ret
      exact ⟨ret_int (by unfold code2; rw [HV.out, HI.out]; rfl), HW2.out⟩
    | true =>
      have HI := Lib.hid hi; clear hi
      go_wp2_with fail
      refine (impl_within cure 0 28 _).mono ?_
      rintro e w3 ⟨rfl, rfl⟩
      cases hj : inB cure 0 28 with
      | false =>
        have HJ := Lib.hid hj; clear hj
        go_wp2_with fail
        go_ret
        exact ⟨ret_int (by unfold code2; rw [HV.out, HI.out, HJ.out]; rfl), HW2.out⟩
      | true =>
        have HJ := Lib.hid hj; clear hj
        go_wp2_with fail
        go_ret
        exact ⟨ret_int (by unfold code2; rw [HV.out, HI.out, HJ.out]; rfl), HW2.out⟩

def mHoursOn (s : ByteArray) (xs : List Int) (day : Int) : Int × Int := bif vSite s xs then (bif inB day 0 ((s.size : Int) - 1) then (hrs s xs day.toNat, 0) else (0, 2)) else (0, 1)

theorem spec_HoursOn (v : Value) (s : ByteArray) (xs : List Int) (day : Int) (w : World) (hR : ST w v s xs) (hsm : SmST s xs) :
    Calls Try.prog 19 #[v, .int .i64 day] w (Ret (.tuple #[.int .i64 (mHoursOn s xs day).1, .int .i64 (mHoursOn s xs day).2]) w) := by
  obtain ⟨A, c, rfl, hR⟩ := hR
  have HP := Lib.hid (ps_box (T := 26) (s := s) hR)
  have HS := Lib.hid hsm.1; clear hsm hR
  go_enter Try.func19, Try.ntmps19
  go_wp2_with fail
  refine (spec_day _ s xs day HS.out _ HP.out).mono ?_
  rintro e w1 ⟨rfl, hb⟩
  have HW := Lib.hid (ext_trans (ext_alloc1 _ _) hb)
  have HP1 := Lib.hid (HP.out.ext hb)
  clear hb
  cases hv : vSite s xs with
  | false =>
    have e1 : codeDay s xs day = 1 := by unfold codeDay; rw [hv]; rfl
    have HV := Lib.hid hv; clear hv
    rw [e1]; clear e1
    go_wp2_with fail
    go_ret2
    exact ⟨by unfold mHoursOn; rw [HV.out]; rfl, HW.out⟩
  | true =>
    cases hi : inB day 0 ((s.size : Int) - 1) with
    | false =>
      have e1 : codeDay s xs day = 2 := by unfold codeDay; rw [hv, hi]; rfl
      have HV := Lib.hid hv; clear hv
      have HI := Lib.hid hi; clear hi
      rw [e1]; clear e1
      go_wp2_with fail
      go_ret2
      exact ⟨by unfold mHoursOn; rw [HV.out, HI.out]; rfl, HW.out⟩
    | true =>
      have e1 : codeDay s xs day = 0 := by unfold codeDay; rw [hv, hi]; rfl
      have hd := inB_iff.1 hi
      obtain ⟨d, rfl⟩ := Int.eq_ofNat_of_zero_le hd.1
      have hd' : d < s.size := by omega
      have HV := Lib.hid hv; clear hv
      have HI := Lib.hid hi; clear hi hd
      rw [e1]; clear e1
      go_wp2_with fail
      refine (spec_hours _ s xs d hd' HS.out _ HP1.out).mono ?_
      rintro e w3 ⟨rfl, rfl⟩
      go_wp2_with fail
      go_ret2
      exact ⟨by unfold mHoursOn; rw [HV.out, HI.out]; rfl, HW.out⟩

theorem impl_HoursOn (v : Value) (s : ByteArray) (xs : List Int) (day : Int) (w : World) (hR : ST w v s xs) (hsm : SmST s xs) :
    Calls Try.prog 18 #[v, .int .i64 day] w (Ret (.tuple #[.int .i64 (mHoursOn s xs day).1, .int .i64 (mHoursOn s xs day).2]) w) := by
  obtain ⟨A, c, rfl, hR⟩ := hR
  have HP := Lib.hid (ps_box (T := 26) (s := s) hR)
  have HR := Lib.hid hR; clear hR
  have HS := Lib.hid hsm; clear hsm
  go_enter Try.func18, Try.ntmps18
  go_wp2_with fail
  refine (impl_code _ s xs day 0 HS.out _ ⟨_, _, rfl, HR.out.alloc _⟩).mono ?_
  rintro e w1 ⟨rfl, hb⟩
  have HW := Lib.hid (ext_trans (ext_alloc1 _ _) hb)
  obtain ⟨A1, c1, hc0, hc1, hs1⟩ := (HP.out.ext hb).st
  have H1 := Lib.hid hs1
  clear hb hs1
  have h28 : inB 0 0 28 = true := rfl
  cases hv : vSite s xs with
  | false =>
    have e1 : code2 s xs day 0 = 1 := by unfold code2; rw [hv]; rfl
    have HV := Lib.hid hv; clear hv
    rw [e1]; clear e1 h28
    go_wp2_with fail
    go_ret2
    exact ⟨by unfold mHoursOn; rw [HV.out]; rfl, HW.out⟩
  | true =>
    cases hi : inB day 0 ((s.size : Int) - 1) with
    | false =>
      have e1 : code2 s xs day 0 = 2 := by unfold code2; rw [hv, hi]; rfl
      have HV := Lib.hid hv; clear hv
      have HI := Lib.hid hi; clear hi
      rw [e1]; clear e1 h28
      go_wp2_with fail
      go_ret2
      exact ⟨by unfold mHoursOn; rw [HV.out, HI.out]; rfl, HW.out⟩
    | true =>
      have e1 : code2 s xs day 0 = 0 := by unfold code2; rw [hv, hi, h28]; rfl
      have hd := inB_iff.1 hi
      obtain ⟨d, rfl⟩ := Int.eq_ofNat_of_zero_le hd.1
      have hd' : d < s.size := by omega
      have HV := Lib.hid hv; clear hv
      have HI := Lib.hid hi; clear hi hd
      rw [e1]; clear e1 h28
      go_wp2_with fail
      refine (impl_hours _ s xs d hd' HS.out.1 _ H1.out).mono ?_
      rintro e w3 ⟨rfl, hb⟩
      go_wp2_with fail
      go_ret2
      exact ⟨by unfold mHoursOn; rw [HV.out, HI.out]; rfl, ext_trans HW.out hb⟩

end Go.Proofs.Ytikiomjgnpdldaa
