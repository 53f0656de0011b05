/-
  Days at the site, second part: hours, codes, sums, and the functions that count days.
-/
import Derived.Test.YtikiomjgnpdldaaDays
namespace Go.Proofs.Ytikiomjgnpdldaa
open Go.ChangeShapes Go.WideShapes Go.ChangeAt Go.RowKit Go.Sort

theorem vSite_size {s : ByteArray} {xs : List Int} (h : vSite s xs = true) : s.size ≤ 120 ∧ xs.length ≤ 20 := by
  simp only [vSite, Bool.and_eq_true, decide_eq_true_eq] at h
  exact ⟨h.1.1.2, h.1.2⟩

/-- The hours of day d. -/
def hrs (s : ByteArray) (xs : List Int) (d : Nat) : Int := bif hasB xs d then 0 else bif byt s d == 100 then 10 else bif byt s d == 109 then 6 else 0
theorem hrs_bd (s : ByteArray) (xs : List Int) (d : Nat) : 0 ≤ hrs s xs d ∧ hrs s xs d ≤ 10 := by
  unfold hrs; cases hasB xs d <;> cases (byt s d == 100) <;> cases (byt s d == 109) <;> simp

theorem spec_hours (b : Nat) (s : ByteArray) (xs : List Int) (d : Nat) (hd : d < s.size) (hs : s.size ≤ 1048576) (w : World) (hP : PS w b s xs) :
    Calls Try.prog 54 #[.pointer (some ⟨b, 0, none⟩), .int .i64 d] w (RetP (.int .i64 (hrs s xs d)) w) := by
  obtain ⟨hc0, A, c, hc1, hR⟩ := hP
  have HR := Lib.hid hR; clear hR
  have e1 : (0:Int) ≤ d := by omega
  have e2 : (d:Int) < s.size := by omega
  have e3 : (s.size:Int) ≤ 1048576 := by omega
  cases hh : hasB xs d with
  | true =>
    have HH := Lib.hid hh; clear hh
    go_enter Try.func54, Try.ntmps54
    go_wp2_with fail
    refine (RetP.bool (spec_has _ xs _ _ HR.out) HH.out).mono ?_
    rintro e w' ⟨rfl, rfl⟩
    go_wp2_with fail
    go_ret
    exact ⟨ret_int (by unfold hrs; rw [HH.out]; rfl), rfl⟩
  | false =>
    have HH := Lib.hid hh; clear hh
    have HB := Lib.hid (byt_eq s d hd)
    cases h1 : ((s[d].toNat : Int) == 100) with
    | true =>
      have H1 : Hid ((byt s d == 100) = true) := Lib.hid (by rw [← HB.out]; exact h1)
      go_enter Try.func54, Try.ntmps54
      go_wp2_with fail
      refine (RetP.bool (spec_has _ xs _ _ HR.out) HH.out).mono ?_
      rintro e w' ⟨rfl, rfl⟩
      go_wp2_with fail
      go_ret
      exact ⟨ret_int (by unfold hrs; rw [HH.out, H1.out]; rfl), rfl⟩
    | false =>
      have H1 : Hid ((byt s d == 100) = false) := Lib.hid (by rw [← HB.out]; exact h1)
      cases h2 : ((s[d].toNat : Int) == 109) with
      | true =>
        have H2 : Hid ((byt s d == 109) = true) := Lib.hid (by rw [← HB.out]; exact h2)
        go_enter Try.func54, Try.ntmps54
        go_wp2_with fail
        refine (RetP.bool (spec_has _ xs _ _ HR.out) HH.out).mono ?_
        rintro e w' ⟨rfl, rfl⟩
        go_wp2_with fail
        go_ret
        exact ⟨ret_int (by unfold hrs; rw [HH.out, H1.out, H2.out]; rfl), rfl⟩
      | false =>
        have H2 : Hid ((byt s d == 109) = false) := Lib.hid (by rw [← HB.out]; exact h2)
        go_enter Try.func54, Try.ntmps54
        go_wp2_with fail
        refine (RetP.bool (spec_has _ xs _ _ HR.out) HH.out).mono ?_
        rintro e w' ⟨rfl, rfl⟩
        go_wp2_with fail
        go_ret
        exact ⟨ret_int (by unfold hrs; rw [HH.out, H1.out, H2.out]; rfl), rfl⟩

theorem impl_hours (v : Value) (s : ByteArray) (xs : List Int) (d : Nat) (hd : d < s.size) (hs : s.size ≤ 1048576) (w : World) (hS : ST w v s xs) :
    Calls Try.prog 48 #[v, .int .i64 d] w (Ret (.int .i64 (hrs s xs d)) w) := by
  obtain ⟨A, c, rfl, hR⟩ := hS
  have HR := Lib.hid hR; clear hR
  have e1 : (0:Int) ≤ d := by omega
  have e2 : (d:Int) < s.size := by omega
  have e3 : (s.size:Int) ≤ 1048576 := by omega
  cases hh : hasB xs d with
  | true =>
    have HH := Lib.hid hh; clear hh
    go_enter Try.func48, Try.ntmps48
    go_wp2_with fail
    refine (RetP.bool (sl_contains _ xs _ _ (HR.out.alloc _)) HH.out).mono ?_
    rintro e w' ⟨rfl, rfl⟩
    go_wp2_with fail
    go_ret
    exact ⟨ret_int (by unfold hrs; rw [HH.out]; rfl), ext_alloc1 _ _⟩
  | false =>
    have HH := Lib.hid hh; clear hh
    have HB := Lib.hid (byt_eq s d hd)
    cases h1 : ((s[d].toNat : Int) == 100) with
    | true =>
      have H1 : Hid ((byt s d == 100) = true) := Lib.hid (by rw [← HB.out]; exact h1)
      go_enter Try.func48, Try.ntmps48
      go_wp2_with fail
      refine (RetP.bool (sl_contains _ xs _ _ (HR.out.alloc _)) HH.out).mono ?_
      rintro e w' ⟨rfl, rfl⟩
      go_wp2_with fail
      go_ret
      exact ⟨ret_int (by unfold hrs; rw [HH.out, H1.out]; rfl), ext_alloc1 _ _⟩
    | false =>
      have H1 : Hid ((byt s d == 100) = false) := Lib.hid (by rw [← HB.out]; exact h1)
      cases h2 : ((s[d].toNat : Int) == 109) with
      | true =>
        have H2 : Hid ((byt s d == 109) = true) := Lib.hid (by rw [← HB.out]; exact h2)
        go_enter Try.func48, Try.ntmps48
        go_wp2_with fail
        refine (RetP.bool (sl_contains _ xs _ _ (HR.out.alloc _)) HH.out).mono ?_
        rintro e w' ⟨rfl, rfl⟩
        go_wp2_with fail
        go_ret
        exact ⟨ret_int (by unfold hrs; rw [HH.out, H1.out, H2.out]; rfl), ext_alloc1 _ _⟩
      | false =>
        have H2 : Hid ((byt s d == 109) = false) := Lib.hid (by rw [← HB.out]; exact h2)
        go_enter Try.func48, Try.ntmps48
        go_wp2_with fail
        refine (RetP.bool (sl_contains _ xs _ _ (HR.out.alloc _)) HH.out).mono ?_
        rintro e w' ⟨rfl, rfl⟩
        go_wp2_with fail
        go_ret
        exact ⟨ret_int (by unfold hrs; rw [HH.out, H1.out, H2.out]; rfl), ext_alloc1 _ _⟩

/-- The code of a site and a day. -/
def codeDay (s : ByteArray) (xs : List Int) (day : Int) : Int := bif vSite s xs then (bif inB day 0 ((s.size : Int) - 1) then 0 else 2) else 1
theorem spec_day (b : Nat) (s : ByteArray) (xs : List Int) (day : Int) (hs : s.size ≤ 1048576) (w : World) (hP : PS w b s xs) :
    Calls Try.prog 57 #[.pointer (some ⟨b, 0, none⟩), .int .i64 day] w (Ret (.int .i64 (codeDay s xs day)) w) := by
  have HP := Lib.hid hP
  obtain ⟨hc0, A, c, hc1, hR⟩ := hP
  clear hR hc1
  have e3 : (s.size:Int) ≤ 1048576 := by omega
  cases hv : vSite s xs with
  | false =>
    have HV := Lib.hid hv; clear hv
    go_enter Try.func57, Try.ntmps57
    go_wp2_with fail
    refine (Ret.bool (spec_ok b s xs (by unfold maxLen; omega) _ HP.out) HV.out).mono ?_
    rintro e w' ⟨rfl, hb⟩
    go_wp2_with fail
    go_ret
    exact ⟨ret_int (by unfold codeDay; rw [HV.out]; rfl), hb⟩
  | true =>
    have HV := Lib.hid hv; clear hv
    cases hi : inB day 0 ((s.size : Int) - 1) with
    | true =>
      have HI := Lib.hid hi; clear hi
      go_enter Try.func57, Try.ntmps57
      go_wp2_with fail
      refine (Ret.bool (spec_ok b s xs (by unfold maxLen; omega) _ HP.out) HV.out).mono ?_
      rintro e w' ⟨rfl, hb⟩
      have hc0' := cell_keep hc0 hb
      have HB := Lib.hid hb; clear hb
      go_wp2_with fail
      refine (RetP.bool (spec_in day 0 _ _) HI.out).mono ?_
      rintro e w2 ⟨rfl, rfl⟩
      go_wp2_with fail
      go_ret
      exact ⟨ret_int (by unfold codeDay; rw [HV.out, HI.out]; rfl), HB.out⟩
    | false =>
      have HI := Lib.hid hi; clear hi
      go_enter Try.func57, Try.ntmps57
      go_wp2_with fail
      refine (Ret.bool (spec_ok b s xs (by unfold maxLen; omega) _ HP.out) HV.out).mono ?_
      rintro e w' ⟨rfl, hb⟩
      have hc0' := cell_keep hc0 hb
      have HB := Lib.hid hb; clear hb
      go_wp2_with fail
      refine (RetP.bool (spec_in day 0 _ _) HI.out).mono ?_
      rintro e w2 ⟨rfl, rfl⟩
      go_wp2_with fail
      go_ret
      exact ⟨ret_int (by unfold codeDay; rw [HV.out, HI.out]; rfl), HB.out⟩

end Go.Proofs.Ytikiomjgnpdldaa
