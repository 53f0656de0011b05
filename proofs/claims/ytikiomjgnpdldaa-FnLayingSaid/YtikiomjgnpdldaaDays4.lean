/-
  Days at the site, fourth part: sums of hours.
-/
import Derived.Test.YtikiomjgnpdldaaDays3
namespace Go.Proofs.Ytikiomjgnpdldaa
open Go.ChangeShapes Go.WideShapes Go.ChangeAt Go.RowKit Go.Sort

/-- The hours of the days from a to b - 1. -/
def hsum (s : ByteArray) (xs : List Int) (a b : Nat) : Int := ((List.range' a (b - a)).map (hrs s xs)).sum
theorem hsum_self (s : ByteArray) (xs : List Int) (a : Nat) : hsum s xs a a = 0 := by simp [hsum]
theorem hsum_succ (s : ByteArray) (xs : List Int) {a b : Nat} (h : a ≤ b) : hsum s xs a (b + 1) = hsum s xs a b + hrs s xs b := by
  unfold hsum
  rw [show b + 1 - a = (b - a) + 1 from by omega, List.range'_concat, List.map_append, List.sum_append]
  simp
  congr 1
  omega
theorem hsum_bd (s : ByteArray) (xs : List Int) (a : Nat) : ∀ b, a ≤ b → 0 ≤ hsum s xs a b ∧ hsum s xs a b ≤ 10 * ((b : Int) - a) := by
  intro b h
  obtain ⟨k, rfl⟩ : ∃ k, b = a + k := ⟨b - a, by omega⟩
  clear h
  induction k with
  | zero => simp [hsum_self]
  | succ k ih =>
    have h1 := hsum_succ s xs (a := a) (b := a + k) (by omega)
    have h2 := hrs_bd s xs (a + k)
    rw [← Nat.add_assoc, h1]
    omega

def codeFT (s : ByteArray) (xs : List Int) (a b : Int) : Int := bif vSite s xs then (bif inB a 0 s.size && inB b a s.size then 0 else 2) else 1

theorem spec_code (b : Nat) (s : ByteArray) (xs : List Int) (x y : Int) (hs : s.size ≤ 1048576) (w : World) (hP : PS w b s xs) :
    Calls Try.prog 49 #[.pointer (some ⟨b, 0, none⟩), .int .i64 x, .int .i64 y] w (Ret (.int .i64 (codeFT s xs x y)) w) := by
  have HP := Lib.hid hP
  clear hP
  have e3 : (s.size:Int) ≤ 1048576 := by omega
  go_enter Try.func49, Try.ntmps49
  go_wp2_with fail
  refine (spec_ok b s xs (by unfold maxLen; omega) _ HP.out).mono ?_
  rintro e w' ⟨rfl, hb⟩
  obtain ⟨A1, c1, hc0, hc1, hs1⟩ := (HP.out.ext hb).st
  have HW := Lib.hid hb
  clear hb hs1
  cases hv : vSite s xs with
  | false =>
    have HV := Lib.hid hv; clear hv
    go_wp2_with fail
    go_ret
    exact ⟨ret_int (by unfold codeFT; rw [HV.out]; rfl), HW.out⟩
  | true =>
    have HV := Lib.hid hv; clear hv
    go_wp2_with fail
    refine (spec_in x 0 _ _).mono ?_
    rintro e w2 ⟨rfl, rfl⟩
    cases hi : inB x 0 (s.size : Int) with
    | false =>
      have HI := Lib.hid hi; clear hi
      go_wp2_with fail
      go_ret
      exact ⟨ret_int (by unfold codeFT; rw [HV.out, HI.out]; rfl), HW.out⟩
    | true =>
      have HI := Lib.hid hi; clear hi
      go_wp2_with fail
      refine (spec_in y x _ _).mono ?_
      rintro e w2 ⟨rfl, rfl⟩
      cases hj : inB y x (s.size : Int) with
      | false =>
        have HJ := Lib.hid hj; clear hj
        go_wp2_with fail
        go_ret
        exact ⟨ret_int (by unfold codeFT; rw [HV.out, HI.out, HJ.out]; rfl), HW.out⟩
      | true =>
        have HJ := Lib.hid hj; clear hj
        go_wp2_with fail
        go_ret
        exact ⟨ret_int (by unfold codeFT; rw [HV.out, HI.out, HJ.out]; rfl), HW.out⟩

theorem spec_sum (p : Nat) (s : ByteArray) (xs : List Int) (a b : Nat) (hb : b ≤ s.size) (hs : s.size ≤ 1048576) (w : World) (hP : PS w p s xs) :
    Calls Try.prog 51 #[.pointer (some ⟨p, 0, none⟩), .int .i64 a, .int .i64 b] w (RetP (.int .i64 (hsum s xs a (max a b))) w) := by
  have HP := Lib.hid hP
  clear hP
  by_cases hab : a ≤ b
  · have e1 : (a:Int) ≤ b := by omega
    have e2 : (b:Int) ≤ 1048576 := by omega
    have HE : Hid (max a b = b) := Lib.hid (by omega)
    go_enter Try.func51, Try.ntmps51
    go_wp2_with fail
    go_loop [7, 8] (fun t d => ∃ k : Nat, a ≤ k ∧ k ≤ b ∧ d = .int .i64 k ∧ t = .int .i64 (hsum s xs a k)) (fun _ d => b - (intOf d).toNat)
    case atStart => exact ⟨a, Nat.le_refl _, hab, rfl, by rw [hsum_self]⟩
    case round =>
      obtain ⟨k, hk1, hk2, rfl, rfl⟩ := hrel
      have hbd := hsum_bd s xs a k hk1
      by_cases hlt : k < b
      · have e3 : (k:Int) < b := by omega
        have hh := hrs_bd s xs k
        go_wp2_with fail
        refine (spec_hours p s xs k (by omega) hs _ HP.out).mono ?_
        rintro e w2 ⟨rfl, rfl⟩
        go_wp2_with fail
        go_round
        case rel => exact ⟨k + 1, by omega, by omega, by go_num, by rw [hsum_succ s xs hk1]⟩
        case measure => simp [intOf]; omega
      · have e3 : ¬ (k:Int) < b := by omega
        go_wp2_with fail
        go_ret
        have hkn : k = b := by omega
        subst hkn
        exact ⟨rfl, rfl⟩
  · have e1 : ¬ (a:Int) < b := by omega
    have HE : Hid (max a b = a) := Lib.hid (by omega)
    have e2 : (b:Int) ≤ 1048576 := by omega
    go_enter Try.func51, Try.ntmps51
    go_wp2_with fail
    refine wp_loop_rounds 1 ?_
    rw [rounds_succ]
    go_wp2_with fail
    go_ret
    exact ⟨ret_int (by rw [HE.out, hsum_self]), rfl⟩

def mHoursIn (s : ByteArray) (xs : List Int) (x y : Int) : Int × Int := bif vSite s xs then (bif inB x 0 s.size && inB y x s.size then (hsum s xs x.toNat y.toNat, 0) else (0, 2)) else (0, 1)

theorem spec_HoursIn (v : Value) (s : ByteArray) (xs : List Int) (x y : Int) (w : World) (hR : ST w v s xs) (hsm : SmST s xs) :
    Calls Try.prog 11 #[v, .int .i64 x, .int .i64 y] w (Ret (.tuple #[.int .i64 (mHoursIn s xs x y).1, .int .i64 (mHoursIn s xs x y).2]) w) := by
  obtain ⟨A, c, rfl, hR⟩ := hR
  have HP := Lib.hid (ps_box (T := 26) (s := s) hR)
  have HS := Lib.hid hsm.1; clear hsm hR
  go_enter Try.func11, Try.ntmps11
  go_wp2_with fail
  refine (spec_code _ s xs x y HS.out _ HP.out).mono ?_
  rintro e w1 ⟨rfl, hb⟩
  have HW := Lib.hid (ext_trans (ext_alloc1 _ _) hb)
  have HP1 := Lib.hid (HP.out.ext hb)
  clear hb
  cases hv : vSite s xs with
  | false =>
    have e1 : codeFT s xs x y = 1 := by unfold codeFT; rw [hv]; rfl
    have HV := Lib.hid hv; clear hv
    rw [e1]; clear e1
    go_wp2_with fail
    go_ret2
    exact ⟨by unfold mHoursIn; rw [HV.out]; rfl, HW.out⟩
  | true =>
    cases hi : inB x 0 (s.size : Int) && inB y x (s.size : Int) with
    | false =>
      have e1 : codeFT s xs x y = 2 := by unfold codeFT; rw [hv, hi]; rfl
      have HV := Lib.hid hv; clear hv
      have HI := Lib.hid hi; clear hi
      rw [e1]; clear e1
      go_wp2_with fail
      go_ret2
      exact ⟨by unfold mHoursIn; rw [HV.out, HI.out]; rfl, HW.out⟩
    | true =>
      have e1 : codeFT s xs x y = 0 := by unfold codeFT; rw [hv, hi]; rfl
      have hd := hi
      simp only [Bool.and_eq_true, inB_iff] at hd
      obtain ⟨a, rfl⟩ := Int.eq_ofNat_of_zero_le hd.1.1
      obtain ⟨b, rfl⟩ := Int.eq_ofNat_of_zero_le (show 0 ≤ y by omega)
      have hd1 : b ≤ s.size := by omega
      have hd2 : a ≤ b := by omega
      have HV := Lib.hid hv; clear hv
      have HI := Lib.hid hi; clear hi hd
      rw [e1]; clear e1
      go_wp2_with fail
      refine (spec_sum _ s xs a b hd1 HS.out _ HP1.out).mono ?_
      rintro e w3 ⟨rfl, rfl⟩
      go_wp2_with fail
      go_ret2
      have HE : max a b = b := by omega
      first | exact ⟨by unfold mHoursIn; rw [HV.out, HI.out]; rfl, HW.out⟩ | exact ⟨by unfold mHoursIn; rw [HV.out, HI.out, HE]; rfl, HW.out⟩

set_option maxHeartbeats 800000 in
theorem impl_HoursIn (v : Value) (s : ByteArray) (xs : List Int) (x y : Int) (w : World) (hR : ST w v s xs) (hsm : SmST s xs) :
    Calls Try.prog 10 #[v, .int .i64 x, .int .i64 y] w (Ret (.tuple #[.int .i64 (mHoursIn s xs x y).1, .int .i64 (mHoursIn s xs x y).2]) w) := by
  obtain ⟨A, c, rfl, hR⟩ := hR
  have HP := Lib.hid (ps_box (T := 26) (s := s) hR)
  have HR := Lib.hid hR; clear hR
  have e3 : (s.size:Int) ≤ 1048576 := by have := hsm.1; omega
  have HM : Hid (s.size ≤ maxLen) := Lib.hid (by unfold maxLen; omega)
  have HS := Lib.hid hsm; clear hsm
  go_enter Try.func10, Try.ntmps10
  go_wp2_with fail
  refine (impl_ValidSite _ s xs _ ⟨_, _, rfl, HR.out.alloc _⟩ HS.out).mono ?_
  rintro e w1 ⟨rfl, hb⟩
  have HW := Lib.hid (ext_trans (ext_alloc1 _ _) hb)
  have HP1 := Lib.hid (HP.out.ext hb)
  clear hb HP
  obtain ⟨A1, c1, hc0, hc1, hs1⟩ := HP1.out.st
  have H1 := Lib.hid hs1; clear hs1
  cases hv : vSite s xs with
  | false =>
    have HV := Lib.hid hv; clear hv
    go_wp2_with fail
    go_ret2
    exact ⟨by unfold mHoursIn; rw [HV.out]; rfl, HW.out⟩
  | true =>
    have HV := Lib.hid hv; clear hv
    go_wp2_with fail
    refine (impl_within x 0 y _).mono ?_
    rintro e w2 ⟨rfl, rfl⟩
    cases hi : inB x 0 y with
    | false =>
      have HI : Hid ((inB x 0 s.size && inB y x s.size) = false) := Lib.hid (by
        rw [Bool.and_eq_false_iff, inB_false, inB_false]; have := inB_false.1 hi; omega)
      clear hi
      go_wp2_with fail
      go_ret2
      exact ⟨by unfold mHoursIn; rw [HV.out, HI.out]; rfl, HW.out⟩
    | true =>
      have hi' := inB_iff.1 hi
      clear hi
      go_wp2_with fail
      refine (impl_days _ s xs HM.out _ H1.out).mono ?_
      rintro e w2 ⟨rfl, hb⟩
      have HW2 := Lib.hid (ext_trans HW.out hb)
      have HP2 := Lib.hid (HP1.out.ext hb)
      clear hb hc0 hc1
      by_cases hy : y ≤ s.size
      · have HI : Hid ((inB x 0 s.size && inB y x s.size) = true) := Lib.hid (by
          rw [Bool.and_eq_true, inB_iff, inB_iff]; omega)
        obtain ⟨a, rfl⟩ := Int.eq_ofNat_of_zero_le hi'.1
        obtain ⟨b, rfl⟩ := Int.eq_ofNat_of_zero_le (show 0 ≤ y by omega)
        have hd1 : b ≤ s.size := by omega
        have hd2 : a ≤ b := by omega
        have e4 : (b:Int) ≤ 1048576 := by omega
        have e6 : decide (s.size < b) = false := by simp; omega
        clear hi'
        go_wp2_with fail
        go_loopw [8, 9] (fun t d wr => ∃ k : Nat, a ≤ k ∧ k ≤ b ∧ d = .int .i64 k ∧ t = .int .i64 (hsum s xs a k) ∧ Below w2.heap.size w2 wr) (fun _ d _ => b - (intOf d).toNat)
        case atStart => exact ⟨a, Nat.le_refl _, hd2, rfl, by rw [hsum_self], ext_refl _⟩
        case round =>
          obtain ⟨k, hk1, hk2, rfl, rfl, hbw⟩ := hrel
          have hbd := hsum_bd s xs a k hk1
          have hh := hrs_bd s xs k
          obtain ⟨A2, c2, hc0, hc1, hs1⟩ := (HP2.out.ext hbw).st
          have H2 := Lib.hid hs1; clear hs1
          have HB := Lib.hid hbw; clear hbw
          by_cases hlt : k < b
          · have e5 : (k:Int) < b := by omega
            go_wp2_with fail
            refine (impl_hours _ s xs k (by omega) HS.out.1 _ H2.out).mono ?_
            rintro e w3 ⟨rfl, hb⟩
            have HB3 := Lib.hid (ext_trans HB.out hb)
            clear hb hc0 hc1
            go_wp2_with fail
            go_roundw
            case rel => exact ⟨k + 1, by omega, by omega, by go_num, by rw [hsum_succ s xs hk1], HB3.out⟩
            case measure => simp [intOf]; omega
          · have e5 : ¬ (k:Int) < b := by omega
            go_wp2_with fail
            go_ret2
            have hkn : k = b := by omega
            subst hkn
            exact ⟨by unfold mHoursIn; rw [HV.out, HI.out]; rfl, ext_trans HW2.out HB.out⟩
      · have HI : Hid ((inB x 0 s.size && inB y x s.size) = false) := Lib.hid (by
          rw [Bool.and_eq_false_iff, inB_false, inB_false]; omega)
        have e5 : decide ((s.size : Int) < y) = true := by simp; omega
        go_wp2_with fail
        go_ret2
        exact ⟨by unfold mHoursIn; rw [HV.out, HI.out]; rfl, HW2.out⟩

end Go.Proofs.Ytikiomjgnpdldaa
