/-
  Days at the site, seventh part: LongestStop.
-/
import Derived.Test.YtikiomjgnpdldaaDays6
namespace Go.Proofs.Ytikiomjgnpdldaa
open Go.ChangeShapes Go.WideShapes Go.ChangeAt Go.RowKit Go.Sort

/-- The longest stop before day k, and the one that lasts. -/
def stopTo (s : ByteArray) (xs : List Int) : Nat → Int × Int
  | 0 => (0, 0)
  | k + 1 => (maxI (stopTo s xs k).1 (bif decide (0 < hrs s xs k) then 0 else (stopTo s xs k).2 + 1), bif decide (0 < hrs s xs k) then 0 else (stopTo s xs k).2 + 1)
theorem stopTo_bd (s : ByteArray) (xs : List Int) (k : Nat) : 0 ≤ (stopTo s xs k).1 ∧ (stopTo s xs k).1 ≤ k ∧ 0 ≤ (stopTo s xs k).2 ∧ (stopTo s xs k).2 ≤ k := by
  induction k with
  | zero => simp [stopTo]
  | succ k ih =>
    unfold stopTo
    cases decide (0 < hrs s xs k) <;> simp only [cond_true, cond_false, maxI] <;> (split <;> omega)
theorem stopTo_hit {s : ByteArray} {xs : List Int} {k : Nat} (h : 0 < hrs s xs k) : stopTo s xs (k + 1) = (maxI (stopTo s xs k).1 0, 0) := by
  rw [stopTo]; simp [h]
theorem stopTo_not {s : ByteArray} {xs : List Int} {k : Nat} (h : ¬ 0 < hrs s xs k) : stopTo s xs (k + 1) = (maxI (stopTo s xs k).1 ((stopTo s xs k).2 + 1), (stopTo s xs k).2 + 1) := by
  rw [stopTo]; simp [h]
def mLongestStop (s : ByteArray) (xs : List Int) : Int × Int := bif vSite s xs then ((stopTo s xs s.size).1, 0) else (0, 1)

set_option maxHeartbeats 800000 in
theorem spec_LongestStop (v : Value) (s : ByteArray) (xs : List Int) (w : World) (hR : ST w v s xs) (hsm : SmST s xs) :
    Calls Try.prog 16 #[v] w (Ret (.tuple #[.int .i64 (mLongestStop s xs).1, .int .i64 (mLongestStop s xs).2]) w) := by
  obtain ⟨A, c, rfl, hR⟩ := hR
  have HP := Lib.hid (ps_box (T := 26) (s := s) hR)
  have e3 : (s.size:Int) ≤ 1048576 := by have := hsm.1; omega
  have HS := Lib.hid hsm.1; clear hsm hR
  go_enter Try.func16, Try.ntmps16
  go_wp2_with fail
  refine (spec_ok _ s xs (by unfold maxLen; omega) _ HP.out).mono ?_
  rintro e w1 ⟨rfl, hb⟩
  have HW := Lib.hid (ext_trans (ext_alloc1 _ _) hb)
  have HP1 := Lib.hid (HP.out.ext hb)
  clear hb
  cases hv : vSite s xs with
  | false =>
    have HV := Lib.hid hv; clear hv
    go_wp2_with fail
    go_ret2
    exact ⟨by unfold mLongestStop; rw [HV.out]; rfl, HW.out⟩
  | true =>
    have HV := Lib.hid hv; clear hv
    obtain ⟨hc0, hrest⟩ := id HP1.out
    clear hrest
    go_wp2_with fail
    go_loop [4, 5, 6] (fun m n d => ∃ k : Nat, k ≤ s.size ∧ d = .int .i64 k ∧ m = .int .i64 (stopTo s xs k).1 ∧ n = .int .i64 (stopTo s xs k).2) (fun _ _ d => s.size - (intOf d).toNat)
    case atStart => exact ⟨0, Nat.zero_le _, rfl, rfl, rfl⟩
    case round =>
      obtain ⟨k, hk, rfl, rfl, rfl⟩ := hrel
      have hbd := stopTo_bd s xs k
      by_cases hlt : k < s.size
      · have e5 : (k:Int) < s.size := by omega
        have hh := hrs_bd s xs k
        go_wp2_with fail
        refine (spec_hours _ s xs k hlt HS.out _ HP1.out).mono ?_
        rintro e w2 ⟨rfl, rfl⟩
        by_cases hq : 0 < hrs s xs k
        · have HQ := Lib.hid (stopTo_hit hq)
          go_wp2_with fail
          refine (spec_max _ _ _).mono ?_
          rintro e w2 ⟨rfl, rfl⟩
          go_wp2_with fail
          go_round
          case rel => exact ⟨k + 1, by omega, by go_num, by rw [HQ.out], by rw [HQ.out]⟩
          case measure => simp [intOf]; omega
        · have HQ := Lib.hid (stopTo_not hq)
          go_wp2_with fail
          refine (spec_max _ _ _).mono ?_
          rintro e w2 ⟨rfl, rfl⟩
          go_wp2_with fail
          go_round
          case rel => exact ⟨k + 1, by omega, by go_num, by rw [HQ.out], by rw [HQ.out]⟩
          case measure => simp [intOf]; omega
      · have e5 : ¬ (k:Int) < s.size := by omega
        go_wp2_with fail
        go_ret2
        have hkn : k = s.size := by omega
        subst hkn
        exact ⟨by unfold mLongestStop; rw [HV.out]; rfl, HW.out⟩

set_option maxHeartbeats 800000 in
theorem impl_LongestStop (v : Value) (s : ByteArray) (xs : List Int) (w : World) (hR : ST w v s xs) (hsm : SmST s xs) :
    Calls Try.prog 15 #[v] w (Ret (.tuple #[.int .i64 (mLongestStop s xs).1, .int .i64 (mLongestStop s xs).2]) w) := by
  obtain ⟨A, c, rfl, hR⟩ := hR
  have HP := Lib.hid (ps_box (T := 26) (s := s) hR)
  have HR := Lib.hid hR; clear hR
  have e3 : (s.size:Int) ≤ 1048576 := by have := hsm.1; omega
  have HX : Hid (s.size ≤ maxLen) := Lib.hid (by unfold maxLen; omega)
  have HS := Lib.hid hsm; clear hsm
  go_enter Try.func15, Try.ntmps15
  go_wp2_with fail
  refine (impl_ValidSite _ s xs _ ⟨_, _, rfl, HR.out.alloc _⟩ HS.out).mono ?_
  rintro e w1 ⟨rfl, hb⟩
  have HW := Lib.hid (ext_trans (ext_alloc1 _ _) hb)
  have HP1 := Lib.hid (HP.out.ext hb)
  clear hb HP
  obtain ⟨A1, c1, hc0, hc1, hs1⟩ := HP1.out.st
  have H1 := Lib.hid hs1; clear hs1
  cases hv : vSite s xs with
  | false =>
    have HV := Lib.hid hv; clear hv
    go_wp2_with fail
    go_ret2
    exact ⟨by unfold mLongestStop; rw [HV.out]; rfl, HW.out⟩
  | true =>
    have HV := Lib.hid hv; clear hv
    go_wp2_with fail
    refine (impl_days _ s xs HX.out _ H1.out).mono ?_
    rintro e w2 ⟨rfl, hb⟩
    have HW2 := Lib.hid (ext_trans HW.out hb)
    have HP2 := Lib.hid (HP1.out.ext hb)
    clear hb hc0 hc1
    go_wp2_with fail
    go_loopw [4, 5, 12] (fun m n d wr => ∃ k : Nat, k ≤ s.size ∧ d = .int .i64 k ∧ m = .int .i64 (stopTo s xs k).1 ∧ n = .int .i64 (stopTo s xs k).2 ∧ Below w2.heap.size w2 wr) (fun _ _ d _ => s.size - (intOf d).toNat)
    case atStart => exact ⟨0, Nat.zero_le _, rfl, rfl, rfl, ext_refl _⟩
    case round =>
      obtain ⟨k, hk, rfl, rfl, rfl, hbw⟩ := hrel
      have hbd := stopTo_bd s xs k
      obtain ⟨A3, c3, hc0, hc1, hs1⟩ := (HP2.out.ext hbw).st
      have H3 := Lib.hid hs1; clear hs1
      have HB := Lib.hid hbw; clear hbw
      by_cases hlt : k < s.size
      · have e5 : (k:Int) < s.size := by omega
        have hh := hrs_bd s xs k
        go_wp2_with fail
        refine (impl_hours _ s xs k (by omega) HS.out.1 _ H3.out).mono ?_
        rintro e w3 ⟨rfl, hb⟩
        have HB3 := Lib.hid (ext_trans HB.out hb)
        clear hb hc0 hc1
        by_cases hq : 0 < hrs s xs k
        · have HQ := Lib.hid (stopTo_hit hq)
          go_wp2_with fail
          go_roundw
          case rel => exact ⟨k + 1, by omega, by go_num, by rw [HQ.out, maxI_eq], by rw [HQ.out], HB3.out⟩
          case measure => simp [intOf]; omega
        · have HQ := Lib.hid (stopTo_not hq)
          go_wp2_with fail
          go_roundw
          case rel => exact ⟨k + 1, by omega, by go_num, by rw [HQ.out, maxI_eq], by rw [HQ.out], HB3.out⟩
          case measure => simp [intOf]; omega
      · have e5 : ¬ (k:Int) < s.size := by omega
        go_wp2_with fail
        go_ret2
        have hkn : k = s.size := by omega
        subst hkn
        exact ⟨by unfold mLongestStop; rw [HV.out]; rfl, ext_trans HW2.out HB.out⟩

end Go.Proofs.Ytikiomjgnpdldaa
