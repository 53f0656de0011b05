/-
  Lifts, fourth part: LiftCost.
-/
import Derived.Test.YtahcdofikfookaaLifts3
namespace Go.Proofs.Ytahcdofikfookaa
open Go.ChangeShapes Go.WideShapes Go.ChangeAt Go.RowKit Go.Sort
set_option linter.unusedVariables false

def mLiftCost (r : RS) (a b : Int) : Int × Int := bif vRise r then (bif inB b 1 r.cs.length && inB a 0 (b - 1) then (bif fits r a.toNat b.toNat then (cost r a.toNat b.toNat, 0) else (0, 6)) else (0, 2)) else (0, 1)

set_option maxHeartbeats 800000 in
theorem spec_LiftCost (v : Value) (r : RS) (a b : Int) (w : World) (hR : SR w v r) (hsm : SmSR r) :
    Calls Try.prog 31 #[v, .int .i64 a, .int .i64 b] w (Ret (.tuple #[.int .i64 (mLiftCost r a b).1, .int .i64 (mLiftCost r a b).2]) w) := by
  obtain ⟨A, c, rfl, hf⟩ := hR
  have HP := Lib.hid (pr_box (T := 27) hf)
  obtain ⟨A1, c1, h0, h1, h2, h3, hs⟩ := HP.out.st
  have e0 : (r.cs.length : Int) ≤ 1048576 := by have : r.cs.length ≤ 1048576 := hsm; omega
  clear hs hf h1 h2 h3
  have HS := Lib.hid hsm; clear hsm
  go_enter Try.func31, Try.ntmps31
  go_wp2_with fail
  refine (spec_okR _ r HS.out _ HP.out).mono ?_
  rintro e w1 ⟨rfl, rfl⟩
  cases hv : vRise r with
  | false =>
    have HV := Lib.hid hv; clear hv
    go_wp2_with fail
    go_ret2
    exact ⟨by unfold mLiftCost; rw [HV.out]; rfl, ext_alloc1 _ _⟩
  | true =>
    have HV := Lib.hid hv; clear hv
    go_wp2_with fail
    refine (spec_in b 1 r.cs.length _).mono ?_
    rintro e w2 ⟨rfl, rfl⟩
    cases hi : inB b 1 r.cs.length with
    | false =>
      have HI := Lib.hid hi; clear hi
      go_wp2_with fail
      go_ret2
      exact ⟨by unfold mLiftCost; rw [HV.out, HI.out]; rfl, ext_alloc1 _ _⟩
    | true =>
      have hk := inB_iff.1 hi
      have HI := Lib.hid hi; clear hi
      go_wp2_with fail
      refine (spec_in a 0 (b - 1) _).mono ?_
      rintro e w2 ⟨rfl, rfl⟩
      cases hi : inB a 0 (b - 1) with
      | false =>
        have HI2 := Lib.hid hi; clear hi
        go_wp2_with fail
        go_ret2
        exact ⟨by unfold mLiftCost; rw [HV.out, HI.out, HI2.out]; rfl, ext_alloc1 _ _⟩
      | true =>
        have ha := inB_iff.1 hi
        have HI2 := Lib.hid hi; clear hi
        obtain ⟨a, rfl⟩ := Int.eq_ofNat_of_zero_le ha.1
        obtain ⟨b, rfl⟩ := Int.eq_ofNat_of_zero_le (show 0 ≤ b by omega)
        go_wp2_with fail
        have hcb := cost_bd r HV.out (a := a) (b := b) (by omega) (by omega)
        refine (spec_cost _ r a b (by omega) (by omega) HV.out _ HP.out).mono ?_
        rintro e w2 ⟨rfl, hb⟩
        have HW := Lib.hid (ext_trans (ext_alloc1 _ _) hb); clear hb
        cases hf : fits r a b with
        | false =>
          have e1 : costS r a b = -1 := by unfold costS; rw [hf]; rfl
          have HF := Lib.hid hf; clear hf
          rw [e1]; clear e1
          go_wp2_with fail
          go_ret2
          exact ⟨by unfold mLiftCost; rw [HV.out, HI.out, HI2.out]; simp only [cond_true, Bool.true_and, Int.toNat_natCast]; rw [HF.out]; rfl, HW.out⟩
        | true =>
          have e1 : costS r a b = cost r a b := by unfold costS; rw [hf]; rfl
          have HF := Lib.hid hf; clear hf
          rw [e1]; clear e1
          have e2 : decide (cost r a b < 0) = false := by simp; omega
          go_wp2_with fail
          go_ret2
          exact ⟨by unfold mLiftCost; rw [HV.out, HI.out, HI2.out]; simp only [cond_true, Bool.true_and, Int.toNat_natCast]; rw [HF.out]; rfl, HW.out⟩

set_option maxHeartbeats 800000 in
theorem impl_LiftCost (v : Value) (r : RS) (a b : Int) (w : World) (hR : SR w v r) (hsm : SmSR r) :
    Calls Try.prog 26 #[v, .int .i64 a, .int .i64 b] w (Ret (.tuple #[.int .i64 (mLiftCost r a b).1, .int .i64 (mLiftCost r a b).2]) w) := by
  obtain ⟨A, c, rfl, hf⟩ := hR
  have HP := Lib.hid (pr_box (T := 27) hf)
  have HR := Lib.hid hf
  have e0 : (r.cs.length : Int) ≤ 1048576 := by have : r.cs.length ≤ 1048576 := hsm; omega
  clear hf
  have HS := Lib.hid hsm; clear hsm
  go_enter Try.func26, Try.ntmps26
  go_wp2_with fail
  refine (impl_ValidRise _ r _ ⟨_, _, rfl, HR.out.alloc _⟩ HS.out).mono ?_
  rintro e w1 ⟨rfl, hb⟩
  have HW := Lib.hid (ext_trans (ext_alloc1 _ _) hb)
  have HP1 := Lib.hid (HP.out.ext hb)
  obtain ⟨A1, c1, h0, h1, h2, h3, hs⟩ := HP1.out.st
  have H1 := Lib.hid hs
  clear hs hb
  cases hv : vRise r with
  | false =>
    have HV := Lib.hid hv; clear hv
    go_wp2_with fail
    go_ret2
    exact ⟨by unfold mLiftCost; rw [HV.out]; rfl, HW.out⟩
  | true =>
    have HV := Lib.hid hv; clear hv
    go_wp2_with fail
    refine (impl_within b 1 r.cs.length _).mono ?_
    rintro e w2 ⟨rfl, rfl⟩
    cases hi : inB b 1 r.cs.length with
    | false =>
      have HI := Lib.hid hi; clear hi
      go_wp2_with fail
      go_ret2
      exact ⟨by unfold mLiftCost; rw [HV.out, HI.out]; rfl, HW.out⟩
    | true =>
      have hk := inB_iff.1 hi
      have HI := Lib.hid hi; clear hi
      go_wp2_with fail
      refine (impl_within a 0 (b - 1) _).mono ?_
      rintro e w2 ⟨rfl, rfl⟩
      cases hi : inB a 0 (b - 1) with
      | false =>
        have HI2 := Lib.hid hi; clear hi
        go_wp2_with fail
        go_ret2
        exact ⟨by unfold mLiftCost; rw [HV.out, HI.out, HI2.out]; rfl, HW.out⟩
      | true =>
        have ha := inB_iff.1 hi
        have HI2 := Lib.hid hi; clear hi
        obtain ⟨a, rfl⟩ := Int.eq_ofNat_of_zero_le ha.1
        obtain ⟨b, rfl⟩ := Int.eq_ofNat_of_zero_le (show 0 ≤ b by omega)
        go_wp2_with fail
        refine (impl_cost _ r a b (by omega) (by omega) HV.out _ H1.out).mono ?_
        rintro e w2 ⟨rfl, hb⟩
        have HW2 := Lib.hid (ext_trans HW.out hb); clear hb
        cases hf : fits r a b with
        | false =>
          have HF := Lib.hid hf; clear hf
          go_wp2_with fail
          go_ret2
          exact ⟨by unfold mLiftCost; rw [HV.out, HI.out, HI2.out]; simp only [cond_true, Bool.true_and, Int.toNat_natCast]; rw [HF.out]; rfl, HW2.out⟩
        | true =>
          have HF := Lib.hid hf; clear hf
          go_wp2_with fail
          go_ret2
          exact ⟨by unfold mLiftCost; rw [HV.out, HI.out, HI2.out]; simp only [cond_true, Bool.true_and, Int.toNat_natCast]; rw [HF.out]; rfl, HW2.out⟩

end Go.Proofs.Ytahcdofikfookaa
