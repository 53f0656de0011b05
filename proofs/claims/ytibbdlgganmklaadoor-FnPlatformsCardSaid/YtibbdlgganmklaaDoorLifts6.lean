/-
  Lifts, sixth part: IsLiftPlan, PlanCost.
-/
import Derived.Test.YtibbdlgganmklaaDoorLifts5
namespace Go.Proofs.YtibbdlgganmklaaDoor
open Go.ChangeShapes Go.WideShapes Go.ChangeAt Go.RowKit Go.Sort
set_option linter.unusedVariables false

theorem plan_bd {r : RS} (hv : vRise r = true) {xs : List Int} (hx : SmI xs) (h : isPlan r xs = true) : 0 ≤ psum r xs xs.length ∧ psum r xs xs.length ≤ 1099511627776 := by
  unfold SmI at hx
  unfold isPlan okPlan at h
  simp only [Bool.and_eq_true, rises_split, Bool.not_eq_true'] at h
  have := psum_bd hv h.1.1.1.1 xs.length (Nat.le_refl _) (fun j _ h2 => asc_at h.1.1.1.2 h2)
  omega
theorem pCost_yes {r : RS} {xs : List Int} (h : isPlan r xs = true) : pCost r xs = psum r xs xs.length := by unfold pCost; rw [h]; rfl
theorem pCost_no {r : RS} {xs : List Int} (h : isPlan r xs = false) : pCost r xs = -1 := by unfold pCost; rw [h]; rfl

def mIsLiftPlan (r : RS) (xs : List Int) : Bool × Int := bif vRise r then (isPlan r xs, 0) else (false, 1)
def mPlanCost (r : RS) (xs : List Int) : Int × Int := bif vRise r then (bif isPlan r xs then (psum r xs xs.length, 0) else (0, 6)) else (0, 1)

theorem impl_IsLiftPlan (u : Value) (r : RS) (v : Value) (xs : List Int) (w : World) (hS : SR w u r) (hsm : SmSR r) (hR : RI w v xs) (hx : SmI xs) :
    Calls Tryd.prog 11 #[u, v] w (Ret (.tuple #[.bool (mIsLiftPlan r xs).1, .int .i64 (mIsLiftPlan r xs).2]) w) := by
  obtain ⟨A, c, rfl, hf⟩ := hS
  have HR0 := Lib.hid hf
  have HP := Lib.hid (pr_box (T := 26) hf)
  have HR := Lib.hid (hR.alloc (.cells #[.slice A r.cs.length c, .int .i64 r.reach, .int .i64 r.setup, .int .i64 r.easy] 26))
  have HS := Lib.hid hsm; clear hsm hf hR
  have HX := Lib.hid hx; clear hx
  go_enter Tryd.func11, Tryd.ntmps11
  go_wp2_with fail
  refine (impl_ValidRise _ r _ ⟨_, _, rfl, HR0.out.alloc _⟩ HS.out).mono ?_
  rintro e w1 ⟨rfl, hb⟩
  have HW := Lib.hid (ext_trans (ext_alloc1 _ _) hb)
  have HR1 := Lib.hid (HR.out.ext hb)
  obtain ⟨A1, c1, h0, h1, h2, h3, hs⟩ := (HP.out.ext hb).st
  have H1 := Lib.hid hs
  clear hs hb
  cases hv : vRise r with
  | false =>
    have HV := Lib.hid hv; clear hv
    go_wp2_with fail
    go_ret2
    exact ⟨by unfold mIsLiftPlan; rw [HV.out]; rfl, HW.out⟩
  | true =>
    have HV := Lib.hid hv; clear hv
    go_wp2_with fail
    refine (impl_plan _ r _ xs HS.out HX.out HV.out _ H1.out HR1.out).mono ?_
    rintro e w2 ⟨rfl, hb⟩
    have HW2 := Lib.hid (ext_trans HW.out hb); clear hb
    cases hi : isPlan r xs with
    | false =>
      have HI := Lib.hid hi; clear hi
      simp only [cond_false]
      go_wp2_with fail
      go_ret2
      exact ⟨by unfold mIsLiftPlan; rw [HV.out, HI.out]; rfl, HW2.out⟩
    | true =>
      have HI := Lib.hid hi; clear hi
      simp only [cond_true]
      go_wp2_with fail
      go_ret2
      exact ⟨by unfold mIsLiftPlan; rw [HV.out, HI.out]; rfl, HW2.out⟩
theorem impl_PlanCost (u : Value) (r : RS) (v : Value) (xs : List Int) (w : World) (hS : SR w u r) (hsm : SmSR r) (hR : RI w v xs) (hx : SmI xs) :
    Calls Tryd.prog 24 #[u, v] w (Ret (.tuple #[.int .i64 (mPlanCost r xs).1, .int .i64 (mPlanCost r xs).2]) w) := by
  obtain ⟨A, c, rfl, hf⟩ := hS
  have HR0 := Lib.hid hf
  have HP := Lib.hid (pr_box (T := 26) hf)
  have HR := Lib.hid (hR.alloc (.cells #[.slice A r.cs.length c, .int .i64 r.reach, .int .i64 r.setup, .int .i64 r.easy] 26))
  have HS := Lib.hid hsm; clear hsm hf hR
  have HX := Lib.hid hx; clear hx
  go_enter Tryd.func24, Tryd.ntmps24
  go_wp2_with fail
  refine (impl_ValidRise _ r _ ⟨_, _, rfl, HR0.out.alloc _⟩ HS.out).mono ?_
  rintro e w1 ⟨rfl, hb⟩
  have HW := Lib.hid (ext_trans (ext_alloc1 _ _) hb)
  have HR1 := Lib.hid (HR.out.ext hb)
  obtain ⟨A1, c1, h0, h1, h2, h3, hs⟩ := (HP.out.ext hb).st
  have H1 := Lib.hid hs
  clear hs hb
  cases hv : vRise r with
  | false =>
    have HV := Lib.hid hv; clear hv
    go_wp2_with fail
    go_ret2
    exact ⟨by unfold mPlanCost; rw [HV.out]; rfl, HW.out⟩
  | true =>
    have HV := Lib.hid hv; clear hv
    go_wp2_with fail
    refine (impl_plan _ r _ xs HS.out HX.out HV.out _ H1.out HR1.out).mono ?_
    rintro e w2 ⟨rfl, hb⟩
    have HW2 := Lib.hid (ext_trans HW.out hb); clear hb
    cases hi : isPlan r xs with
    | false =>
      have HI := Lib.hid hi; clear hi
      simp only [cond_false]
      go_wp2_with fail
      go_ret2
      exact ⟨by unfold mPlanCost; rw [HV.out, HI.out]; rfl, HW2.out⟩
    | true =>
      have HI := Lib.hid hi; clear hi
      simp only [cond_true]
      go_wp2_with fail
      go_ret2
      exact ⟨by unfold mPlanCost; rw [HV.out, HI.out]; rfl, HW2.out⟩

end Go.Proofs.YtibbdlgganmklaaDoor
