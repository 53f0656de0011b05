/-
  Lifts, seventh part: PlatformHeights.
-/
import Derived.Test.YtibbdlgganmklaaDoorLifts6
import Derived.Test.YtibbdlgganmklaaDoorApp
namespace Go.Proofs.YtibbdlgganmklaaDoor
open Go.ChangeShapes Go.WideShapes Go.ChangeAt Go.RowKit Go.Sort
set_option linter.unusedVariables false

/-- The heights of the first k platforms. -/
def phTo (r : RS) (xs : List Int) (k : Nat) : List Int := (List.range k).map fun i => hgt r 0 (pl xs i)
theorem phTo_len (r : RS) (xs : List Int) (k : Nat) : (phTo r xs k).length = k := by simp [phTo]
theorem phTo_succ (r : RS) (xs : List Int) (k : Nat) : phTo r xs (k + 1) = phTo r xs k ++ [hgt r 0 (pl xs k)] := by simp [phTo, List.range_succ]
def mPlatformHeights (r : RS) (xs : List Int) : List Int × Int := bif vRise r then (bif isPlan r xs then (phTo r xs xs.length, 0) else ([], 6)) else ([], 1)

/-- The result of a function that returns numbers and a code. -/
def RetI (M : List Int) (code : Int) (w : World) : Ending → World → Prop := fun e w' => ∃ v, e = .returned (.tuple #[v, .int .i64 code]) ∧ OI w' w.heap.size v M ∧ SmI M ∧ Below w.heap.size w w'
theorem oi_nil (w : World) (B : Nat) : OI w B (.slice none 0 0) [] := World.ownsRow_nil _ _ _ _
theorem oi_lit (w : World) (B : Nat) (h : B ≤ w.heap.size) : OI (w.alloc (.cells #[] 2)) B (.slice (some ⟨w.heap.size, 0, none⟩) 0 0) [] :=
  World.ownsRow_lit _ #[] 0 h (by simp [maxLen]) (by simp)
theorem RI.take {w : World} {ad : Addr} {n c : Nat} {xs : List Int} (h : RI w (.slice (some ad) n c) xs) (hx : 0 < xs.length) {b : Nat} (hb : b ≤ xs.length) : RI w (.slice (some ad) b c) ((xs.drop 0).take (b - 0)) := by
  have := h.sub hx (Nat.zero_le b) hb
  rw [Addr.add_zero'] at this
  exact this

theorem plan_out {r : RS} {xs : List Int} (h : isPlan r xs = true) : outB xs 0 ((r.cs.length : Int) - 1) = false := by
  unfold isPlan okPlan at h
  simp only [Bool.and_eq_true, rises_split, Bool.not_eq_true'] at h
  exact h.1.1.1.1

set_option maxHeartbeats 1600000 in
theorem impl_PlatformHeights (u : Value) (r : RS) (v : Value) (xs : List Int) (w : World) (hS : SR w u r) (hsm : SmSR r) (hR : RI w v xs) (hx : SmI xs) :
    Calls Tryd.prog 10 #[u, v] w (RetI (mPlatformHeights r xs).1 (mPlatformHeights r xs).2 w) := by
  obtain ⟨A, c, rfl, hf⟩ := hS
  have HR0 := Lib.hid hf
  have HP := Lib.hid (pr_box (T := 26) hf)
  have HR := Lib.hid (hR.alloc (.cells #[.slice A r.cs.length c, .int .i64 r.reach, .int .i64 r.setup, .int .i64 r.easy] 26))
  have HS := Lib.hid hsm; clear hsm hf
  obtain ⟨Ax, cx, rfl, hc1, hc2, _⟩ := hR.open2
  clear hR
  unfold maxLen at hc2
  have HX := Lib.hid hx
  have e0 : (xs.length : Int) ≤ 1048576 := by unfold SmI at hx; omega
  clear hx
  go_enter Tryd.func10, Tryd.ntmps10
  go_wp2_with fail
  refine (impl_PlanCost _ r _ xs _ ⟨_, _, rfl, HR0.out.alloc _⟩ HS.out HR.out HX.out).mono ?_
  rintro e w1 ⟨rfl, hb⟩
  have HW := Lib.hid (ext_trans (ext_alloc1 _ _) hb)
  have HP1 := Lib.hid (HP.out.ext hb)
  have HR1 := Lib.hid (HR.out.ext hb)
  clear hb
  cases hv : vRise r with
  | false =>
    have HM : Hid (mPlatformHeights r xs = ([], 1)) := Lib.hid (by unfold mPlatformHeights; rw [hv]; rfl)
    have e1 : mPlanCost r xs = (0, 1) := by unfold mPlanCost; rw [hv]; rfl
    rw [e1]
    clear hv e1
    go_wp2_with fail
    go_ret2
    rw [HM.out]
    exact ⟨_, rfl, oi_nil _ _, by simp [SmI], HW.out⟩
  | true =>
    have HV := Lib.hid hv; clear hv
    cases hi : isPlan r xs with
    | false =>
      have HM : Hid (mPlatformHeights r xs = ([], 6)) := Lib.hid (by unfold mPlatformHeights; rw [HV.out, hi]; rfl)
      have e1 : mPlanCost r xs = (0, 6) := by unfold mPlanCost; rw [HV.out, hi]; rfl
      rw [e1]
      clear hi e1
      go_wp2_with fail
      go_ret2
      rw [HM.out]
      exact ⟨_, rfl, oi_nil _ _, by simp [SmI], HW.out⟩
    | true =>
      have HO := Lib.hid (plan_out hi)
      have HM : Hid (mPlatformHeights r xs = (phTo r xs xs.length, 0)) := Lib.hid (by unfold mPlatformHeights; rw [HV.out, hi]; rfl)
      have e1 : mPlanCost r xs = (psum r xs xs.length, 0) := by unfold mPlanCost; rw [HV.out, hi]; rfl
      rw [e1]
      clear hi e1
      go_wp2_with fail
      go_loopw [8, 23] (fun o d wr => ∃ k : Nat, k ≤ xs.length ∧ d = .int .i64 k ∧ ∃ A c, o = .slice A (phTo r xs k).length c ∧ OI wr w1.heap.size (.slice A (phTo r xs k).length c) (phTo r xs k) ∧ Below w1.heap.size w1 wr) (fun _ d _ => xs.length - (intOf d).toNat)
      case atStart => exact ⟨0, Nat.zero_le _, rfl, some ⟨w1.heap.size, 0, none⟩, 0, rfl, oi_lit w1 _ (Nat.le_refl _), ext_alloc1 _ _⟩
      case round =>
        obtain ⟨k, hk, rfl, A1, c1, rfl, hOw, hbw⟩ := hrel
        have HLN := Lib.hid (phTo_len r xs k)
        have hPw := HP1.out.ext hbw
        have HRw := Lib.hid (HR1.out.ext hbw)
        have HB := Lib.hid hbw
        have HOw := Lib.hid hOw
        have hsz := hbw.size
        clear hbw hOw
        by_cases hlt : k < xs.length
        · have e5 : (k:Int) < xs.length := by omega
          have e6 : (0:Int) ≤ k := by omega
          obtain ⟨ad, rfl, hbd, hca⟩ := HRw.out.at2 hlt
          have hck := hca k hlt
          obtain ⟨hpk, hpn⟩ := pl_bd HO.out hlt
          rw [hpk] at hck
          clear hca hbd hpk
          have hvv := vRise_iff.1 HV.out
          obtain ⟨⟨A2, c2, h0, hRI⟩, hrest⟩ := hPw
          clear hrest
          obtain ⟨ad2, rfl, _, _⟩ := hRI.at2 (show 0 < r.cs.length by omega)
          have hcap : r.cs.length ≤ c2 ∧ c2 ≤ maxLen := by
            obtain ⟨_, A', c', hv2, hcp, hcm, _⟩ := id hRI
            injection hv2 with j1 j2 j3
            exact ⟨by omega, by omega⟩
          unfold maxLen at hcap
          have e7 : (pl xs k : Int) ≤ c2 := by omega
          have e8 : (0 : Int) ≤ (pl xs k : Int) := by omega
          have HSUM : Hid (Calls Tryd.prog 25 #[.slice (some ad2) (pl xs k) c2] wr (RetP (.int .i64 (hgt r 0 (pl xs k))) wr)) := Lib.hid (by
            rw [← hgt_sub r (a := 0) (b := pl xs k) (by omega)]
            exact impl_sumOf _ _ (sub_bd hvv.1) (by simp; omega) _ (hRI.take (by omega) (by omega)))
          have HSU := Lib.hid (phTo_succ r xs k)
          clear hvv hRI
          go_wp2_with fail
          refine (show Calls _ _ _ _ _ from HSUM.out).mono ?_
          rintro e w2 ⟨rfl, rfl⟩
          go_wp2_with (at_builtin; refine wpList_append_i rfl _ _ rfl w1.heap.size (.slice A1 (phTo r xs k).length c1) (phTo r xs k) (hgt r 0 (pl xs k)) rfl rfl HOw.out (by rw [HLN.out]; omega) hsz ?_; intro g c2 w3 hO1 hg1 hlt1)
          go_roundw
          case rel =>
            refine ⟨k + 1, by omega, by go_num, some ⟨g, 0, none⟩, c2, by rw [HSU.out, List.length_append]; rfl, by rw [HSU.out, List.length_append]; exact hO1, Chg.ext HB.out hg1 fun j hj => ?_⟩
            exact (HOw.out.ge j hj).1
          case measure => simp [intOf]; omega
        · have e5 : ¬ (k:Int) < xs.length := by omega
          have hkn : k = xs.length := by omega
          subst hkn
          go_wp2_with fail
          go_ret2
          rw [HM.out]
          exact ⟨_, rfl, HOw.out.mono (HW.out.size), by show (phTo r xs xs.length).length ≤ _; rw [HLN.out]; exact HX.out, ext_trans HW.out HB.out⟩

end Go.Proofs.YtibbdlgganmklaaDoor
