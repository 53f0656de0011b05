/-
  Lifts, fifth part: the cost of a plan.
-/
import Derived.Test.YtibbdlgganmklaaDoorLifts4
namespace Go.Proofs.YtibbdlgganmklaaDoor
open Go.ChangeShapes Go.WideShapes Go.ChangeAt Go.RowKit Go.Sort
set_option linter.unusedVariables false

/-- Do the first k numbers rise? -/
def asc (xs : List Int) (k : Nat) : Bool := (List.range k).all fun i => i == 0 || decide (xs.getD (i - 1) 0 < xs.getD i 0)
theorem asc_succ (xs : List Int) (k : Nat) : asc xs (k + 1) = (asc xs k && (k == 0 || decide (xs.getD (k - 1) 0 < xs.getD k 0))) := by
  simp [asc, List.range_succ]
theorem asc_no {xs : List Int} {k n : Nat} (hk : k < n) (h0 : k ≠ 0) (h : ¬ xs.getD (k - 1) 0 < xs.getD k 0) : asc xs n = false := by
  unfold asc
  rw [List.all_eq_false]
  exact ⟨k, by simpa using hk, by simp [h0]; simpa using h⟩
theorem asc_at {xs : List Int} {n k : Nat} (h : asc xs n = true) (hk : k + 1 < n) : gi xs k < gi xs (k + 1) := by
  unfold asc at h
  rw [List.all_eq_true] at h
  have := h (k + 1) (by simpa using hk)
  simpa [gi] using this
theorem rises_split (xs : List Int) (lo hi : Int) : risesB xs lo hi = (!outB xs lo hi && asc xs xs.length) := by
  rw [Bool.eq_iff_iff]
  simp only [risesB, rises, outB, asc, Bool.and_eq_true, Bool.not_eq_true', List.all_eq_true, List.any_eq_false, List.mem_range, Bool.not_eq_false]
  constructor
  · intro h
    refine ⟨fun x hx => ?_, fun i hi => (h i hi).2⟩
    obtain ⟨i, hi, rfl⟩ := List.getElem_of_mem hx
    have := (h i hi).1
    rw [List.getD_eq_getElem?_getD, List.getElem?_eq_getElem hi] at this
    exact this
  · rintro ⟨h1, h2⟩ i hi
    refine ⟨?_, h2 i hi⟩
    rw [List.getD_eq_getElem?_getD, List.getElem?_eq_getElem hi]
    exact h1 _ (List.getElem_mem hi)

theorem add_succ' (a : Addr) (n : Nat) : a.add (n + 1) = ⟨a.block, a.off + (n + 1), none⟩ := by simp [Addr.add]

/-- Where lift i begins and ends. -/
def pl (xs : List Int) (i : Nat) : Nat := (gi xs i).toNat
def ends (r : RS) (xs : List Int) (i : Nat) : Nat := if i + 1 < xs.length then pl xs (i + 1) else r.cs.length
def okPlan (r : RS) (xs : List Int) : Bool := risesB xs 0 ((r.cs.length : Int) - 1) && !(xs.length == 0) && (gi xs 0 == 0)
def allFit (r : RS) (xs : List Int) (k : Nat) : Bool := (List.range k).all fun i => fits r (pl xs i) (ends r xs i)
theorem allFit_succ (r : RS) (xs : List Int) (k : Nat) : allFit r xs (k + 1) = (allFit r xs k && fits r (pl xs k) (ends r xs k)) := by simp [allFit, List.range_succ]
theorem allFit_no {r : RS} {xs : List Int} {k n : Nat} (hk : k < n) (h : fits r (pl xs k) (ends r xs k) = false) : allFit r xs n = false := by
  unfold allFit
  rw [List.all_eq_false]
  exact ⟨k, by simpa using hk, by simp [h]⟩
def psum (r : RS) (xs : List Int) (k : Nat) : Int := ((List.range k).map fun i => cost r (pl xs i) (ends r xs i)).sum
theorem psum_succ (r : RS) (xs : List Int) (k : Nat) : psum r xs (k + 1) = psum r xs k + cost r (pl xs k) (ends r xs k) := by simp [psum, List.range_succ]
/-- What a plan costs; -1 if it is none. -/
def isPlan (r : RS) (xs : List Int) : Bool := okPlan r xs && allFit r xs xs.length
def pCost (r : RS) (xs : List Int) : Int := bif isPlan r xs then psum r xs xs.length else -1

theorem pl_bd {r : RS} {xs : List Int} (h : outB xs 0 ((r.cs.length : Int) - 1) = false) {k : Nat} (hk : k < xs.length) : gi xs k = (pl xs k : Int) ∧ pl xs k < r.cs.length := by
  have := in_of_out h hk
  unfold pl; omega
theorem pl_le {r : RS} {xs : List Int} (h : outB xs 0 ((r.cs.length : Int) - 1) = false) {k : Nat} (hk : k < xs.length) (hlt : k + 1 < xs.length → gi xs k < gi xs (k + 1)) : pl xs k ≤ ends r xs k ∧ ends r xs k ≤ r.cs.length ∧ pl xs k < ends r xs k := by
  have h1 := pl_bd h hk
  unfold ends
  split
  · rename_i hk2
    have h2 := pl_bd h hk2
    have := hlt hk2
    omega
  · omega
theorem psum_bd {r : RS} (hv : vRise r = true) {xs : List Int} (h : outB xs 0 ((r.cs.length : Int) - 1) = false) : ∀ k, k ≤ xs.length → (∀ j, j < k → j + 1 < xs.length → gi xs j < gi xs (j + 1)) → 0 ≤ psum r xs k ∧ psum r xs k ≤ 410000 * (k : Int) := by
  intro k
  induction k with
  | zero => intro _ _; simp [psum]
  | succ k ih =>
    intro hk ha
    have h1 := ih (by omega) (fun j hj => ha j (by omega))
    have h2 := pl_le h (k := k) (by omega) (ha k (by omega))
    have h3 := cost_bd r hv h2.1 h2.2.1
    rw [psum_succ]
    omega

theorem isPlan_out {r : RS} {xs : List Int} (h : outB xs 0 ((r.cs.length : Int) - 1) = true) : isPlan r xs = false := by
  unfold isPlan okPlan; rw [rises_split, h]; rfl
theorem isPlan_asc {r : RS} {xs : List Int} {k : Nat} (hk : k + 1 < xs.length) (h : ¬ gi xs k < gi xs (k + 1)) : isPlan r xs = false := by
  unfold isPlan okPlan; rw [rises_split, asc_no (k := k + 1) hk (by omega) (by simpa [gi] using h)]; simp

set_option maxHeartbeats 1600000 in
theorem impl_plan (u : Value) (r : RS) (v : Value) (xs : List Int) (hsm : SmSR r) (hx : SmI xs) (hv : vRise r = true) (w : World) (hS : SR w u r) (hR : RI w v xs) :
    Calls Tryd.prog 26 #[u, v] w (Ret (.tuple #[.int .i64 (bif isPlan r xs then psum r xs xs.length else 0), .bool (isPlan r xs)]) w) := by
  unfold SmI at hx
  obtain ⟨g1, g2, g3, g4, g5⟩ := vRise_iff.1 hv
  have HV := Lib.hid hv; clear hv g1
  obtain ⟨A0, c0, rfl, hf⟩ := hS
  have HP := Lib.hid (pr_box (T := 26) hf)
  have HR := Lib.hid (hR.alloc (.cells #[.slice A0 r.cs.length c0, .int .i64 r.reach, .int .i64 r.setup, .int .i64 r.easy] 26))
  clear hf
  obtain ⟨A, c, rfl, hc1, hc2, HA'⟩ := hR.open2
  unfold maxLen at hc2
  clear HA' hR
  have e0 : (xs.length : Int) ≤ 1048576 := by omega
  by_cases hl : xs.length = 0
  · have HK : Hid (isPlan r xs = false) := Lib.hid (by unfold isPlan okPlan; rw [show (xs.length == 0) = true by simpa using hl]; simp)
    have hl4 : ((xs.length : Int) == 0) = true := by rw [beq_iff_eq]; omega
    clear hl
    go_enter Tryd.func26, Tryd.ntmps26
    go_wp2_with fail
    go_ret2
    exact ⟨by rw [HK.out]; rfl, ext_alloc1 _ _⟩
  · have HL : Hid ((xs.length == 0) = false) := Lib.hid (by simpa using hl)
    have hl3 : (0 : Int) < xs.length := by omega
    have hl4 : ((xs.length : Int) == 0) = false := by rw [beq_eq_false_iff_ne]; omega
    obtain ⟨ad, rfl, hbd, hca⟩ := HR.out.at2 (show 0 < xs.length by omega)
    have hca0 := hca 0 (by omega)
    rw [Addr.add_zero'] at hca0
    clear hca hbd hl
    by_cases hz : gi xs 0 = 0
    · have HZ : Hid ((gi xs 0 == 0) = true) := Lib.hid (by simpa using hz)
      rw [hz] at hca0
      clear hz
      go_enter Tryd.func26, Tryd.ntmps26
      go_wp2_with fail
      clear hca0
      refine (impl_outside _ xs 0 ((r.cs.length : Int) - 1) _ HR.out).mono ?_
      rintro e w1 ⟨rfl, hb⟩
      have HW := Lib.hid (ext_trans (ext_alloc1 _ _) hb)
      have HP1 := Lib.hid (HP.out.ext hb)
      have HR1 := Lib.hid (HR.out.ext hb)
      clear hb
      cases ho : outB xs 0 ((r.cs.length : Int) - 1) with
      | true =>
        have HK : Hid (isPlan r xs = false) := Lib.hid (isPlan_out ho)
        clear ho
        go_wp2_with fail
        go_ret2
        exact ⟨by rw [HK.out]; rfl, HW.out⟩
      | false =>
        have HO := Lib.hid ho; clear ho
        go_wp2_with fail
        go_loopw [7, 33] (fun t d wr => ∃ k : Nat, k ≤ xs.length ∧ d = .int .i64 k ∧ t = .int .i64 (psum r xs k) ∧ Below w1.heap.size w1 wr ∧ Hid (allFit r xs k = true) ∧ Hid (∀ j, j < k → j + 1 < xs.length → gi xs j < gi xs (j + 1))) (fun _ d _ => xs.length - (intOf d).toNat)
        case atStart => exact ⟨0, Nat.zero_le _, rfl, rfl, ext_refl _, rfl, fun j hj => by omega⟩
        case round =>
          obtain ⟨k, hk, rfl, rfl, hbw, HT, HA⟩ := hrel
          have hbd := psum_bd HV.out HO.out k hk HA.out
          obtain ⟨A2, c2, h0, h1, h2, h3, hs⟩ := (HP1.out.ext hbw).st
          have H2 := Lib.hid hs; clear hs
          have HRw := Lib.hid (HR1.out.ext hbw)
          have HB := Lib.hid hbw; clear hbw
          by_cases hlt : k < xs.length
          · have e5 : (k:Int) < xs.length := by omega
            have e6 : (0:Int) ≤ k := by omega
            obtain ⟨ad2, hae, hbd2, hca⟩ := HRw.out.at2 hlt
            injection hae with hae
            subst hae
            have hck := hca k hlt
            obtain ⟨hpk, hpn⟩ := pl_bd HO.out hlt
            rw [hpk] at hck
            have HPK := Lib.hid hpk
            have HPSU := Lib.hid (psum_succ r xs k)
            have HAL := Lib.hid (allFit_succ r xs k)
            clear hpk
            by_cases hk2 : k + 1 < xs.length
            · have e7 : (k:Int) + 1 < xs.length := by omega
              have e8 : ((k:Int) + 1).toNat = k + 1 := by omega
              have e9 : (0:Int) ≤ (k:Int) + 1 := by omega
              have hck2 := hca (k + 1) hk2
              obtain ⟨hpk2, hpn2⟩ := pl_bd HO.out hk2
              rw [hpk2, add_succ'] at hck2
              have HE : Hid (ends r xs k = pl xs (k + 1)) := Lib.hid (by unfold ends; rw [if_pos hk2])
              clear hca hbd2
              by_cases hge : pl xs k < pl xs (k + 1)
              · have HG : Hid (gi xs k < gi xs (k + 1)) := Lib.hid (by rw [HPK.out, hpk2]; omega)
                clear hpk2
                have e10 : ¬ ((pl xs (k + 1) : Int) ≤ pl xs k) := by omega
                have hcb := cost_bd r HV.out (a := pl xs k) (b := pl xs (k + 1)) (by omega) (by omega)
                rw [HE.out] at HPSU HAL
                go_wp2_with fail
                refine (impl_cost _ r (pl xs k) (pl xs (k + 1)) (by omega) (by omega) HV.out _ H2.out).mono ?_
                rintro e w2 ⟨rfl, hb⟩
                have HB3 := Lib.hid (ext_trans HB.out hb); clear hb
                cases hf : fits r (pl xs k) (pl xs (k + 1)) with
                | false =>
                  have HK : Hid (isPlan r xs = false) := Lib.hid (by unfold isPlan; rw [allFit_no hlt (by rw [HE.out]; exact hf)]; simp)
                  clear hf
                  go_wp2_with fail
                  go_ret2
                  exact ⟨by rw [HK.out]; rfl, ext_trans HW.out HB3.out⟩
                | true =>
                  have HF := Lib.hid hf; clear hf
                  go_wp2_with fail
                  go_roundw
                  case rel => exact ⟨k + 1, by omega, by go_num, by rw [HPSU.out], HB3.out, by unfold Hid; rw [HAL.out, HT.out, HF.out]; rfl, fun j hj hj2 => by
                    by_cases hjk : j < k
                    · exact HA.out j hjk hj2
                    · rw [show j = k from by omega]; exact HG.out⟩
                  case measure => simp [intOf]; omega
              · have HK : Hid (isPlan r xs = false) := Lib.hid (isPlan_asc hk2 (by rw [HPK.out, hpk2]; omega))
                clear hpk2
                have e10 : (pl xs (k + 1) : Int) ≤ pl xs k := by omega
                go_wp2_with fail
                go_ret2
                exact ⟨by rw [HK.out]; rfl, ext_trans HW.out HB.out⟩
            · have e7 : ¬ (k:Int) + 1 < xs.length := by omega
              have HE : Hid (ends r xs k = r.cs.length) := Lib.hid (by unfold ends; rw [if_neg hk2])
              clear hca hbd2
              have e10 : ¬ ((r.cs.length : Int) ≤ pl xs k) := by omega
              have hcb := cost_bd r HV.out (a := pl xs k) (b := r.cs.length) (by omega) (by omega)
              rw [HE.out] at HPSU HAL
              go_wp2_with fail
              refine (impl_cost _ r (pl xs k) r.cs.length (by omega) (by omega) HV.out _ H2.out).mono ?_
              rintro e w2 ⟨rfl, hb⟩
              have HB3 := Lib.hid (ext_trans HB.out hb); clear hb
              cases hf : fits r (pl xs k) r.cs.length with
              | false =>
                have HK : Hid (isPlan r xs = false) := Lib.hid (by unfold isPlan; rw [allFit_no hlt (by rw [HE.out]; exact hf)]; simp)
                clear hf
                go_wp2_with fail
                go_ret2
                exact ⟨by rw [HK.out]; rfl, ext_trans HW.out HB3.out⟩
              | true =>
                have HF := Lib.hid hf; clear hf
                go_wp2_with fail
                go_roundw
                case rel => exact ⟨k + 1, by omega, by go_num, by rw [HPSU.out], HB3.out, by unfold Hid; rw [HAL.out, HT.out, HF.out]; rfl, fun j hj hj2 => by
                  by_cases hjk : j < k
                  · exact HA.out j hjk hj2
                  · omega⟩
                case measure => simp [intOf]; omega
          · have e5 : ¬ (k:Int) < xs.length := by omega
            have hkn : k = xs.length := by omega
            subst hkn
            have HK : Hid (isPlan r xs = true) := Lib.hid (by
              have h1 : asc xs xs.length = true := by
                unfold asc
                rw [List.all_eq_true]
                intro i hi
                rcases i with _ | i
                · rfl
                · have := HA.out i (by simp at hi; omega) (by simpa using hi)
                  simpa [gi] using this
              unfold isPlan okPlan; rw [rises_split, HO.out, h1, HL.out, HZ.out, HT.out]; rfl)
            go_wp2_with fail
            go_ret2
            exact ⟨by rw [HK.out]; rfl, ext_trans HW.out HB.out⟩
    · have HK : Hid (isPlan r xs = false) := Lib.hid (by unfold isPlan okPlan; rw [show (gi xs 0 == 0) = false by simpa using hz]; simp)
      have hz3 : (gi xs 0 == 0) = false := by simpa using hz
      go_enter Tryd.func26, Tryd.ntmps26
      go_wp2_with fail
      go_ret2
      exact ⟨by rw [HK.out]; rfl, ext_alloc1 _ _⟩

end Go.Proofs.YtibbdlgganmklaaDoor
