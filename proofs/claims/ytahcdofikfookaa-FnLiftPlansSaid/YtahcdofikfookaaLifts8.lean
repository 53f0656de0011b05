/-
  Lifts, eighth part: FewestLifts.
-/
import Derived.Test.YtahcdofikfookaaLifts2
import Derived.IntWalk
namespace Go.Proofs.Ytahcdofikfookaa
open Go.ChangeShapes Go.WideShapes Go.ChangeAt Go.RowKit Go.Sort
set_option linter.unusedVariables false

/-- The lifts of the first k courses, and where the last one begins. -/
def few (r : RS) : Nat → Nat × Nat
  | 0 => (1, 0)
  | k + 1 => if r.reach < hgt r (few r k).2 (k + 1) then ((few r k).1 + 1, k) else few r k
theorem few_le (r : RS) (k : Nat) : (few r k).2 ≤ k ∧ (few r k).1 ≤ k + 1 ∧ 1 ≤ (few r k).1 := by
  induction k with
  | zero => simp [few]
  | succ k ih =>
    rw [few]
    split
    · refine ⟨?_, ?_, ?_⟩ <;> dsimp only <;> omega
    · omega
theorem few_new {r : RS} {k : Nat} (h : r.reach < hgt r (few r k).2 (k + 1)) : few r (k + 1) = ((few r k).1 + 1, k) := by rw [few, if_pos h]
theorem few_old {r : RS} {k : Nat} (h : ¬ r.reach < hgt r (few r k).2 (k + 1)) : few r (k + 1) = few r k := by rw [few, if_neg h]
def mFewestLifts (r : RS) : Int × Int := bif vRise r then (((few r r.cs.length).1 : Int), 0) else (0, 1)

set_option maxHeartbeats 1600000 in
theorem impl_FewestLifts (v : Value) (r : RS) (w : World) (hR : SR w v r) (hsm : SmSR r) :
    Calls Try.prog 25 #[v] w (Ret (.tuple #[.int .i64 (mFewestLifts r).1, .int .i64 (mFewestLifts r).2]) w) := by
  obtain ⟨A, c, rfl, hf⟩ := hR
  have HP := Lib.hid (pr_box (T := 27) hf)
  have HR := Lib.hid hf
  have e0 : (r.cs.length : Int) ≤ 1048576 := by have : r.cs.length ≤ 1048576 := hsm; omega
  clear hf
  have HS := Lib.hid hsm; clear hsm
  go_enter Try.func25, Try.ntmps25
  go_wp2_with fail
  refine (impl_ValidRise _ r _ ⟨_, _, rfl, HR.out.alloc _⟩ HS.out).mono ?_
  rintro e w1 ⟨rfl, hb⟩
  have HW := Lib.hid (ext_trans (ext_alloc1 _ _) hb)
  obtain ⟨⟨A1, c1, h0, hRI⟩, h1, h2, h3⟩ := HP.out.ext hb
  have HRI := Lib.hid hRI
  clear hb hRI h2 h3
  cases hv : vRise r with
  | false =>
    have HV := Lib.hid hv; clear hv
    go_wp2_with fail
    go_ret2
    exact ⟨by unfold mFewestLifts; rw [HV.out]; rfl, HW.out⟩
  | true =>
    have HV := Lib.hid hv
    obtain ⟨g1, g2, g3, g4, g5⟩ := vRise_iff.1 hv
    have HO := Lib.hid g1
    clear hv g1 g4 g5
    go_wp2_with fail
    go_loop [4, 5, 14] (fun n h i => ∃ k : Nat, k ≤ r.cs.length ∧ i = .int .i64 k ∧ n = .int .i64 (few r k).1 ∧ h = .int .i64 (hgt r (few r k).2 k)) (fun _ _ i => r.cs.length - (intOf i).toNat)
    case atStart => exact ⟨0, Nat.zero_le _, rfl, rfl, by rw [show (few r 0).2 = 0 from rfl, hgt_self]⟩
    case round =>
      obtain ⟨k, hk, rfl, rfl, rfl⟩ := hrel
      have hfl := few_le r k
      have hbd := hgt_bd r HO.out (few r k).2 k hfl.1 hk
      by_cases hlt : k < r.cs.length
      · have e1 : (0:Int) ≤ k := by omega
        have e2 : (k:Int) < r.cs.length := by omega
        obtain ⟨ad, rfl, hbd2, hc⟩ := HRI.out.at2 hlt
        have hca := hc k hlt
        clear hc hbd2
        have hg := in_of_out HO.out hlt
        have HSU := Lib.hid (hgt_succ r hfl.1)
        have HS2 := Lib.hid (hgt_succ r (Nat.le_refl k))
        have HSE := Lib.hid (hgt_self r k)
        by_cases hq : r.reach < hgt r (few r k).2 k + gi r.cs k
        · have HF : Hid (few r (k + 1) = ((few r k).1 + 1, k)) := Lib.hid (few_new (by rw [HSU.out]; exact hq))
          have e3 : decide (r.reach < hgt r (few r k).2 k + gi r.cs k) = true := by simpa using hq
          go_wp2_with fail
          go_round
          case rel => exact ⟨k + 1, by omega, by go_num, by rw [HF.out]; simp, by rw [HF.out, HS2.out, HSE.out, Int.zero_add]⟩
          case measure => simp [intOf]; omega
        · have HF : Hid (few r (k + 1) = few r k) := Lib.hid (few_old (by rw [HSU.out]; exact hq))
          have e3 : decide (r.reach < hgt r (few r k).2 k + gi r.cs k) = false := by simpa using hq
          go_wp2_with fail
          go_round
          case rel => exact ⟨k + 1, by omega, by go_num, by rw [HF.out], by rw [HF.out, HSU.out]⟩
          case measure => simp [intOf]; omega
      · have e2 : ¬ (k:Int) < r.cs.length := by omega
        have hkn : k = r.cs.length := by omega
        subst hkn
        go_wp2_with fail
        go_ret2
        exact ⟨by unfold mFewestLifts; rw [HV.out]; rfl, HW.out⟩

set_option maxHeartbeats 3200000 in
theorem spec_FewestLifts (v : Value) (r : RS) (w : World) (hR : SR w v r) (hsm : SmSR r) :
    Calls Try.prog 29 #[v] w (Ret (.tuple #[.int .i64 (mFewestLifts r).1, .int .i64 (mFewestLifts r).2]) w) := by
  obtain ⟨A, c, rfl, hf⟩ := hR
  have HP := Lib.hid (pr_box (T := 27) hf)
  have e0 : (r.cs.length : Int) ≤ 1048576 := by have : r.cs.length ≤ 1048576 := hsm; omega
  clear hf
  have HS := Lib.hid hsm; clear hsm
  go_enter Try.func29, Try.ntmps29
  go_wp2_with fail
  refine (spec_okR _ r HS.out _ HP.out).mono ?_
  rintro e w1 ⟨rfl, rfl⟩
  generalize hw1 : w.alloc (.cells #[.slice A r.cs.length c, .int .i64 r.reach, .int .i64 r.setup, .int .i64 r.easy] 27) = w1 at *
  have HW : Hid (Below w.heap.size w w1) := Lib.hid (by rw [← hw1]; exact ext_alloc1 _ _)
  clear hw1
  cases hv : vRise r with
  | false =>
    have HV := Lib.hid hv; clear hv
    go_wp2_with fail
    go_ret2
    exact ⟨by unfold mFewestLifts; rw [HV.out]; rfl, HW.out⟩
  | true =>
    have HV := Lib.hid hv
    obtain ⟨g1, g2, g3, g4, g5⟩ := vRise_iff.1 hv
    have HO := Lib.hid g1
    clear hv g1 g4 g5
    go_wp2_with fail
    go_loopw [4, 5] (fun n a wr => ∃ k m : Nat, k ≤ r.cs.length ∧ m ≤ k ∧ a = .int .i64 k ∧ n = .int .i64 m ∧ Below w1.heap.size w1 wr ∧ Hid (k < r.cs.length → few r (k + 1) = (m + 1, k)) ∧ Hid (k = r.cs.length → (few r k).1 = m)) (fun _ a _ => r.cs.length - (intOf a).toNat)
    case atStart => exact ⟨0, 0, Nat.zero_le _, Nat.le_refl _, rfl, rfl, ext_refl _, (fun h => by
      have h1 := hgt_bd r HO.out 0 (0 + 1) (by omega) (by omega)
      rw [few_old (by rw [show (few r 0).2 = 0 from rfl]; omega)]; rfl), fun h => by omega⟩
    case round =>
      obtain ⟨k, m, hk, hm, rfl, rfl, hbw, HT, HE⟩ := hrel
      obtain ⟨A2, c2, h0, h1, h2, h3, hs⟩ := (HP.out.ext hbw).st
      clear hs h2 h3
      have HB := Lib.hid hbw; clear hbw
      by_cases hlt : k < r.cs.length
      · have e5 : (k:Int) < r.cs.length := by omega
        have HF := Lib.hid (HT.out hlt)
        go_wp2_with fail
        clear h0 h1
        go_loopw [5] (fun a wr => ∃ j : Nat, k ≤ j ∧ j ≤ r.cs.length ∧ a = .int .i64 j ∧ Below w1.heap.size w1 wr ∧ Hid (k < j → few r j = (m + 1, k))) (fun a _ => r.cs.length - (intOf a).toNat)
        case atStart => exact ⟨k, Nat.le_refl _, hk, rfl, HB.out, fun h => by omega⟩
        case round =>
          obtain ⟨j, hj1, hj2, rfl, hbw, HJ⟩ := hrel
          have HPw := Lib.hid (HP.out.ext hbw)
          obtain ⟨A3, c3, h0, h1, h2, h3, hs⟩ := (HP.out.ext hbw).st
          clear hs h2 h3
          have HB2 := Lib.hid hbw; clear hbw
          by_cases hlt2 : j < r.cs.length
          · have e6 : (j:Int) < r.cs.length := by omega
            have e7 : IntKind.i64.wrap ((j:Int) + 1) = (j:Int) + 1 := IntWalk.i64_in _ (by omega)
            by_cases hq : hgt r k (j + 1) ≤ r.reach
            · have HN : Hid (few r (j + 1) = (m + 1, k)) := Lib.hid (by
                by_cases hjk : k < j
                · rw [few_old (by rw [HJ.out hjk]; show ¬ _ < hgt r k (j + 1); omega), HJ.out hjk]
                · rw [show j = k from by omega]; exact HF.out)
              go_wp2_with fail
              go_quiet ((go_at_call 54; exact quiet_p (spec_height _ r k (j + 1) (by omega) (by omega) g2.2 HO.out _ (HPw.out.ext (ext_drewN (ext_refl _) _)))))
              go_wp2_with fail
              go_roundw
              case rel => exact ⟨j + 1, by omega, by omega, by go_num, ext_trans HB2.out (ext_drewN (ext_refl _) _), fun _ => HN.out⟩
              case measure => simp [intOf]; omega
            · have hjk : k < j := by
                have h5 := hgt_bd r HO.out k (k + 1) (by omega) (by omega)
                rcases Nat.lt_or_ge k j with h | h
                · exact h
                · have : j = k := by omega
                  subst this
                  omega
              have HN : Hid (few r (j + 1) = (m + 1 + 1, j)) := Lib.hid (by
                rw [few_new (by rw [HJ.out hjk]; show _ < hgt r k (j + 1); omega), HJ.out hjk])
              go_wp2_with fail
              go_quiet ((go_at_call 54; exact quiet_p (spec_height _ r k (j + 1) (by omega) (by omega) g2.2 HO.out _ (HPw.out.ext (ext_drewN (ext_refl _) _)))))
              go_wp2_with fail
              go_roundw
              case rel => exact ⟨j, m + 1, by omega, by omega, rfl, by go_num, ext_trans HB2.out (ext_drewN (ext_refl _) _), fun _ => HN.out, fun h => by omega⟩
              case measure => simp [intOf]; omega
          · have e6 : ¬ (j:Int) < r.cs.length := by omega
            have hjn : j = r.cs.length := by omega
            have HN := Lib.hid (HJ.out (by omega))
            go_wp2_with fail
            go_quiet (fail)
            go_wp2_with fail
            go_roundw
            case rel => exact ⟨j, m + 1, by omega, by omega, by rw [hjn], by go_num, ext_trans HB2.out (ext_drewN (ext_refl _) _), fun h => by omega, fun h => by rw [HN.out]⟩
            case measure => simp [intOf]; omega
      · have e5 : ¬ (k:Int) < r.cs.length := by omega
        have hkn : k = r.cs.length := by omega
        have HE2 := Lib.hid (HE.out hkn)
        subst hkn
        go_wp2_with fail
        go_ret2
        exact ⟨by unfold mFewestLifts; rw [HV.out, HE2.out]; rfl, ext_trans HW.out HB.out⟩

end Go.Proofs.Ytahcdofikfookaa
