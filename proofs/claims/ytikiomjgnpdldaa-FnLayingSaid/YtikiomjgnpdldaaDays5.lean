/-
  Days at the site, fifth part: DayAfter, LostDays, LongestStop.
-/
import Derived.Test.YtikiomjgnpdldaaDays4
import Derived.Test.YtikiomjgnpdldaaApp
namespace Go.Proofs.Ytikiomjgnpdldaa
open Go.ChangeShapes Go.WideShapes Go.ChangeAt Go.RowKit Go.Sort

/-- The first day from a on up to which there are so many hours. -/
def firstDay (s : ByteArray) (xs : List Int) (a : Nat) (h : Int) : Option Nat := (List.range' a (s.size - a)).find? fun d => decide (h ≤ hsum s xs a (d + 1))
theorem firstDay_hit {s : ByteArray} {xs : List Int} {a k : Nat} {h : Int} (h1 : a ≤ k) (h2 : k < s.size) (hp : ∀ d, a ≤ d → d < k → hsum s xs a (d + 1) < h) (hk : h ≤ hsum s xs a (k + 1)) : firstDay s xs a h = some k := by
  unfold firstDay
  rw [List.find?_range'_eq_some]
  refine ⟨by simpa using hk, ?_, ?_⟩
  · rw [List.mem_range'_1]; omega
  · intro j hj1 hj2
    simpa using hp j hj1 hj2
theorem firstDay_none {s : ByteArray} {xs : List Int} {a : Nat} {h : Int} (hp : ∀ d, a ≤ d → d < s.size → hsum s xs a (d + 1) < h) : firstDay s xs a h = none := by
  unfold firstDay
  rw [List.find?_eq_none]
  intro d hd
  rw [List.mem_range'_1] at hd
  simpa using hp d (by omega) (by omega)

def mDayAfter (s : ByteArray) (xs : List Int) (x h : Int) : Int × Int :=
  bif vSite s xs then (bif inB x 0 s.size && inB h 1 10000 then (match firstDay s xs x.toNat h with | some d => ((d : Int), 0) | none => (0, 3)) else (0, 2)) else (0, 1)

set_option maxHeartbeats 800000 in
theorem spec_DayAfter (v : Value) (s : ByteArray) (xs : List Int) (x h : Int) (w : World) (hR : ST w v s xs) (hsm : SmST s xs) :
    Calls Try.prog 8 #[v, .int .i64 x, .int .i64 h] w (Ret (.tuple #[.int .i64 (mDayAfter s xs x h).1, .int .i64 (mDayAfter s xs x h).2]) w) := by
  obtain ⟨A, c, rfl, hR⟩ := hR
  have HP := Lib.hid (ps_box (T := 26) (s := s) hR)
  have e3 : (s.size:Int) ≤ 1048576 := by have := hsm.1; omega
  have HS := Lib.hid hsm.1; clear hsm hR
  go_enter Try.func8, Try.ntmps8
  go_wp2_with fail
  refine (spec_code _ s xs x s.size HS.out _ HP.out).mono ?_
  rintro e w1 ⟨rfl, hb⟩
  have HW := Lib.hid (ext_trans (ext_alloc1 _ _) hb)
  have HP1 := Lib.hid (HP.out.ext hb)
  clear hb
  cases hv : vSite s xs with
  | false =>
    have e1 : codeFT s xs x s.size = 1 := by unfold codeFT; rw [hv]; rfl
    have HV := Lib.hid hv; clear hv
    rw [e1]; clear e1
    go_wp2_with fail
    go_ret2
    exact ⟨by unfold mDayAfter; rw [HV.out]; rfl, HW.out⟩
  | true =>
    cases hi : inB x 0 (s.size : Int) with
    | false =>
      have e1 : codeFT s xs x s.size = 2 := by unfold codeFT; rw [hv, hi]; rfl
      have HV := Lib.hid hv; clear hv
      have HI := Lib.hid hi; clear hi
      rw [e1]; clear e1
      go_wp2_with fail
      go_ret2
      exact ⟨by unfold mDayAfter; rw [HV.out, HI.out]; rfl, HW.out⟩
    | true =>
      have hd := inB_iff.1 hi
      have e1 : codeFT s xs x s.size = 0 := by
        have h2 : inB (s.size : Int) x s.size = true := inB_yes hd.2 (Int.le_refl _)
        unfold codeFT; rw [hv, hi, h2]; rfl
      obtain ⟨a, rfl⟩ := Int.eq_ofNat_of_zero_le hd.1
      have hd1 : a ≤ s.size := by omega
      have HV := Lib.hid hv; clear hv
      have HI := Lib.hid hi; clear hi hd
      rw [e1]; clear e1
      go_wp2_with fail
      refine (spec_in h 1 10000 _).mono ?_
      rintro e w2 ⟨rfl, rfl⟩
      cases hj : inB h 1 10000 with
      | false =>
        have HJ := Lib.hid hj; clear hj
        go_wp2_with fail
        go_ret2
        exact ⟨by unfold mDayAfter; rw [HV.out, HI.out, HJ.out]; rfl, HW.out⟩
      | true =>
        have HJ := Lib.hid hj; clear hj
        have HM : Hid (mDayAfter s xs a h = (match firstDay s xs a h with | some d => ((d : Int), 0) | none => (0, 3))) := Lib.hid (by unfold mDayAfter; rw [HV.out, HI.out, HJ.out]; rfl)
        obtain ⟨hc0, hrest⟩ := id HP1.out
        clear hrest
        go_wp2_with fail
        go_loop [9] (fun d => ∃ k : Nat, a ≤ k ∧ k ≤ s.size ∧ d = .int .i64 k ∧ Hid (∀ d, a ≤ d → d < k → hsum s xs a (d + 1) < h)) (fun d => s.size - (intOf d).toNat)
        case atStart => exact ⟨a, Nat.le_refl _, hd1, rfl, fun d h1 h2 => by omega⟩
        case round =>
          obtain ⟨k, hk1, hk2, rfl, HT⟩ := hrel
          by_cases hlt : k < s.size
          · have e5 : (k:Int) < s.size := by omega
            have hmx : max a (k + 1) = k + 1 := by omega
            have hcall := spec_sum w.heap.size s xs a (k + 1) (by omega) HS.out w1 HP1.out
            rw [hmx, show ((k + 1 : Nat) : Int) = (k : Int) + 1 from by omega] at hcall
            clear hmx
            have HC := Lib.hid hcall; clear hcall
            go_wp2_with fail
            refine (show Calls _ _ _ _ _ from HC.out).mono ?_
            rintro e w2 ⟨rfl, rfl⟩
            by_cases hq : h ≤ hsum s xs a (k + 1)
            · have HQ := Lib.hid hq
              go_wp2_with fail
              go_ret2
              exact ⟨by rw [HM.out, firstDay_hit hk1 hlt HT.out HQ.out]; rfl, HW.out⟩
            · have HQ : Hid (hsum s xs a (k + 1) < h) := Lib.hid (by omega)
              go_wp2_with fail
              go_round
              case rel => exact ⟨k + 1, by omega, by omega, by go_num, fun d h1 h2 => by
                by_cases hdk : d < k
                · exact HT.out d h1 hdk
                · rw [show d = k from by omega]; exact HQ.out⟩
              case measure => simp [intOf]; omega
          · have e5 : ¬ (k:Int) < s.size := by omega
            go_wp2_with fail
            go_ret2
            have hkn : k = s.size := by omega
            subst hkn
            exact ⟨by rw [HM.out, firstDay_none HT.out]; rfl, HW.out⟩

set_option maxHeartbeats 800000 in
theorem impl_DayAfter (v : Value) (s : ByteArray) (xs : List Int) (x h : Int) (w : World) (hR : ST w v s xs) (hsm : SmST s xs) :
    Calls Try.prog 7 #[v, .int .i64 x, .int .i64 h] w (Ret (.tuple #[.int .i64 (mDayAfter s xs x h).1, .int .i64 (mDayAfter s xs x h).2]) w) := by
  obtain ⟨A, c, rfl, hR⟩ := hR
  have HP := Lib.hid (ps_box (T := 26) (s := s) hR)
  have HR := Lib.hid hR; clear hR
  have e3 : (s.size:Int) ≤ 1048576 := by have := hsm.1; omega
  have HM : Hid (s.size ≤ maxLen) := Lib.hid (by unfold maxLen; omega)
  have HS := Lib.hid hsm; clear hsm
  go_enter Try.func7, Try.ntmps7
  go_wp2_with fail
  refine (impl_ValidSite _ s xs _ ⟨_, _, rfl, HR.out.alloc _⟩ HS.out).mono ?_
  rintro e w1 ⟨rfl, hb⟩
  have HW := Lib.hid (ext_trans (ext_alloc1 _ _) hb)
  have HP1 := Lib.hid (HP.out.ext hb)
  clear hb HP
  obtain ⟨A1, c1, hc0, hc1, hs1⟩ := HP1.out.st
  have H1 := Lib.hid hs1; clear hs1
  cases hv : vSite s xs with
  | false =>
    have HV := Lib.hid hv; clear hv
    go_wp2_with fail
    go_ret2
    exact ⟨by unfold mDayAfter; rw [HV.out]; rfl, HW.out⟩
  | true =>
    have HV := Lib.hid hv; clear hv
    go_wp2_with fail
    refine (impl_days _ s xs HM.out _ H1.out).mono ?_
    rintro e w2 ⟨rfl, hb⟩
    have HW2 := Lib.hid (ext_trans HW.out hb)
    have HP2 := Lib.hid (HP1.out.ext hb)
    clear hb hc0 hc1
    go_wp2_with fail
    refine (impl_within x 0 s.size _).mono ?_
    rintro e w3 ⟨rfl, rfl⟩
    cases hi : inB x 0 s.size with
    | false =>
      have HI := Lib.hid hi; clear hi
      go_wp2_with fail
      go_ret2
      exact ⟨by unfold mDayAfter; rw [HV.out, HI.out]; rfl, HW2.out⟩
    | true =>
      have hd := inB_iff.1 hi
      obtain ⟨a, rfl⟩ := Int.eq_ofNat_of_zero_le hd.1
      have hd1 : a ≤ s.size := by omega
      have HI := Lib.hid hi; clear hi hd
      go_wp2_with fail
      refine (impl_within h 1 10000 _).mono ?_
      rintro e w3 ⟨rfl, rfl⟩
      cases hj : inB h 1 10000 with
      | false =>
        have HJ := Lib.hid hj; clear hj
        go_wp2_with fail
        go_ret2
        exact ⟨by unfold mDayAfter; rw [HV.out, HI.out, HJ.out]; rfl, HW2.out⟩
      | true =>
        have HJ := Lib.hid hj; clear hj
        have HE : Hid (mDayAfter s xs a h = (match firstDay s xs a h with | some d => ((d : Int), 0) | none => (0, 3))) := Lib.hid (by unfold mDayAfter; rw [HV.out, HI.out, HJ.out]; rfl)
        go_wp2_with fail
        go_loopw [8, 9] (fun t d wr => ∃ k : Nat, a ≤ k ∧ k ≤ s.size ∧ d = .int .i64 k ∧ t = .int .i64 (hsum s xs a k) ∧ Below w2.heap.size w2 wr ∧ Hid (∀ d, a ≤ d → d < k → hsum s xs a (d + 1) < h)) (fun _ d _ => s.size - (intOf d).toNat)
        case atStart => exact ⟨a, Nat.le_refl _, hd1, rfl, by rw [hsum_self], ext_refl _, fun d h1 h2 => by omega⟩
        case round =>
          obtain ⟨k, hk1, hk2, rfl, rfl, hbw, HT⟩ := hrel
          have hbd := hsum_bd s xs a k hk1
          have hh := hrs_bd s xs k
          obtain ⟨A2, c2, hc0, hc1, hs1⟩ := (HP2.out.ext hbw).st
          have H2 := Lib.hid hs1; clear hs1
          have HB := Lib.hid hbw; clear hbw
          have HU := Lib.hid (hsum_succ s xs hk1)
          go_wp2_with fail
          refine (impl_days _ s xs HM.out _ H2.out).mono ?_
          rintro e w3 ⟨rfl, hb⟩
          have HB3 := Lib.hid (ext_trans HB.out hb)
          clear hb hc0 hc1
          obtain ⟨A3, c3, hc0, hc1, hs1⟩ := (HP2.out.ext HB3.out).st
          have H3 := Lib.hid hs1; clear hs1
          by_cases hlt : k < s.size
          · have e5 : (k:Int) < s.size := by omega
            go_wp2_with fail
            refine (impl_hours _ s xs k (by omega) HS.out.1 _ H3.out).mono ?_
            rintro e w4 ⟨rfl, hb⟩
            have HB4 := Lib.hid (ext_trans HB3.out hb)
            clear hb hc0 hc1
            by_cases hq : h ≤ hsum s xs a k + hrs s xs k
            · have HQ := Lib.hid hq
              go_wp2_with fail
              go_ret2
              exact ⟨by rw [HE.out, firstDay_hit hk1 hlt HT.out (by rw [HU.out]; exact HQ.out)]; rfl, ext_trans HW2.out HB4.out⟩
            · have HQ : Hid (hsum s xs a k + hrs s xs k < h) := Lib.hid (by omega)
              go_wp2_with fail
              go_roundw
              case rel => exact ⟨k + 1, by omega, by omega, by go_num, by rw [HU.out], HB4.out, fun d h1 h2 => by
                by_cases hdk : d < k
                · exact HT.out d h1 hdk
                · rw [show d = k from by omega, HU.out]; exact HQ.out⟩
              case measure => simp [intOf]; omega
          · have e5 : ¬ (k:Int) < s.size := by omega
            go_wp2_with fail
            go_ret2
            have hkn : k = s.size := by omega
            subst hkn
            exact ⟨by rw [HE.out, firstDay_none HT.out]; rfl, ext_trans HW2.out HB3.out⟩

end Go.Proofs.Ytikiomjgnpdldaa
