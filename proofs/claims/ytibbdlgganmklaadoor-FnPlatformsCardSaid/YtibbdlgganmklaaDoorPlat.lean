/-
  The law FnPlatforms: its plain part and its walk.
-/
import Derived.Test.YtibbdlgganmklaaDoorLifts14
import Derived.Test.YtibbdlgganmklaaDoorLifts11
import Derived.Test.YtibbdlgganmklaaDoorRdR2
import Derived.Deep.DeepCutAuto
namespace Go.Proofs.YtibbdlgganmklaaDoor
open Go.ChangeShapes Go.WideShapes Go.ChangeAt Go.RowKit Go.Sort
set_option linter.unusedVariables false
set_option maxRecDepth 100000

theorem hgt_cut (r : RS) {a b : Nat} (h : a ≤ b) : ∀ c, b ≤ c → hgt r a c = hgt r a b + hgt r b c := by
  intro c hc
  obtain ⟨k, rfl⟩ : ∃ k, c = b + k := ⟨c - b, by omega⟩
  clear hc
  induction k with
  | zero => rw [Nat.add_zero, hgt_self, Int.add_zero]
  | succ k ih => rw [← Nat.add_assoc, hgt_succ r (show a ≤ b + k by omega), hgt_succ r (show b ≤ b + k by omega), ih]; omega
theorem ph_gi (r : RS) (xs : List Int) {n k : Nat} (hk : k < n) : gi (phTo r xs n) k = hgt r 0 (pl xs k) := by
  unfold gi phTo
  rw [List.getD_eq_getElem?_getD, List.getElem?_map, List.getElem?_range hk]; rfl
theorem ph_zero {r : RS} {xs : List Int} (hp : isPlan r xs = true) (h0 : 0 < xs.length) : gi (phTo r xs xs.length) 0 = 0 := by
  rw [ph_gi r xs h0]
  rcases (PF.of_plan hp).first with ⟨h1, _⟩ | ⟨_, h1⟩
  · rw [h1] at h0; simp at h0
  · rw [h1, hgt_self]
theorem ph_step {r : RS} (hv : vRise r = true) {xs : List Int} (hp : isPlan r xs = true) {k : Nat} (hk : k + 1 < xs.length) :
    gi (phTo r xs xs.length) k < gi (phTo r xs xs.length) (k + 1) ∧ gi (phTo r xs xs.length) (k + 1) - gi (phTo r xs xs.length) k ≤ r.reach := by
  have hO := (vRise_iff.1 hv).1
  obtain ⟨h1, h2, h3, h4⟩ := (PF.of_plan hp).at k (by omega)
  have he : ends r xs k = pl xs (k + 1) := by unfold ends; rw [if_pos hk]
  rw [he] at h2 h3 h4
  rw [ph_gi r xs (show k < xs.length by omega), ph_gi r xs hk, hgt_cut r (Nat.zero_le (pl xs k)) (pl xs (k + 1)) (by omega)]
  have hb := hgt_bd r hO (pl xs k) (pl xs (k + 1)) (by omega) h3
  unfold fits at h4
  have := of_decide_eq_true h4
  omega
theorem ph_bd {r : RS} (hv : vRise r = true) {xs : List Int} (hp : isPlan r xs = true) {k : Nat} (hk : k < xs.length) : 0 ≤ gi (phTo r xs xs.length) k ∧ gi (phTo r xs xs.length) k ≤ 8000 := by
  have hO := (vRise_iff.1 hv).1
  obtain ⟨h1, h2, h3, h4⟩ := (PF.of_plan hp).at k hk
  have hg := (vRise_iff.1 hv).2.1
  rw [ph_gi r xs hk]
  have hb := hgt_bd r hO 0 (pl xs k) (by omega) (by omega)
  omega

theorem sameR_refl (r : RS) : sameR r r = true := by unfold sameR; simp

theorem a2_long2 (v0 v1 : Value) (x0 x1 : List UInt8) (w : World) (h0 : RB w v0 x0) (h1 : RB w v1 x1) :
    Calls Tryd.prog 4 #[v0, v1] w (RetP (.bool (decide (3000 < x0.length) || decide (3000 < x1.length))) w) := by
  obtain ⟨A, c, rfl, hc1, hc2, _⟩ := h0.open_
  obtain ⟨B, d, rfl, hd1, hd2, _⟩ := h1.open_
  clear h0 h1
  unfold maxLen at hc2 hd2
  by_cases h : 3000 < x0.length
  · have HX : Hid ((decide (3000 < x0.length) || decide (3000 < x1.length)) = true) := Lib.hid (by rw [decide_eq_true h]; rfl)
    have e1 : (3000:Int) < x0.length := by omega
    go_enter Tryd.func4, Tryd.ntmps4
    go_wp2_with fail
    go_ret
    exact ⟨ret_bool HX.out.symm, rfl⟩
  · have e1 : ¬ (3000:Int) < x0.length := by omega
    by_cases h2 : 3000 < x1.length
    · have HX : Hid ((decide (3000 < x0.length) || decide (3000 < x1.length)) = true) := Lib.hid (by rw [decide_eq_true h2, Bool.or_true])
      have e2 : (3000:Int) < x1.length := by omega
      go_enter Tryd.func4, Tryd.ntmps4
      go_wp2_with fail
      go_ret
      first | exact ⟨ret_bool HX.out.symm, rfl⟩ | exact ⟨rfl, rfl⟩
    · have HX : Hid ((decide (3000 < x0.length) || decide (3000 < x1.length)) = false) := Lib.hid (by rw [decide_eq_false h, decide_eq_false h2]; rfl)
      have e2 : ¬ (3000:Int) < x1.length := by omega
      go_enter Tryd.func4, Tryd.ntmps4
      go_wp2_with fail
      go_ret
      first | exact ⟨ret_bool HX.out.symm, rfl⟩ | exact ⟨rfl, rfl⟩

set_option maxHeartbeats 3200000 in
theorem law_FnPlatforms (v0 : Value) (x0 : List UInt8) (v1 : Value) (x1 : List UInt8) (w : World) (hEnv : Env w) (h0 : RB w v0 x0) (h1 : RB w v1 x1) :
    Calls Tryd.prog 3 #[v0, v1] w (Ret (.bool true) w) := by
  have HE := Lib.hid hEnv
  have H0 := Lib.hid h0
  have H1 := Lib.hid h1
  clear h0 h1 hEnv
  go_enter Tryd.func3, Tryd.ntmps3
  go_wp2_with fail
  refine (a2_long2 v0 v1 x0 x1 _ H0.out H1.out).mono ?_
  rintro e w1 ⟨rfl, rfl⟩
  cases hlg : (decide (3000 < x0.length) || decide (3000 < x1.length)) with
  | true =>
    clear hlg
    go_wp2_with fail
    go_ret
    exact ⟨rfl, ext_refl _⟩
  | false =>
    clear hlg
    go_wp2_with fail
    refine (a2_rise v0 x0 _ H0.out).mono ?_
    rintro e w1 ⟨v', r, rfl, hO, hv, hb⟩
    obtain ⟨A, c, rfl, hOI⟩ := hO
    have HV := Lib.hid hv
    obtain ⟨g1, g2, g3, g4, g5⟩ := vRise_iff.1 hv
    have hlen : r.cs.length ≤ 40 := by omega
    have HSM : Hid (SmSR r) := Lib.hid (by unfold SmSR; omega)
    have HRB : Hid (200 ≤ r.reach ∧ r.reach ≤ 2000) := Lib.hid g3
    have HRT : Hid (mRiseText r = rsb r) := Lib.hid (by unfold mRiseText; rw [hv]; rfl)
    have HRS : Hid ((rsb r).size ≤ 1048576) := Lib.hid (by have := rsK_size hv (k := r.cs.length) hlen; unfold rsb; omega)
    have HRR := Lib.hid (rdR_is (rdR_mk hv))
    have HW1 := Lib.hid hb
    have HR1 := Lib.hid hOI.rd
    clear hb hOI hv g1 g2 g3 g4 g5
    have HW2 := Lib.hid (ext_trans HW1.out (ext_alloc1 w1 (.cells #[.slice A r.cs.length c, .int .i64 r.reach, .int .i64 r.setup, .int .i64 r.easy] 26)))
    have HR2 := Lib.hid (HR1.out.ext (ext_alloc1 w1 (.cells #[.slice A r.cs.length c, .int .i64 r.reach, .int .i64 r.setup, .int .i64 r.easy] 26)))
    have HX2 : Hid (BX (w1.alloc (.cells #[.slice A r.cs.length c, .int .i64 r.reach, .int .i64 r.setup, .int .i64 r.easy] 26)) w1.heap.size (.slice A r.cs.length c) (.int .i64 r.reach) (.int .i64 r.setup) (.int .i64 r.easy)) := Lib.hid (bx_box _ _ _ _ _ _)
    go_wp2_with fail
    generalize w1.alloc (.cells #[.slice A r.cs.length c, .int .i64 r.reach, .int .i64 r.setup, .int .i64 r.easy] 26) = w2 at *
    generalize w1.heap.size = p at *
    have HSR : Hid (∀ W', Below w2.heap.size w2 W' → SR W' (.agg #[.slice A r.cs.length c, .int .i64 r.reach, .int .i64 r.setup, .int .i64 r.easy]) r) := Lib.hid fun W' h => ⟨_, _, rfl, HR2.out.ext h⟩
    have HBX : Hid (∀ W', Below w2.heap.size w2 W' → W'.cell? ⟨p, 0, none⟩ = some (.slice A r.cs.length c) ∧ W'.cell? ⟨p, 1, none⟩ = some (.int .i64 r.reach) ∧ W'.cell? ⟨p, 2, none⟩ = some (.int .i64 r.setup) ∧ W'.cell? ⟨p, 3, none⟩ = some (.int .i64 r.easy)) := Lib.hid fun W' h => by
      obtain ⟨h0, h1, h2, h3, _⟩ := HX2.out
      exact ⟨cell_keep h0 h, cell_keep h1 h, cell_keep h2 h, cell_keep h3 h⟩
    clear HX2 HR2 HR1
    have hT := impl_RiseText (.agg #[.slice A r.cs.length c, .int .i64 r.reach, .int .i64 r.setup, .int .i64 r.easy]) r w2 (HSR.out w2 (ext_refl _)) HSM.out (HE.out.ext HW2.out).lay
    rw [HRT.out] at hT
    have HT := Lib.hid hT; clear hT
    refine (show Calls _ _ _ _ _ from HT.out).mono ?_
    rintro e w3 ⟨rfl, hb⟩
    have HB3 := Lib.hid hb
    have hRd := impl_ReadRise (rsb r) w3 HRS.out ((HE.out.ext HW2.out).ext hb)
    rw [HRR.out.1, HRR.out.2] at hRd
    have HRD := Lib.hid hRd
    obtain ⟨tx, htx⟩ : ∃ t, rsb r = t := ⟨_, rfl⟩
    rw [htx] at HRD
    rw [htx]
    clear hRd hb HT htx HRS HRT
    go_wp2_with fail
    refine (show Calls _ _ _ _ _ from HRD.out).mono ?_
    rintro e w4 ⟨v4, rfl, hO4, _, hb⟩
    obtain ⟨A4, c4, rfl, hI4⟩ := hO4
    have HB4 := Lib.hid (ext_trans HB3.out hb)
    have HB5 := Lib.hid (ext_trans HB4.out (ext_alloc1 w4 (.cells #[.slice A4 r.cs.length c4, .int .i64 r.reach, .int .i64 r.setup, .int .i64 r.easy] 26)))
    have HI5 := Lib.hid (hI4.rd.ext (ext_alloc1 w4 (.cells #[.slice A4 r.cs.length c4, .int .i64 r.reach, .int .i64 r.setup, .int .i64 r.easy] 26)))
    obtain ⟨q0, q1, q2, q3⟩ := HBX.out _ HB5.out
    have hS := spec_SameRise (.agg #[.slice A4 r.cs.length c4, .int .i64 r.reach, .int .i64 r.setup, .int .i64 r.easy]) r (.agg #[.slice A r.cs.length c, .int .i64 r.reach, .int .i64 r.setup, .int .i64 r.easy]) r _ ⟨_, _, rfl, HI5.out⟩ HSM.out (HSR.out _ HB5.out) HSM.out
    rw [sameR_refl] at hS
    have HS := Lib.hid hS
    clear hS hI4 hb HRD
    go_wp2_with fail
    refine (show Calls _ _ _ _ _ from HS.out).mono ?_
    rintro e w6 ⟨rfl, hb⟩
    have HB6 := Lib.hid (ext_trans HB5.out hb)
    clear hb HS q0 q1 q2 q3 HI5
    obtain ⟨q0, q1, q2, q3⟩ := HBX.out _ HB6.out
    have HAP := Lib.hid (a2_plan v1 x1 (.agg #[.slice A r.cs.length c, .int .i64 r.reach, .int .i64 r.setup, .int .i64 r.easy]) r w6 (H1.out.ext (ext_trans HW2.out HB6.out)) (HSR.out _ HB6.out) hlen)
    go_wp2_with fail
    refine (show Calls _ _ _ _ _ from HAP.out).mono ?_
    rintro e w8 ⟨v8, ys, rfl, hO8, hy8, hb⟩
    have HB8 := Lib.hid (ext_trans HB6.out hb)
    have HSY : Hid (SmI ys) := Lib.hid (by unfold SmI; omega)
    obtain ⟨C8, d8, rfl, hd1, hd2, _⟩ := hO8.rd.open2
    have HY8 := Lib.hid hO8.rd
    have HP8 := Lib.hid (impl_PlatformHeights (.agg #[.slice A r.cs.length c, .int .i64 r.reach, .int .i64 r.setup, .int .i64 r.easy]) r (.slice C8 ys.length d8) ys w8 (HSR.out _ HB8.out) HSM.out hO8.rd HSY.out)
    clear q0 q1 q2 q3 HAP hb hO8
    obtain ⟨q0, q1, q2, q3⟩ := HBX.out _ HB8.out
    unfold maxLen at hd2
    obtain ⟨M, k1, hM⟩ : ∃ M k, mPlatformHeights r ys = (M, k) := ⟨_, _, rfl⟩
    rw [hM] at HP8
    have HM := Lib.hid hM; clear hM
    go_wp2_with fail
    refine (show Calls _ _ _ _ _ from HP8.out).mono ?_
    rintro e w9 ⟨v9, rfl, hO9, hs9, hb⟩
    have HB9 := Lib.hid (ext_trans HB8.out hb)
    obtain ⟨C9, d9, rfl, hd3, hd4, _⟩ := hO9.rd.open2
    unfold maxLen at hd4
    have HM9 := Lib.hid hO9.rd
    have hIL := impl_IsLiftPlan (.agg #[.slice A r.cs.length c, .int .i64 r.reach, .int .i64 r.setup, .int .i64 r.easy]) r (.slice C8 ys.length d8) ys w9 (HSR.out _ HB9.out) HSM.out (HY8.out.ext hb) HSY.out
    rw [show mIsLiftPlan r ys = (isPlan r ys, 0) from by unfold mIsLiftPlan; rw [HV.out]; rfl] at hIL
    have HIL := Lib.hid hIL
    clear hIL q0 q1 q2 q3 HP8 hb hO9 hs9
    obtain ⟨q0, q1, q2, q3⟩ := HBX.out _ HB9.out
    go_wp2_with fail
    refine (show Calls _ _ _ _ _ from HIL.out).mono ?_
    rintro e w10 ⟨rfl, hb⟩
    have HB10 := Lib.hid (ext_trans HB9.out hb)
    have HMA := Lib.hid (HM9.out.ext hb)
    clear hb HIL q0 q1 q2 q3 HM9 HY8
    cases hip : isPlan r ys with
    | false =>
      have hmm : M = [] ∧ k1 = 6 := by
        have := HM.out
        unfold mPlatformHeights at this
        rw [HV.out, hip] at this
        simp only [cond_true, cond_false, Prod.mk.injEq] at this
        exact ⟨this.1.symm, this.2.symm⟩
      obtain ⟨rfl, rfl⟩ := hmm
      clear hip
      go_wp2_with fail
      go_loopw [13] (fun i wr => i = .int .i64 0 ∧ wr = w10) (fun _ _ => 0)
      case atStart => exact ⟨rfl, rfl⟩
      case round =>
        obtain ⟨rfl, rfl⟩ := hrel
        go_wp2_with fail
        go_ret
        exact ⟨rfl, ext_trans HW2.out HB10.out⟩
    | true =>
      have hmm : M = phTo r ys ys.length ∧ k1 = 0 := by
        have := HM.out
        unfold mPlatformHeights at this
        rw [HV.out, hip] at this
        simp only [cond_true, Prod.mk.injEq] at this
        exact ⟨this.1.symm, this.2.symm⟩
      obtain ⟨hmm, rfl⟩ := hmm
      have HL : Hid (M.length = ys.length) := Lib.hid (by rw [hmm, phTo_len])
      have HZ : Hid (0 < M.length → gi M 0 = 0) := Lib.hid fun h => by rw [hmm] at h ⊢; rw [phTo_len] at h; exact ph_zero hip h
      have HST : Hid (∀ k, k + 1 < M.length → gi M k < gi M (k + 1) ∧ gi M (k + 1) - gi M k ≤ r.reach) := Lib.hid fun k h => by rw [hmm] at h ⊢; rw [phTo_len] at h; exact ph_step HV.out hip h
      have HBD : Hid (∀ k, k < M.length → 0 ≤ gi M k ∧ gi M k ≤ 8000) := Lib.hid fun k h => by rw [hmm] at h ⊢; rw [phTo_len] at h; exact ph_bd HV.out hip h
      clear hmm hip HM
      go_wp2_with fail
      go_loopw [13] (fun i wr => ∃ k : Nat, k ≤ M.length ∧ i = .int .i64 k ∧ Below w10.heap.size w10 wr) (fun i _ => M.length - (intOf i).toNat)
      case atStart => exact ⟨0, Nat.zero_le _, rfl, ext_refl _⟩
      case round =>
        obtain ⟨k, hk, rfl, hbw⟩ := hrel
        have HBW := Lib.hid hbw
        by_cases hlt : k < M.length
        · obtain ⟨ad, rfl, _, hcm⟩ := (HMA.out.ext hbw).at2 hlt
          obtain ⟨q0, q1, q2, q3⟩ := HBX.out _ (ext_trans HB10.out hbw)
          have hbk := HBD.out k hlt
          have hrb := HRB.out
          cases k with
          | zero =>
            have hm0 := hcm 0 hlt
            have hz := HZ.out hlt
            rw [hz, Addr.add_zero'] at hm0
            have e2 : (0:Int) < M.length := by omega
            clear hcm hbw hz hbk
            go_wp2_with fail
            go_quiet (fail)
            go_wp2_with fail
            go_roundw
            case rel => exact ⟨1, hlt, by go_num, ext_drewN HBW.out _⟩
            case measure => simp [intOf]; omega
          | succ j =>
            have hm0 := hcm j (by omega)
            have hm1 := hcm (j + 1) hlt
            have hst := HST.out j hlt
            have hbj := HBD.out j (by omega)
            obtain ⟨a, ha⟩ : ∃ x, gi M j = x := ⟨_, rfl⟩
            obtain ⟨b, hb⟩ : ∃ x, gi M (j + 1) = x := ⟨_, rfl⟩
            rw [ha] at hm0 hst hbj
            rw [hb] at hm1 hst hbk
            rw [add_succ'] at hm1
            have e1 : (0:Int) ≤ j := by omega
            have e2 : (j:Int) < M.length := by omega
            have e3 : (j:Int) + 1 < M.length := by omega
            have e4 : ¬ b ≤ a := by omega
            have e5 : ¬ r.reach < b - a := by omega
            have e6 : decide (b ≤ a) = false := decide_eq_false e4
            have e7 : decide (r.reach < b - a) = false := decide_eq_false e5
            have e8 : ((j:Int) + 1 == 0) = false := by simp; omega
            have e9 : decide ((0:Int) < (j:Int) + 1) = true := decide_eq_true (by omega)
            have e10 : (0:Int) < (j:Int) + 1 := by omega
            have e11 : ¬ (j:Int) + 1 = 0 := by omega
            clear hcm hbw ha hb
            go_wp2_with fail
            go_quiet (fail)
            go_wp2_with fail
            go_roundw
            case rel => exact ⟨j + 1 + 1, hlt, by go_num, ext_drewN HBW.out _⟩
            case measure => simp [intOf]; omega
        · obtain rfl : k = M.length := by omega
          have e1 : ¬ (M.length : Int) < M.length := by omega
          have e2 : ((M.length : Int) == (ys.length : Int)) = true := by rw [HL.out]; simp
          have e3 : (M.length : Int) = ys.length := by rw [HL.out]
          clear hbw
          go_wp2_with fail
          go_ret
          exact ⟨rfl, ext_trans HW2.out (ext_trans HB10.out HBW.out)⟩

end Go.Proofs.YtibbdlgganmklaaDoor
