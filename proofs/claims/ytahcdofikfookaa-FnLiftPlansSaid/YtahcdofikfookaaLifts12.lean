/-
  Lifts, twelfth part: the program's BestPlan.
-/
import Derived.Test.YtahcdofikfookaaLifts10
namespace Go.Proofs.Ytahcdofikfookaa
open Go.ChangeShapes Go.WideShapes Go.ChangeAt Go.RowKit Go.Sort
set_option linter.unusedVariables false


theorem two_made (w : World) (n : Nat) :
    LR (((w.alloc (.cells (madeCells #[Value.int .i64 0] (n + 1)) 2)).alloc (.cells (madeCells #[Value.int .i64 0] (n + 1)) 2)).drew) w.heap.size n (fun _ => 0) ∧
    LR (((w.alloc (.cells (madeCells #[Value.int .i64 0] (n + 1)) 2)).alloc (.cells (madeCells #[Value.int .i64 0] (n + 1)) 2)).drew) (w.heap.size + 1) n (fun _ => 0) ∧
    Below w.heap.size w (((w.alloc (.cells (madeCells #[Value.int .i64 0] (n + 1)) 2)).alloc (.cells (madeCells #[Value.int .i64 0] (n + 1)) 2)).drew) := by
  refine ⟨(LR.made w n).ext (ext_drew (ext_alloc1 _ _)), ?_, ext_drew (ext_alloc (ext_alloc1 _ _) _)⟩
  have h := (LR.made (w.alloc (.cells (madeCells #[Value.int .i64 0] (n + 1)) 2)) n).ext (ext_drew (ext_refl _))
  rwa [World.size_alloc] at h

set_option maxHeartbeats 3200000 in
theorem impl_BestPlan (u : Value) (r : RS) (w : World) (hS : SR w u r) (hsm : SmSR r) :
    Calls Try.prog 22 #[u] w (RetI (mBestPlan r).1 (mBestPlan r).2 w) := by
  obtain ⟨A, c, rfl, hf⟩ := hS
  have HR0 := Lib.hid hf
  have HP := Lib.hid (pr_box (T := 27) hf)
  have HS := Lib.hid hsm; clear hsm hf
  go_enter Try.func22, Try.ntmps22
  go_wp2_with fail
  refine (impl_ValidRise _ r _ ⟨_, _, rfl, HR0.out.alloc _⟩ HS.out).mono ?_
  rintro e w1 ⟨rfl, hb⟩
  have HW := Lib.hid (ext_trans (ext_alloc1 _ _) hb)
  have HP1 := Lib.hid (HP.out.ext hb)
  clear hb
  cases hv : vRise r with
  | false =>
    have HM : Hid (mBestPlan r = ([], 1)) := Lib.hid (by unfold mBestPlan; rw [hv]; rfl)
    clear hv
    go_wp2_with fail
    go_ret2
    rw [HM.out]
    exact ⟨_, rfl, oi_nil _ _, by simp [SmI], HW.out⟩
  | true =>
    have HV := Lib.hid hv
    have HM : Hid (mBestPlan r = (pfrom r r.cs.length 0, 0)) := Lib.hid (by unfold mBestPlan; rw [hv]; rfl)
    obtain ⟨g1, g2, g3, g4, g5⟩ := vRise_iff.1 hv
    clear hv g1 g3 g4 g5
    have hlen : r.cs.length ≤ 40 := by omega
    have hlen1 : 1 ≤ r.cs.length := by omega
    clear g2
    have e0 : (r.cs.length : Int) ≤ 40 := by omega
    have e00 : (1:Int) ≤ (r.cs.length : Int) := by omega
    obtain ⟨A1, c1, h0, h1, h2, h3, hs⟩ := HP1.out.st
    clear h1 h2 h3 hs
    have hmk := fun w => make_ints (n := r.cs.length) (by omega) w
    go_wp2_with fail
    clear h0
    go_region
    · obtain ⟨hC, hN, hB⟩ := two_made w1 r.cs.length
      have HC0 := Lib.hid hC
      have HN0 := Lib.hid hN
      have HB0 := Lib.hid hB
      clear hC hN hB hmk
      generalize ((w1.alloc (.cells (madeCells #[Value.int .i64 0] (r.cs.length + 1)) 2)).alloc (.cells (madeCells #[Value.int .i64 0] (r.cs.length + 1)) 2)).drew = w2 at *
      go_wp2_with fail
      go_loopw [7] (fun i wr => ∃ (k : Nat) (i0 : Int) (g f : Nat → Int), k ≤ r.cs.length ∧ i = .int .i64 i0 ∧ i0 = (k : Int) - 1 ∧ Hid (LR wr (w1.heap.size) r.cs.length g) ∧ Hid (LR wr (w1.heap.size + 1) r.cs.length f) ∧ Hid (∀ j, k ≤ j → j ≤ r.cs.length → g j = lc r j) ∧ Hid (∀ j, k ≤ j → j < r.cs.length → f j = nxt r j) ∧ Below w1.heap.size w1 wr) (fun i _ => (intOf i + 1).toNat)
      case atStart => exact ⟨r.cs.length, _, _, _, Nat.le_refl _, rfl, rfl, HC0.out, HN0.out, (fun j h1 h2 => by rw [show j = r.cs.length from by omega, lc_end]), (fun j h1 h2 => by omega), HB0.out⟩
      case round =>
        obtain ⟨k, i0, g, h, hk, rfl, hi0, HL, HK, HG, HH, hbw⟩ := hrel
        generalize hw3 : wr = w3 at *
        clear hw3
        have HB := Lib.hid hbw; clear hbw
        by_cases hk0 : k = 0
        · have e1 : i0 = -1 := by omega
          subst e1 hk0
          clear HL HG hi0 hk
          have HP3 := Lib.hid (HP1.out.ext HB.out)
          have HW3 := Lib.hid (ext_trans HW.out HB.out)
          have hlt : w1.heap.size + 1 < w3.heap.size := World.rowIs.lt HK.out
          go_wp2_with fail
          go_loopw [12, 13] (fun o a wr => ∃ (k : Nat) (xs : List Int), Hid (Bp r xs k) ∧ k ≤ r.cs.length ∧ xs.length ≤ k ∧ a = .int .i64 k ∧ ∃ A c, o = .slice A xs.length c ∧ Hid (OI wr w3.heap.size (.slice A xs.length c) xs) ∧ Below w3.heap.size w3 wr) (fun _ a _ => r.cs.length - (intOf a).toNat)
          case atStart => exact ⟨0, [], Bp.start r, Nat.zero_le _, Nat.zero_le _, rfl, some ⟨w3.heap.size, 0, none⟩, 0, rfl, oi_lit w3 _ (Nat.le_refl _), ext_alloc1 _ _⟩
          case round =>
            obtain ⟨k, xs, HBp, hk, hxk, rfl, A2, c2, rfl, HO, hbq⟩ := hrel
            have hsz := hbq.size
            have HBq := Lib.hid hbq; clear hbq
            by_cases hlt2 : k < r.cs.length
            · have e2 : (k:Int) < r.cs.length := by omega
              have e3 : (k:Int) < (r.cs.length : Int) + 1 := by omega
              have e4 : (0:Int) ≤ k := by omega
              have hn1 := nxt_bd HV.out hlt2
              obtain ⟨N, hN⟩ : ∃ N, nxt r k = N := ⟨_, rfl⟩
              have HBp1 := Lib.hid (HBp.out.step HV.out hlt2)
              rw [hN] at hn1 HBp1
              have hcN : h k = N := by rw [HH.out k (Nat.zero_le _) hlt2, hN]
              go_wp2_with (at_builtin; refine wpList_append_i rfl _ _ rfl w3.heap.size (.slice A2 xs.length c2) xs (k:Int) rfl rfl HO.out (by omega) hsz ?_; intro g c3 w4 hO1 hg1 hlt1; (have hb5 := Chg.ext HBq.out hg1 fun j hj => (HO.out.ge j hj).1); (have hck := (HK.out.ext hb5).cell (i := k) (by omega)); rw [hcN] at hck; (have HB5 := Lib.hid hb5); clear hb5 hg1)
              go_roundw
              case rel => exact ⟨N, xs ++ [(k:Int)], HBp1.out, hn1.2.1, by simp; omega, rfl, _, _, by rw [List.length_append]; rfl, by rw [List.length_append]; exact hO1, HB5.out⟩
              case measure => simp [intOf]; omega
            · have e2 : ¬ (k:Int) < r.cs.length := by omega
              have hkn : k = r.cs.length := by omega
              subst hkn
              have hD := HBp.out.done
              go_wp2_with fail
              go_ret2
              rw [HM.out]
              dsimp only
              rw [← hD.1]
              exact ⟨_, rfl, HO.out.mono (HW3.out.size), by unfold SmI; omega, ext_trans HW3.out HBq.out⟩
        · obtain ⟨m, rfl⟩ : ∃ m, k = m + 1 := ⟨k - 1, by omega⟩
          have e1 : i0 = (m : Int) := by omega
          subst e1
          have e2 : (0:Int) ≤ m := by omega
          have e3 : (m:Int) < (r.cs.length : Int) := by omega
          have hfr := HL.out.frozen m
          have hce := HL.out.cell (i := m) (by omega)
          clear hi0
          go_wp2_with fail
          have HL1 : Hid (LR (w3.setCell ⟨w1.heap.size, m, none⟩ (.int .i64 (-1))) (w1.heap.size) r.cs.length (fun j => if j = m then -1 else g j)) := Lib.hid (HL.out.set m (-1))
          have HK1 : Hid (LR (w3.setCell ⟨w1.heap.size, m, none⟩ (.int .i64 (-1))) (w1.heap.size + 1) r.cs.length h) := Lib.hid (HK.out.setOther (by dsimp only; omega) _)
          have HB1 := Lib.hid (HB.out.setCell (p := ⟨w1.heap.size, m, none⟩) (by dsimp only; omega) (.int .i64 (-1)))
          clear hfr hce
          go_loopw [8] (fun i wr => ∃ (t q : Nat) (g f : Nat → Int), Hid (t = m + q) ∧ m ≤ t ∧ t ≤ r.cs.length ∧ i = .int .i64 t ∧ Hid (LR wr (w1.heap.size) r.cs.length g) ∧ Hid (LR wr (w1.heap.size + 1) r.cs.length f) ∧ g m = (ist r m q).1 ∧ Hid ((ist r m q).1 ≠ -1 → f m = (ist r m q).2) ∧ Hid (∀ j, m + 1 ≤ j → j ≤ r.cs.length → g j = lc r j) ∧ Hid (∀ j, m + 1 ≤ j → j < r.cs.length → f j = nxt r j) ∧ Below w1.heap.size w1 wr) (fun i _ => r.cs.length - (intOf i).toNat)
          case atStart => exact ⟨m, 0, _, _, Lib.hid rfl, Nat.le_refl _, by omega, rfl, HL1.out, HK1.out, by simp [ist], (fun h => absurd rfl h), (fun j h1 h2 => (if_neg (by omega)).trans (HG.out j h1 h2)), HH.out, HB1.out⟩
          case round =>
            obtain ⟨t, q, f, h, HTQ, hmt, htn, rfl, HLt, HKt, hfm, HHM, HGt, HHt, hbw⟩ := hrel
            obtain ⟨A3, c3, hl0, hl1, hl2, hl3, hs3⟩ := (HP1.out.ext hbw).st
            have HSt := Lib.hid hs3; clear hs3
            have HBt := Lib.hid hbw; clear hbw
            by_cases hlt : t < r.cs.length
            · have e4 : (t:Int) < r.cs.length := by omega
              by_cases hq : t = m
              · have q1 : (t:Int) ≤ m := by omega
                have q2 : (m:Int) ≤ t := by omega
                clear hq
                have hz1 := cost_bd r HV.out (a := m) (b := r.cs.length) (by omega) (by omega)
                have hy1 := lc_small HV.out (k := r.cs.length) (by omega)
                have HC := Lib.hid (fun w (h : SR w (.agg #[.slice A3 r.cs.length c3, .int .i64 r.reach, .int .i64 r.setup, .int .i64 r.easy]) r) => impl_cost (.agg #[.slice A3 r.cs.length c3, .int .i64 r.reach, .int .i64 r.setup, .int .i64 r.easy]) r m r.cs.length (by omega) (by omega) HV.out w h)
                have HIS : Hid (ist r m (q + 1) = if fits r m r.cs.length = true ∧ ((ist r m q).1 < 0 ∨ cost r m r.cs.length + lc r r.cs.length < (ist r m q).1) then (cost r m r.cs.length + lc r r.cs.length, r.cs.length) else ist r m q) := Lib.hid (by
                  have h : tr r m q = r.cs.length := by
                    have h9 := HTQ.out
                    unfold tr
                    split <;> omega
                  rw [ist, h])
                go_wp2_with fail
                refine (show Calls _ _ _ _ _ from HC.out _ HSt.out).mono ?_
                rintro e w4 ⟨rfl, hb4⟩
                have HL4 := Lib.hid (HLt.out.ext hb4)
                have HK4 := Lib.hid (HKt.out.ext hb4)
                have HB4 := Lib.hid (ext_trans HBt.out hb4)
                clear hb4 hl0 hl1 hl2 hl3
                have hcm := HL4.out.cell (i := m) (by omega)
                have hct := HL4.out.cell (i := r.cs.length) (by omega)
                have hfr := HL4.out.frozen m
                have hfk := HK4.out.frozen m
                have hck := HK4.out.cell (i := m) (by omega)
                rw [HGt.out r.cs.length (by omega) (by omega)] at hct
                obtain ⟨x, hx⟩ : ∃ x, f m = x := ⟨_, rfl⟩
                obtain ⟨y, hy⟩ : ∃ y, lc r r.cs.length = y := ⟨_, rfl⟩
                obtain ⟨z, hz⟩ : ∃ z, cost r m r.cs.length = z := ⟨_, rfl⟩
                rw [hx] at hcm hfm
                rw [hy] at hct hy1
                rw [hz] at hz1
                rw [hz, hy, ← hfm] at HIS
                have HX := Lib.hid hx
                have HXM := Lib.hid hfm
                rw [hz]
                clear hx hy hz hfm HC HSt
                have e5 : (m:Int) < (r.cs.length : Int) + 1 := by omega
                have e6 : (r.cs.length:Int) < (r.cs.length : Int) + 1 := by omega
                have e7 : (0:Int) ≤ r.cs.length := by omega
                have e8 : IntKind.i64.wrap (z + y) = z + y := IntWalk.i64_in _ (by omega)
                cases hf : fits r m r.cs.length with
                | false =>
                  rw [hf] at HIS
                  have HI : Hid (ist r m (q + 1) = ist r m q) := Lib.hid (by rw [HIS.out]; exact if_neg (by simp))
                  clear hf HIS
                  go_wp2_with fail
                  go_quiet (fail)
                  rename Nat => n1
                  go_wp2_with fail
                  go_roundw
                  case rel => exact ⟨t + 1, q + 1, f, h, Lib.hid (by rw [HTQ.out]; omega), by omega, by omega, by go_num, HL4.out.ext (ext_drewN (ext_refl _) _), HK4.out.ext (ext_drewN (ext_refl _) _), by rw [HI.out, HX.out, HXM.out], by rw [HI.out]; exact HHM, HGt.out, HHt.out, ext_drewN HB4.out _⟩
                  case measure => simp [intOf]; omega
                | true =>
                  rw [hf] at HIS
                  by_cases hcond : x < 0 ∨ z + y < x
                  · have HI : Hid (ist r m (q + 1) = (z + y, r.cs.length)) := Lib.hid (by rw [HIS.out]; exact if_pos ⟨rfl, hcond⟩)
                    clear hf HIS
                    by_cases hx0 : x < 0
                    · have e10 : decide (x < 0) = true := by simpa using hx0
                      clear hcond
                      go_wp2_with fail
                      go_quiet (fail)
                      rename Nat => n1
                      go_wp2_with fail
                      go_roundw
                      case rel =>
                        exact ⟨t + 1, q + 1, _, _, Lib.hid (by rw [HTQ.out]; omega), by omega, by omega, by go_num, ((HL4.out.ext (ext_drewN (ext_refl _) n1)).set m (z + y)).setOther (by dsimp only; omega) _, ((HK4.out.ext (ext_drewN (ext_refl _) n1)).setOther (by dsimp only; omega) _).set m (r.cs.length : Int), by rw [HI.out, if_pos rfl], (fun _ => by rw [HI.out, if_pos rfl]), (fun j h1 h2 => (if_neg (by omega)).trans (HGt.out j h1 h2)), (fun j h1 h2 => (if_neg (by omega)).trans (HHt.out j h1 h2)), ((ext_drewN HB4.out n1).setCell (p := ⟨w1.heap.size, m, none⟩) (by dsimp only; omega) _).setCell (p := ⟨w1.heap.size + 1, m, none⟩) (by dsimp only; omega) _⟩
                      case measure => simp [intOf]; omega
                    · have e10 : decide (x < 0) = false := by simpa using hx0
                      have e11 : decide (z + y < x) = true := by rw [decide_eq_true_eq]; omega
                      clear hcond
                      go_wp2_with fail
                      go_quiet (fail)
                      rename Nat => n1
                      go_wp2_with fail
                      go_roundw
                      case rel =>
                        exact ⟨t + 1, q + 1, _, _, Lib.hid (by rw [HTQ.out]; omega), by omega, by omega, by go_num, ((HL4.out.ext (ext_drewN (ext_refl _) n1)).set m (z + y)).setOther (by dsimp only; omega) _, ((HK4.out.ext (ext_drewN (ext_refl _) n1)).setOther (by dsimp only; omega) _).set m (r.cs.length : Int), by rw [HI.out, if_pos rfl], (fun _ => by rw [HI.out, if_pos rfl]), (fun j h1 h2 => (if_neg (by omega)).trans (HGt.out j h1 h2)), (fun j h1 h2 => (if_neg (by omega)).trans (HHt.out j h1 h2)), ((ext_drewN HB4.out n1).setCell (p := ⟨w1.heap.size, m, none⟩) (by dsimp only; omega) _).setCell (p := ⟨w1.heap.size + 1, m, none⟩) (by dsimp only; omega) _⟩
                      case measure => simp [intOf]; omega
                  · have HI : Hid (ist r m (q + 1) = ist r m q) := Lib.hid (by rw [HIS.out]; exact if_neg (fun h => hcond h.2))
                    clear hf HIS
                    have e10 : decide (x < 0) = false := by rw [decide_eq_false_iff_not]; omega
                    have e11 : decide (z + y < x) = false := by rw [decide_eq_false_iff_not]; omega
                    clear hcond
                    go_wp2_with fail
                    go_quiet (fail)
                    rename Nat => n1
                    go_wp2_with fail
                    go_roundw
                    case rel => exact ⟨t + 1, q + 1, f, h, Lib.hid (by rw [HTQ.out]; omega), by omega, by omega, by go_num, HL4.out.ext (ext_drewN (ext_refl _) _), HK4.out.ext (ext_drewN (ext_refl _) _), by rw [HI.out, HX.out, HXM.out], by rw [HI.out]; exact HHM, HGt.out, HHt.out, ext_drewN HB4.out _⟩
                    case measure => simp [intOf]; omega
              · have hq2 : ¬ (t:Int) = m := by omega
                have hz1 := cost_bd r HV.out (a := m) (b := t) (by omega) (by omega)
                have hy1 := lc_small HV.out (k := t) (by omega)
                have HC := Lib.hid (fun w (h : SR w (.agg #[.slice A3 r.cs.length c3, .int .i64 r.reach, .int .i64 r.setup, .int .i64 r.easy]) r) => impl_cost (.agg #[.slice A3 r.cs.length c3, .int .i64 r.reach, .int .i64 r.setup, .int .i64 r.easy]) r m t (by omega) (by omega) HV.out w h)
                have HIS : Hid (ist r m (q + 1) = if fits r m t = true ∧ ((ist r m q).1 < 0 ∨ cost r m t + lc r t < (ist r m q).1) then (cost r m t + lc r t, t) else ist r m q) := Lib.hid (by
                  have h : tr r m q = t := by
                    have h9 := HTQ.out
                    unfold tr
                    split <;> omega
                  rw [ist, h])
                go_wp2_with fail
                refine (show Calls _ _ _ _ _ from HC.out _ HSt.out).mono ?_
                rintro e w4 ⟨rfl, hb4⟩
                have HL4 := Lib.hid (HLt.out.ext hb4)
                have HK4 := Lib.hid (HKt.out.ext hb4)
                have HB4 := Lib.hid (ext_trans HBt.out hb4)
                clear hb4 hl0 hl1 hl2 hl3
                have hcm := HL4.out.cell (i := m) (by omega)
                have hct := HL4.out.cell (i := t) (by omega)
                have hfr := HL4.out.frozen m
                have hfk := HK4.out.frozen m
                have hck := HK4.out.cell (i := m) (by omega)
                rw [HGt.out t (by omega) (by omega)] at hct
                obtain ⟨x, hx⟩ : ∃ x, f m = x := ⟨_, rfl⟩
                obtain ⟨y, hy⟩ : ∃ y, lc r t = y := ⟨_, rfl⟩
                obtain ⟨z, hz⟩ : ∃ z, cost r m t = z := ⟨_, rfl⟩
                rw [hx] at hcm hfm
                rw [hy] at hct hy1
                rw [hz] at hz1
                rw [hz, hy, ← hfm] at HIS
                have HX := Lib.hid hx
                have HXM := Lib.hid hfm
                rw [hz]
                clear hx hy hz hfm HC HSt
                have e5 : (m:Int) < (r.cs.length : Int) + 1 := by omega
                have e6 : (t:Int) < (r.cs.length : Int) + 1 := by omega
                have e7 : (0:Int) ≤ t := by omega
                have e8 : IntKind.i64.wrap (z + y) = z + y := IntWalk.i64_in _ (by omega)
                cases hf : fits r m t with
                | false =>
                  rw [hf] at HIS
                  have HI : Hid (ist r m (q + 1) = ist r m q) := Lib.hid (by rw [HIS.out]; exact if_neg (by simp))
                  clear hf HIS
                  go_wp2_with fail
                  go_quiet (fail)
                  rename Nat => n1
                  go_wp2_with fail
                  go_roundw
                  case rel => exact ⟨t + 1, q + 1, f, h, Lib.hid (by rw [HTQ.out]; omega), by omega, by omega, by go_num, HL4.out.ext (ext_drewN (ext_refl _) _), HK4.out.ext (ext_drewN (ext_refl _) _), by rw [HI.out, HX.out, HXM.out], by rw [HI.out]; exact HHM, HGt.out, HHt.out, ext_drewN HB4.out _⟩
                  case measure => simp [intOf]; omega
                | true =>
                  rw [hf] at HIS
                  by_cases hcond : x < 0 ∨ z + y < x
                  · have HI : Hid (ist r m (q + 1) = (z + y, t)) := Lib.hid (by rw [HIS.out]; exact if_pos ⟨rfl, hcond⟩)
                    clear hf HIS
                    by_cases hx0 : x < 0
                    · have e10 : decide (x < 0) = true := by simpa using hx0
                      clear hcond
                      go_wp2_with fail
                      go_quiet (fail)
                      rename Nat => n1
                      go_wp2_with fail
                      go_roundw
                      case rel =>
                        exact ⟨t + 1, q + 1, _, _, Lib.hid (by rw [HTQ.out]; omega), by omega, by omega, by go_num, ((HL4.out.ext (ext_drewN (ext_refl _) n1)).set m (z + y)).setOther (by dsimp only; omega) _, ((HK4.out.ext (ext_drewN (ext_refl _) n1)).setOther (by dsimp only; omega) _).set m (t : Int), by rw [HI.out, if_pos rfl], (fun _ => by rw [HI.out, if_pos rfl]), (fun j h1 h2 => (if_neg (by omega)).trans (HGt.out j h1 h2)), (fun j h1 h2 => (if_neg (by omega)).trans (HHt.out j h1 h2)), ((ext_drewN HB4.out n1).setCell (p := ⟨w1.heap.size, m, none⟩) (by dsimp only; omega) _).setCell (p := ⟨w1.heap.size + 1, m, none⟩) (by dsimp only; omega) _⟩
                      case measure => simp [intOf]; omega
                    · have e10 : decide (x < 0) = false := by simpa using hx0
                      have e11 : decide (z + y < x) = true := by rw [decide_eq_true_eq]; omega
                      clear hcond
                      go_wp2_with fail
                      go_quiet (fail)
                      rename Nat => n1
                      go_wp2_with fail
                      go_roundw
                      case rel =>
                        exact ⟨t + 1, q + 1, _, _, Lib.hid (by rw [HTQ.out]; omega), by omega, by omega, by go_num, ((HL4.out.ext (ext_drewN (ext_refl _) n1)).set m (z + y)).setOther (by dsimp only; omega) _, ((HK4.out.ext (ext_drewN (ext_refl _) n1)).setOther (by dsimp only; omega) _).set m (t : Int), by rw [HI.out, if_pos rfl], (fun _ => by rw [HI.out, if_pos rfl]), (fun j h1 h2 => (if_neg (by omega)).trans (HGt.out j h1 h2)), (fun j h1 h2 => (if_neg (by omega)).trans (HHt.out j h1 h2)), ((ext_drewN HB4.out n1).setCell (p := ⟨w1.heap.size, m, none⟩) (by dsimp only; omega) _).setCell (p := ⟨w1.heap.size + 1, m, none⟩) (by dsimp only; omega) _⟩
                      case measure => simp [intOf]; omega
                  · have HI : Hid (ist r m (q + 1) = ist r m q) := Lib.hid (by rw [HIS.out]; exact if_neg (fun h => hcond h.2))
                    clear hf HIS
                    have e10 : decide (x < 0) = false := by rw [decide_eq_false_iff_not]; omega
                    have e11 : decide (z + y < x) = false := by rw [decide_eq_false_iff_not]; omega
                    clear hcond
                    go_wp2_with fail
                    go_quiet (fail)
                    rename Nat => n1
                    go_wp2_with fail
                    go_roundw
                    case rel => exact ⟨t + 1, q + 1, f, h, Lib.hid (by rw [HTQ.out]; omega), by omega, by omega, by go_num, HL4.out.ext (ext_drewN (ext_refl _) _), HK4.out.ext (ext_drewN (ext_refl _) _), by rw [HI.out, HX.out, HXM.out], by rw [HI.out]; exact HHM, HGt.out, HHt.out, ext_drewN HB4.out _⟩
                    case measure => simp [intOf]; omega
            · have e4 : ¬ (t:Int) < r.cs.length := by omega
              clear hl0 hl1 hl2 hl3
              go_wp2_with fail
              go_roundw
              case rel =>
                have htq := HTQ.out
                have hE := ist_end HV.out (k := m) (by omega)
                rw [show r.cs.length - m = q from by omega] at hE
                have hm1 := HHM.out
                rw [hE] at hfm hm1
                have hl9 := lc_nonneg HV.out m
                refine ⟨m, _, f, h, by omega, rfl, rfl, HLt.out, HKt.out, (fun j h1 h2 => ?_), (fun j h1 h2 => ?_), HBt.out⟩
                · by_cases hj : j = m
                  · rw [hj, hfm]
                  · exact HGt.out j (by omega) h2
                · by_cases hj : j = m
                  · rw [hj]; exact hm1 (by dsimp only; omega)
                  · exact HHt.out j (by omega) h2
              case measure => simp [intOf]
    · obtain ⟨hN, hC, hB⟩ := two_made w1 r.cs.length
      have HC0 := Lib.hid hC
      have HN0 := Lib.hid hN
      have HB0 := Lib.hid hB
      clear hC hN hB hmk
      generalize ((w1.alloc (.cells (madeCells #[Value.int .i64 0] (r.cs.length + 1)) 2)).alloc (.cells (madeCells #[Value.int .i64 0] (r.cs.length + 1)) 2)).drew = w2 at *
      go_wp2_with fail
      go_loopw [7] (fun i wr => ∃ (k : Nat) (i0 : Int) (g f : Nat → Int), k ≤ r.cs.length ∧ i = .int .i64 i0 ∧ i0 = (k : Int) - 1 ∧ Hid (LR wr (w1.heap.size + 1) r.cs.length g) ∧ Hid (LR wr (w1.heap.size) r.cs.length f) ∧ Hid (∀ j, k ≤ j → j ≤ r.cs.length → g j = lc r j) ∧ Hid (∀ j, k ≤ j → j < r.cs.length → f j = nxt r j) ∧ Below w1.heap.size w1 wr) (fun i _ => (intOf i + 1).toNat)
      case atStart => exact ⟨r.cs.length, _, _, _, Nat.le_refl _, rfl, rfl, HC0.out, HN0.out, (fun j h1 h2 => by rw [show j = r.cs.length from by omega, lc_end]), (fun j h1 h2 => by omega), HB0.out⟩
      case round =>
        obtain ⟨k, i0, g, h, hk, rfl, hi0, HL, HK, HG, HH, hbw⟩ := hrel
        generalize hw3 : wr = w3 at *
        clear hw3
        have HB := Lib.hid hbw; clear hbw
        by_cases hk0 : k = 0
        · have e1 : i0 = -1 := by omega
          subst e1 hk0
          clear HL HG hi0 hk
          have HP3 := Lib.hid (HP1.out.ext HB.out)
          have HW3 := Lib.hid (ext_trans HW.out HB.out)
          have hlt : w1.heap.size < w3.heap.size := World.rowIs.lt HK.out
          go_wp2_with fail
          go_loopw [12, 13] (fun o a wr => ∃ (k : Nat) (xs : List Int), Hid (Bp r xs k) ∧ k ≤ r.cs.length ∧ xs.length ≤ k ∧ a = .int .i64 k ∧ ∃ A c, o = .slice A xs.length c ∧ Hid (OI wr w3.heap.size (.slice A xs.length c) xs) ∧ Below w3.heap.size w3 wr) (fun _ a _ => r.cs.length - (intOf a).toNat)
          case atStart => exact ⟨0, [], Bp.start r, Nat.zero_le _, Nat.zero_le _, rfl, some ⟨w3.heap.size, 0, none⟩, 0, rfl, oi_lit w3 _ (Nat.le_refl _), ext_alloc1 _ _⟩
          case round =>
            obtain ⟨k, xs, HBp, hk, hxk, rfl, A2, c2, rfl, HO, hbq⟩ := hrel
            have hsz := hbq.size
            have HBq := Lib.hid hbq; clear hbq
            by_cases hlt2 : k < r.cs.length
            · have e2 : (k:Int) < r.cs.length := by omega
              have e3 : (k:Int) < (r.cs.length : Int) + 1 := by omega
              have e4 : (0:Int) ≤ k := by omega
              have hn1 := nxt_bd HV.out hlt2
              obtain ⟨N, hN⟩ : ∃ N, nxt r k = N := ⟨_, rfl⟩
              have HBp1 := Lib.hid (HBp.out.step HV.out hlt2)
              rw [hN] at hn1 HBp1
              have hcN : h k = N := by rw [HH.out k (Nat.zero_le _) hlt2, hN]
              go_wp2_with (at_builtin; refine wpList_append_i rfl _ _ rfl w3.heap.size (.slice A2 xs.length c2) xs (k:Int) rfl rfl HO.out (by omega) hsz ?_; intro g c3 w4 hO1 hg1 hlt1; (have hb5 := Chg.ext HBq.out hg1 fun j hj => (HO.out.ge j hj).1); (have hck := (HK.out.ext hb5).cell (i := k) (by omega)); rw [hcN] at hck; (have HB5 := Lib.hid hb5); clear hb5 hg1)
              go_roundw
              case rel => exact ⟨N, xs ++ [(k:Int)], HBp1.out, hn1.2.1, by simp; omega, rfl, _, _, by rw [List.length_append]; rfl, by rw [List.length_append]; exact hO1, HB5.out⟩
              case measure => simp [intOf]; omega
            · have e2 : ¬ (k:Int) < r.cs.length := by omega
              have hkn : k = r.cs.length := by omega
              subst hkn
              have hD := HBp.out.done
              go_wp2_with fail
              go_ret2
              rw [HM.out]
              dsimp only
              rw [← hD.1]
              exact ⟨_, rfl, HO.out.mono (HW3.out.size), by unfold SmI; omega, ext_trans HW3.out HBq.out⟩
        · obtain ⟨m, rfl⟩ : ∃ m, k = m + 1 := ⟨k - 1, by omega⟩
          have e1 : i0 = (m : Int) := by omega
          subst e1
          have e2 : (0:Int) ≤ m := by omega
          have e3 : (m:Int) < (r.cs.length : Int) := by omega
          have hfr := HL.out.frozen m
          have hce := HL.out.cell (i := m) (by omega)
          clear hi0
          go_wp2_with fail
          have HL1 : Hid (LR (w3.setCell ⟨w1.heap.size + 1, m, none⟩ (.int .i64 (-1))) (w1.heap.size + 1) r.cs.length (fun j => if j = m then -1 else g j)) := Lib.hid (HL.out.set m (-1))
          have HK1 : Hid (LR (w3.setCell ⟨w1.heap.size + 1, m, none⟩ (.int .i64 (-1))) (w1.heap.size) r.cs.length h) := Lib.hid (HK.out.setOther (by dsimp only; omega) _)
          have HB1 := Lib.hid (HB.out.setCell (p := ⟨w1.heap.size + 1, m, none⟩) (by dsimp only; omega) (.int .i64 (-1)))
          clear hfr hce
          go_loopw [8] (fun i wr => ∃ (t q : Nat) (g f : Nat → Int), Hid (t = m + q) ∧ m ≤ t ∧ t ≤ r.cs.length ∧ i = .int .i64 t ∧ Hid (LR wr (w1.heap.size + 1) r.cs.length g) ∧ Hid (LR wr (w1.heap.size) r.cs.length f) ∧ g m = (ist r m q).1 ∧ Hid ((ist r m q).1 ≠ -1 → f m = (ist r m q).2) ∧ Hid (∀ j, m + 1 ≤ j → j ≤ r.cs.length → g j = lc r j) ∧ Hid (∀ j, m + 1 ≤ j → j < r.cs.length → f j = nxt r j) ∧ Below w1.heap.size w1 wr) (fun i _ => r.cs.length - (intOf i).toNat)
          case atStart => exact ⟨m, 0, _, _, Lib.hid rfl, Nat.le_refl _, by omega, rfl, HL1.out, HK1.out, by simp [ist], (fun h => absurd rfl h), (fun j h1 h2 => (if_neg (by omega)).trans (HG.out j h1 h2)), HH.out, HB1.out⟩
          case round =>
            obtain ⟨t, q, f, h, HTQ, hmt, htn, rfl, HLt, HKt, hfm, HHM, HGt, HHt, hbw⟩ := hrel
            obtain ⟨A3, c3, hl0, hl1, hl2, hl3, hs3⟩ := (HP1.out.ext hbw).st
            have HSt := Lib.hid hs3; clear hs3
            have HBt := Lib.hid hbw; clear hbw
            by_cases hlt : t < r.cs.length
            · have e4 : (t:Int) < r.cs.length := by omega
              by_cases hq : t = m
              · have q1 : (t:Int) ≤ m := by omega
                have q2 : (m:Int) ≤ t := by omega
                clear hq
                have hz1 := cost_bd r HV.out (a := m) (b := r.cs.length) (by omega) (by omega)
                have hy1 := lc_small HV.out (k := r.cs.length) (by omega)
                have HC := Lib.hid (fun w (h : SR w (.agg #[.slice A3 r.cs.length c3, .int .i64 r.reach, .int .i64 r.setup, .int .i64 r.easy]) r) => impl_cost (.agg #[.slice A3 r.cs.length c3, .int .i64 r.reach, .int .i64 r.setup, .int .i64 r.easy]) r m r.cs.length (by omega) (by omega) HV.out w h)
                have HIS : Hid (ist r m (q + 1) = if fits r m r.cs.length = true ∧ ((ist r m q).1 < 0 ∨ cost r m r.cs.length + lc r r.cs.length < (ist r m q).1) then (cost r m r.cs.length + lc r r.cs.length, r.cs.length) else ist r m q) := Lib.hid (by
                  have h : tr r m q = r.cs.length := by
                    have h9 := HTQ.out
                    unfold tr
                    split <;> omega
                  rw [ist, h])
                go_wp2_with fail
                refine (show Calls _ _ _ _ _ from HC.out _ HSt.out).mono ?_
                rintro e w4 ⟨rfl, hb4⟩
                have HL4 := Lib.hid (HLt.out.ext hb4)
                have HK4 := Lib.hid (HKt.out.ext hb4)
                have HB4 := Lib.hid (ext_trans HBt.out hb4)
                clear hb4 hl0 hl1 hl2 hl3
                have hcm := HL4.out.cell (i := m) (by omega)
                have hct := HL4.out.cell (i := r.cs.length) (by omega)
                have hfr := HL4.out.frozen m
                have hfk := HK4.out.frozen m
                have hck := HK4.out.cell (i := m) (by omega)
                rw [HGt.out r.cs.length (by omega) (by omega)] at hct
                obtain ⟨x, hx⟩ : ∃ x, f m = x := ⟨_, rfl⟩
                obtain ⟨y, hy⟩ : ∃ y, lc r r.cs.length = y := ⟨_, rfl⟩
                obtain ⟨z, hz⟩ : ∃ z, cost r m r.cs.length = z := ⟨_, rfl⟩
                rw [hx] at hcm hfm
                rw [hy] at hct hy1
                rw [hz] at hz1
                rw [hz, hy, ← hfm] at HIS
                have HX := Lib.hid hx
                have HXM := Lib.hid hfm
                rw [hz]
                clear hx hy hz hfm HC HSt
                have e5 : (m:Int) < (r.cs.length : Int) + 1 := by omega
                have e6 : (r.cs.length:Int) < (r.cs.length : Int) + 1 := by omega
                have e7 : (0:Int) ≤ r.cs.length := by omega
                have e8 : IntKind.i64.wrap (z + y) = z + y := IntWalk.i64_in _ (by omega)
                cases hf : fits r m r.cs.length with
                | false =>
                  rw [hf] at HIS
                  have HI : Hid (ist r m (q + 1) = ist r m q) := Lib.hid (by rw [HIS.out]; exact if_neg (by simp))
                  clear hf HIS
                  go_wp2_with fail
                  go_quiet (fail)
                  rename Nat => n1
                  go_wp2_with fail
                  go_roundw
                  case rel => exact ⟨t + 1, q + 1, f, h, Lib.hid (by rw [HTQ.out]; omega), by omega, by omega, by go_num, HL4.out.ext (ext_drewN (ext_refl _) _), HK4.out.ext (ext_drewN (ext_refl _) _), by rw [HI.out, HX.out, HXM.out], by rw [HI.out]; exact HHM, HGt.out, HHt.out, ext_drewN HB4.out _⟩
                  case measure => simp [intOf]; omega
                | true =>
                  rw [hf] at HIS
                  by_cases hcond : x < 0 ∨ z + y < x
                  · have HI : Hid (ist r m (q + 1) = (z + y, r.cs.length)) := Lib.hid (by rw [HIS.out]; exact if_pos ⟨rfl, hcond⟩)
                    clear hf HIS
                    by_cases hx0 : x < 0
                    · have e10 : decide (x < 0) = true := by simpa using hx0
                      clear hcond
                      go_wp2_with fail
                      go_quiet (fail)
                      rename Nat => n1
                      go_wp2_with fail
                      go_roundw
                      case rel =>
                        exact ⟨t + 1, q + 1, _, _, Lib.hid (by rw [HTQ.out]; omega), by omega, by omega, by go_num, ((HL4.out.ext (ext_drewN (ext_refl _) n1)).set m (z + y)).setOther (by dsimp only; omega) _, ((HK4.out.ext (ext_drewN (ext_refl _) n1)).setOther (by dsimp only; omega) _).set m (r.cs.length : Int), by rw [HI.out, if_pos rfl], (fun _ => by rw [HI.out, if_pos rfl]), (fun j h1 h2 => (if_neg (by omega)).trans (HGt.out j h1 h2)), (fun j h1 h2 => (if_neg (by omega)).trans (HHt.out j h1 h2)), ((ext_drewN HB4.out n1).setCell (p := ⟨w1.heap.size + 1, m, none⟩) (by dsimp only; omega) _).setCell (p := ⟨w1.heap.size, m, none⟩) (by dsimp only; omega) _⟩
                      case measure => simp [intOf]; omega
                    · have e10 : decide (x < 0) = false := by simpa using hx0
                      have e11 : decide (z + y < x) = true := by rw [decide_eq_true_eq]; omega
                      clear hcond
                      go_wp2_with fail
                      go_quiet (fail)
                      rename Nat => n1
                      go_wp2_with fail
                      go_roundw
                      case rel =>
                        exact ⟨t + 1, q + 1, _, _, Lib.hid (by rw [HTQ.out]; omega), by omega, by omega, by go_num, ((HL4.out.ext (ext_drewN (ext_refl _) n1)).set m (z + y)).setOther (by dsimp only; omega) _, ((HK4.out.ext (ext_drewN (ext_refl _) n1)).setOther (by dsimp only; omega) _).set m (r.cs.length : Int), by rw [HI.out, if_pos rfl], (fun _ => by rw [HI.out, if_pos rfl]), (fun j h1 h2 => (if_neg (by omega)).trans (HGt.out j h1 h2)), (fun j h1 h2 => (if_neg (by omega)).trans (HHt.out j h1 h2)), ((ext_drewN HB4.out n1).setCell (p := ⟨w1.heap.size + 1, m, none⟩) (by dsimp only; omega) _).setCell (p := ⟨w1.heap.size, m, none⟩) (by dsimp only; omega) _⟩
                      case measure => simp [intOf]; omega
                  · have HI : Hid (ist r m (q + 1) = ist r m q) := Lib.hid (by rw [HIS.out]; exact if_neg (fun h => hcond h.2))
                    clear hf HIS
                    have e10 : decide (x < 0) = false := by rw [decide_eq_false_iff_not]; omega
                    have e11 : decide (z + y < x) = false := by rw [decide_eq_false_iff_not]; omega
                    clear hcond
                    go_wp2_with fail
                    go_quiet (fail)
                    rename Nat => n1
                    go_wp2_with fail
                    go_roundw
                    case rel => exact ⟨t + 1, q + 1, f, h, Lib.hid (by rw [HTQ.out]; omega), by omega, by omega, by go_num, HL4.out.ext (ext_drewN (ext_refl _) _), HK4.out.ext (ext_drewN (ext_refl _) _), by rw [HI.out, HX.out, HXM.out], by rw [HI.out]; exact HHM, HGt.out, HHt.out, ext_drewN HB4.out _⟩
                    case measure => simp [intOf]; omega
              · have hq2 : ¬ (t:Int) = m := by omega
                have hz1 := cost_bd r HV.out (a := m) (b := t) (by omega) (by omega)
                have hy1 := lc_small HV.out (k := t) (by omega)
                have HC := Lib.hid (fun w (h : SR w (.agg #[.slice A3 r.cs.length c3, .int .i64 r.reach, .int .i64 r.setup, .int .i64 r.easy]) r) => impl_cost (.agg #[.slice A3 r.cs.length c3, .int .i64 r.reach, .int .i64 r.setup, .int .i64 r.easy]) r m t (by omega) (by omega) HV.out w h)
                have HIS : Hid (ist r m (q + 1) = if fits r m t = true ∧ ((ist r m q).1 < 0 ∨ cost r m t + lc r t < (ist r m q).1) then (cost r m t + lc r t, t) else ist r m q) := Lib.hid (by
                  have h : tr r m q = t := by
                    have h9 := HTQ.out
                    unfold tr
                    split <;> omega
                  rw [ist, h])
                go_wp2_with fail
                refine (show Calls _ _ _ _ _ from HC.out _ HSt.out).mono ?_
                rintro e w4 ⟨rfl, hb4⟩
                have HL4 := Lib.hid (HLt.out.ext hb4)
                have HK4 := Lib.hid (HKt.out.ext hb4)
                have HB4 := Lib.hid (ext_trans HBt.out hb4)
                clear hb4 hl0 hl1 hl2 hl3
                have hcm := HL4.out.cell (i := m) (by omega)
                have hct := HL4.out.cell (i := t) (by omega)
                have hfr := HL4.out.frozen m
                have hfk := HK4.out.frozen m
                have hck := HK4.out.cell (i := m) (by omega)
                rw [HGt.out t (by omega) (by omega)] at hct
                obtain ⟨x, hx⟩ : ∃ x, f m = x := ⟨_, rfl⟩
                obtain ⟨y, hy⟩ : ∃ y, lc r t = y := ⟨_, rfl⟩
                obtain ⟨z, hz⟩ : ∃ z, cost r m t = z := ⟨_, rfl⟩
                rw [hx] at hcm hfm
                rw [hy] at hct hy1
                rw [hz] at hz1
                rw [hz, hy, ← hfm] at HIS
                have HX := Lib.hid hx
                have HXM := Lib.hid hfm
                rw [hz]
                clear hx hy hz hfm HC HSt
                have e5 : (m:Int) < (r.cs.length : Int) + 1 := by omega
                have e6 : (t:Int) < (r.cs.length : Int) + 1 := by omega
                have e7 : (0:Int) ≤ t := by omega
                have e8 : IntKind.i64.wrap (z + y) = z + y := IntWalk.i64_in _ (by omega)
                cases hf : fits r m t with
                | false =>
                  rw [hf] at HIS
                  have HI : Hid (ist r m (q + 1) = ist r m q) := Lib.hid (by rw [HIS.out]; exact if_neg (by simp))
                  clear hf HIS
                  go_wp2_with fail
                  go_quiet (fail)
                  rename Nat => n1
                  go_wp2_with fail
                  go_roundw
                  case rel => exact ⟨t + 1, q + 1, f, h, Lib.hid (by rw [HTQ.out]; omega), by omega, by omega, by go_num, HL4.out.ext (ext_drewN (ext_refl _) _), HK4.out.ext (ext_drewN (ext_refl _) _), by rw [HI.out, HX.out, HXM.out], by rw [HI.out]; exact HHM, HGt.out, HHt.out, ext_drewN HB4.out _⟩
                  case measure => simp [intOf]; omega
                | true =>
                  rw [hf] at HIS
                  by_cases hcond : x < 0 ∨ z + y < x
                  · have HI : Hid (ist r m (q + 1) = (z + y, t)) := Lib.hid (by rw [HIS.out]; exact if_pos ⟨rfl, hcond⟩)
                    clear hf HIS
                    by_cases hx0 : x < 0
                    · have e10 : decide (x < 0) = true := by simpa using hx0
                      clear hcond
                      go_wp2_with fail
                      go_quiet (fail)
                      rename Nat => n1
                      go_wp2_with fail
                      go_roundw
                      case rel =>
                        exact ⟨t + 1, q + 1, _, _, Lib.hid (by rw [HTQ.out]; omega), by omega, by omega, by go_num, ((HL4.out.ext (ext_drewN (ext_refl _) n1)).set m (z + y)).setOther (by dsimp only; omega) _, ((HK4.out.ext (ext_drewN (ext_refl _) n1)).setOther (by dsimp only; omega) _).set m (t : Int), by rw [HI.out, if_pos rfl], (fun _ => by rw [HI.out, if_pos rfl]), (fun j h1 h2 => (if_neg (by omega)).trans (HGt.out j h1 h2)), (fun j h1 h2 => (if_neg (by omega)).trans (HHt.out j h1 h2)), ((ext_drewN HB4.out n1).setCell (p := ⟨w1.heap.size + 1, m, none⟩) (by dsimp only; omega) _).setCell (p := ⟨w1.heap.size, m, none⟩) (by dsimp only; omega) _⟩
                      case measure => simp [intOf]; omega
                    · have e10 : decide (x < 0) = false := by simpa using hx0
                      have e11 : decide (z + y < x) = true := by rw [decide_eq_true_eq]; omega
                      clear hcond
                      go_wp2_with fail
                      go_quiet (fail)
                      rename Nat => n1
                      go_wp2_with fail
                      go_roundw
                      case rel =>
                        exact ⟨t + 1, q + 1, _, _, Lib.hid (by rw [HTQ.out]; omega), by omega, by omega, by go_num, ((HL4.out.ext (ext_drewN (ext_refl _) n1)).set m (z + y)).setOther (by dsimp only; omega) _, ((HK4.out.ext (ext_drewN (ext_refl _) n1)).setOther (by dsimp only; omega) _).set m (t : Int), by rw [HI.out, if_pos rfl], (fun _ => by rw [HI.out, if_pos rfl]), (fun j h1 h2 => (if_neg (by omega)).trans (HGt.out j h1 h2)), (fun j h1 h2 => (if_neg (by omega)).trans (HHt.out j h1 h2)), ((ext_drewN HB4.out n1).setCell (p := ⟨w1.heap.size + 1, m, none⟩) (by dsimp only; omega) _).setCell (p := ⟨w1.heap.size, m, none⟩) (by dsimp only; omega) _⟩
                      case measure => simp [intOf]; omega
                  · have HI : Hid (ist r m (q + 1) = ist r m q) := Lib.hid (by rw [HIS.out]; exact if_neg (fun h => hcond h.2))
                    clear hf HIS
                    have e10 : decide (x < 0) = false := by rw [decide_eq_false_iff_not]; omega
                    have e11 : decide (z + y < x) = false := by rw [decide_eq_false_iff_not]; omega
                    clear hcond
                    go_wp2_with fail
                    go_quiet (fail)
                    rename Nat => n1
                    go_wp2_with fail
                    go_roundw
                    case rel => exact ⟨t + 1, q + 1, f, h, Lib.hid (by rw [HTQ.out]; omega), by omega, by omega, by go_num, HL4.out.ext (ext_drewN (ext_refl _) _), HK4.out.ext (ext_drewN (ext_refl _) _), by rw [HI.out, HX.out, HXM.out], by rw [HI.out]; exact HHM, HGt.out, HHt.out, ext_drewN HB4.out _⟩
                    case measure => simp [intOf]; omega
            · have e4 : ¬ (t:Int) < r.cs.length := by omega
              clear hl0 hl1 hl2 hl3
              go_wp2_with fail
              go_roundw
              case rel =>
                have htq := HTQ.out
                have hE := ist_end HV.out (k := m) (by omega)
                rw [show r.cs.length - m = q from by omega] at hE
                have hm1 := HHM.out
                rw [hE] at hfm hm1
                have hl9 := lc_nonneg HV.out m
                refine ⟨m, _, f, h, by omega, rfl, rfl, HLt.out, HKt.out, (fun j h1 h2 => ?_), (fun j h1 h2 => ?_), HBt.out⟩
                · by_cases hj : j = m
                  · rw [hj, hfm]
                  · exact HGt.out j (by omega) h2
                · by_cases hj : j = m
                  · rw [hj]; exact hm1 (by dsimp only; omega)
                  · exact HHt.out j (by omega) h2
              case measure => simp [intOf]

end Go.Proofs.Ytahcdofikfookaa
