/-
  Lifts, fifteenth part: the law FnLiftPlans: its walk.
-/
import Derived.Test.YtahcdofikfookaaLifts14
import Derived.Test.YtahcdofikfookaaLifts12
import Derived.Test.YtahcdofikfookaaLifts11
namespace Go.Proofs.Ytahcdofikfookaa
open Go.ChangeShapes Go.WideShapes Go.ChangeAt Go.RowKit Go.Sort
set_option linter.unusedVariables false

theorem a2_long (v0 v1 : Value) (x0 x1 : List UInt8) (w : World) (h0 : RB w v0 x0) (h1 : RB w v1 x1) :
    Calls Try.prog 20 #[v0, v1] w (RetP (.bool (decide (3000 < x0.length) || decide (3000 < x1.length))) w) := by
  obtain ⟨A, c, rfl, hc1, hc2, _⟩ := h0.open_
  obtain ⟨B, d, rfl, hd1, hd2, _⟩ := h1.open_
  clear h0 h1
  unfold maxLen at hc2 hd2
  by_cases h : 3000 < x0.length
  · have HX : Hid ((decide (3000 < x0.length) || decide (3000 < x1.length)) = true) := Lib.hid (by rw [decide_eq_true h]; rfl)
    have e1 : (3000:Int) < x0.length := by omega
    go_enter Try.func20, Try.ntmps20
    go_wp2_with fail
    go_ret
    exact ⟨ret_bool HX.out.symm, rfl⟩
  · have e1 : ¬ (3000:Int) < x0.length := by omega
    by_cases h2 : 3000 < x1.length
    · have HX : Hid ((decide (3000 < x0.length) || decide (3000 < x1.length)) = true) := Lib.hid (by rw [decide_eq_true h2, Bool.or_true])
      have e2 : (3000:Int) < x1.length := by omega
      go_enter Try.func20, Try.ntmps20
      go_wp2_with fail
      go_ret
      first | exact ⟨ret_bool HX.out.symm, rfl⟩ | exact ⟨rfl, rfl⟩
    · have HX : Hid ((decide (3000 < x0.length) || decide (3000 < x1.length)) = false) := Lib.hid (by rw [decide_eq_false h, decide_eq_false h2]; rfl)
      have e2 : ¬ (3000:Int) < x1.length := by omega
      go_enter Try.func20, Try.ntmps20
      go_wp2_with fail
      go_ret
      first | exact ⟨ret_bool HX.out.symm, rfl⟩ | exact ⟨rfl, rfl⟩

theorem oi_blk {w : World} {base : Nat} {A : Option Addr} {n c : Nat} {xs : List Int} (h : OI w base (.slice A n c) xs) (h0 : 0 < xs.length) : ∃ g, A = some ⟨g, 0, none⟩ := by
  rcases h.2 with ⟨_, h1⟩ | ⟨g, cap, cur, hv, hg, _⟩
  · omega
  · injection hv with e1 _ _
    exact ⟨g, e1⟩
theorem mB {r : RS} (hv : vRise r = true) : mBestPlan r = (pfrom r r.cs.length 0, 0) := by unfold mBestPlan; rw [hv]; rfl
theorem best_pf {r : RS} (hv : vRise r = true) : PF r 0 (pfrom r r.cs.length 0) (lc r 0) := PF.best hv _ 0 (Nat.zero_le _) (by omega)

set_option maxHeartbeats 6400000 in
set_option maxRecDepth 100000 in
theorem law_FnLiftPlans (v0 : Value) (x0 : List UInt8) (v1 : Value) (x1 : List UInt8) (w : World) (h0 : RB w v0 x0) (h1 : RB w v1 x1) :
    Calls Try.prog 5 #[v0, v1] w (Ret (.bool true) w) := by
  have H0 := Lib.hid h0
  have H1 := Lib.hid h1
  clear h0 h1
  go_enter Try.func5, Try.ntmps5
  go_wp2_with fail
  refine (a2_long v0 v1 x0 x1 _ H0.out H1.out).mono ?_
  rintro e w1 ⟨rfl, rfl⟩
  cases hlg : (decide (3000 < x0.length) || decide (3000 < x1.length)) with
  | true =>
    clear hlg
    go_wp2_with fail
    go_ret
    exact ⟨rfl, ext_refl _⟩
  | false =>
    clear hlg
    go_wp2_with fail
    refine (a2_rise v0 x0 _ H0.out).mono ?_
    rintro e w1 ⟨v', r, rfl, hO, hv, hb⟩
    obtain ⟨A, c, rfl, hOI⟩ := hO
    have HV := Lib.hid hv
    obtain ⟨g1, g2, g3, g4, g5⟩ := vRise_iff.1 hv
    have hlen : r.cs.length ≤ 40 := by omega
    have hlen1 : 1 ≤ r.cs.length := by omega
    have HSM : Hid (SmSR r) := Lib.hid (by unfold SmSR; omega)
    have HW1 := Lib.hid hb
    have HR1 := Lib.hid hOI.rd
    have hst : 0 ≤ r.setup ∧ r.setup ≤ 10000 := g4
    clear hb hOI hv g1 g2 g3 g4 g5
    have HP2 := Lib.hid (pr_box (T := 27) HR1.out)
    have HW2 := Lib.hid (ext_trans HW1.out (ext_alloc1 w1 (.cells #[.slice A r.cs.length c, .int .i64 r.reach, .int .i64 r.setup, .int .i64 r.easy] 27)))
    have HR2 := Lib.hid (HR1.out.ext (ext_alloc1 w1 (.cells #[.slice A r.cs.length c, .int .i64 r.reach, .int .i64 r.setup, .int .i64 r.easy] 27)))
    have HX2 : Hid (BX (w1.alloc (.cells #[.slice A r.cs.length c, .int .i64 r.reach, .int .i64 r.setup, .int .i64 r.easy] 27)) w1.heap.size (.slice A r.cs.length c) (.int .i64 r.reach) (.int .i64 r.setup) (.int .i64 r.easy)) := Lib.hid (bx_box _ _ _ _ _ _)
    go_wp2_with fail
    generalize w1.alloc (.cells #[.slice A r.cs.length c, .int .i64 r.reach, .int .i64 r.setup, .int .i64 r.easy] 27) = w2 at *
    generalize w1.heap.size = p at *
    have HSR : Hid (∀ W', Below w2.heap.size w2 W' → SR W' (.agg #[.slice A r.cs.length c, .int .i64 r.reach, .int .i64 r.setup, .int .i64 r.easy]) r) := Lib.hid fun W' h => ⟨_, _, rfl, HR2.out.ext h⟩
    have HBX : Hid (∀ W', Below w2.heap.size w2 W' → W'.cell? ⟨p, 0, none⟩ = some (.slice A r.cs.length c) ∧ W'.cell? ⟨p, 1, none⟩ = some (.int .i64 r.reach) ∧ W'.cell? ⟨p, 2, none⟩ = some (.int .i64 r.setup) ∧ W'.cell? ⟨p, 3, none⟩ = some (.int .i64 r.easy)) := Lib.hid fun W' h => by
      obtain ⟨h0, h1, h2, h3, _⟩ := HX2.out
      exact ⟨cell_keep h0 h, cell_keep h1 h, cell_keep h2 h, cell_keep h3 h⟩
    clear HX2 HP2 HR2 HR1
    have hBP := impl_BestPlan (.agg #[.slice A r.cs.length c, .int .i64 r.reach, .int .i64 r.setup, .int .i64 r.easy]) r w2 (HSR.out w2 (ext_refl _)) HSM.out
    rw [mB HV.out] at hBP
    have hPF := best_pf HV.out
    obtain ⟨xs, hxs⟩ : ∃ xs, pfrom r r.cs.length 0 = xs := ⟨_, rfl⟩
    rw [hxs] at hBP hPF
    have HPF := Lib.hid hPF
    have HBP := Lib.hid hBP
    clear hBP hPF hxs
    refine (show Calls _ _ _ _ _ from HBP.out).mono ?_
    rintro e w3 ⟨vb, rfl, hOb, hsb, hb⟩
    obtain ⟨hpl, hx0⟩ := HPF.out.plan (by omega)
    have HPL := Lib.hid hpl
    have HSB := Lib.hid hsb
    have hxl : xs.length ≤ 1048576 := hsb
    obtain ⟨B, d, rfl, _, _, _⟩ := hOb.rd.open2
    have HRB := Lib.hid hOb.rd
    have HW3 := Lib.hid hb
    obtain ⟨g, rfl⟩ := oi_blk hOb hx0
    have HSR3 : Hid (∀ W', Below w3.heap.size w3 W' → SR W' (.agg #[.slice A r.cs.length c, .int .i64 r.reach, .int .i64 r.setup, .int .i64 r.easy]) r) := Lib.hid fun W' h => HSR.out W' (ext_trans HW3.out h)
    have HBX3 : Hid (∀ W', Below w3.heap.size w3 W' → W'.cell? ⟨p, 0, none⟩ = some (.slice A r.cs.length c) ∧ W'.cell? ⟨p, 1, none⟩ = some (.int .i64 r.reach) ∧ W'.cell? ⟨p, 2, none⟩ = some (.int .i64 r.setup) ∧ W'.cell? ⟨p, 3, none⟩ = some (.int .i64 r.easy)) := Lib.hid fun W' h => HBX.out W' (ext_trans HW3.out h)
    have HBC : Hid (∀ W', Below w3.heap.size w3 W' → ∀ j, j < xs.length → W'.cell? ⟨g, j, none⟩ = some (.int .i64 (gi xs j))) := Lib.hid fun W' h j hj => by
      obtain ⟨ad', he, _, hc⟩ := (HRB.out.ext h).at2 hj
      injection he with he
      subst he
      have := hc j hj
      rwa [show (⟨g, 0, none⟩ : Addr).add j = ⟨g, j, none⟩ from by unfold Addr.add; split <;> simp_all] at this
    have HRX : Hid (∀ W', Below w3.heap.size w3 W' → RI W' (.slice (some ⟨g, 0, none⟩) xs.length d) xs) := Lib.hid fun W' h => HRB.out.ext h
    have HPB : Hid (∀ k, k ≤ xs.length → 0 ≤ psum r xs k ∧ psum r xs k ≤ 410000 * (k : Int)) := Lib.hid fun k hk => psum_bd HV.out (plan_out HPL.out) k hk (fun j h1 h2 => by
      obtain ⟨q1, q2, q3, q4⟩ := HPF.out.at j (by omega)
      obtain ⟨q5, _⟩ := HPF.out.at (j + 1) h2
      have : ends r xs j = pl xs (j + 1) := by unfold ends; rw [if_pos h2]
      omega)
    clear hOb hsb hb hpl HBP HSR HBX HRB
    obtain ⟨q0, q1, q2, q3⟩ := HBX3.out _ (ext_refl w3)
    have HIL := Lib.hid (impl_IsLiftPlan (.agg #[.slice A r.cs.length c, .int .i64 r.reach, .int .i64 r.setup, .int .i64 r.easy]) r (.slice (some ⟨g, 0, none⟩) xs.length d) xs w3 (HSR3.out _ (ext_refl _)) HSM.out (HRX.out _ (ext_refl _)) HSB.out)
    rw [show mIsLiftPlan r xs = (true, 0) from by unfold mIsLiftPlan; rw [HV.out, HPL.out]; rfl] at HIL
    go_wp2_with fail
    refine (show Calls _ _ _ _ _ from HIL.out).mono ?_
    rintro e w4 ⟨rfl, hb⟩
    have HB4 := Lib.hid hb
    clear q0 q1 q2 q3 HIL
    obtain ⟨q0, q1, q2, q3⟩ := HBX3.out _ hb
    have HPC := Lib.hid (impl_PlanCost (.agg #[.slice A r.cs.length c, .int .i64 r.reach, .int .i64 r.setup, .int .i64 r.easy]) r (.slice (some ⟨g, 0, none⟩) xs.length d) xs w4 (HSR3.out _ hb) HSM.out (HRX.out _ hb) HSB.out)
    rw [show mPlanCost r xs = (lc r 0, 0) from by unfold mPlanCost; rw [HV.out, HPL.out, HPF.out.sum]; rfl] at HPC
    clear hb
    go_wp2_with fail
    refine (show Calls _ _ _ _ _ from HPC.out).mono ?_
    rintro e w5 ⟨rfl, hb⟩
    have HB5 := Lib.hid (ext_trans HB4.out hb)
    clear q0 q1 q2 q3 HPC hb
    obtain ⟨q0, q1, q2, q3⟩ := HBX3.out _ HB5.out
    have HFL := Lib.hid (impl_FewestLifts (.agg #[.slice A r.cs.length c, .int .i64 r.reach, .int .i64 r.setup, .int .i64 r.easy]) r w5 (HSR3.out _ HB5.out) HSM.out)
    have hfl := few_plan HV.out HPF.out
    have hfl1 := (few_le r r.cs.length).2.2
    obtain ⟨F, hF⟩ : ∃ F, (few r r.cs.length).1 = F := ⟨_, rfl⟩
    rw [show mFewestLifts r = (((few r r.cs.length).1 : Int), 0) from by unfold mFewestLifts; rw [HV.out]; rfl, hF] at HFL
    rw [hF] at hfl hfl1
    have HF := Lib.hid hF; clear hF
    obtain ⟨lcv, hlc⟩ : ∃ z, lc r 0 = z := ⟨_, rfl⟩
    rw [hlc]
    have HLC := Lib.hid hlc; clear hlc
    go_wp2_with fail
    refine (show Calls _ _ _ _ _ from HFL.out).mono ?_
    rintro e w6 ⟨rfl, hb⟩
    have HB6 := Lib.hid (ext_trans HB5.out hb)
    clear q0 q1 q2 q3 HFL hb
    obtain ⟨q0, q1, q2, q3⟩ := HBX3.out _ HB6.out
    have HVR := Lib.hid (spec_ValidRise (.agg #[.slice A r.cs.length c, .int .i64 r.reach, .int .i64 r.setup, .int .i64 r.easy]) r w6 (HSR3.out _ HB6.out) HSM.out)
    rw [HV.out] at HVR
    have e1 : decide ((xs.length : Int) < 1) = false := decide_eq_false (by omega)
    have e2 : decide ((F : Int) < 1) = false := decide_eq_false (by omega)
    have e3 : decide ((xs.length : Int) < (F : Int)) = false := decide_eq_false (by omega)
    have e4 : ¬ (xs.length : Int) < 1 := by omega
    have e5 : ¬ (F : Int) < 1 := by omega
    have e6 : ¬ (xs.length : Int) < F := by omega
    go_wp2_with fail
    refine (show Calls _ _ _ _ _ from HVR.out).mono ?_
    rintro e w7 ⟨rfl, hb⟩
    have HB7 := Lib.hid (ext_trans HB6.out hb)
    clear q0 q1 q2 q3 HVR hb e1 e2 e3 e4 e5 e6
    go_wp2_with fail
    go_loopw [14, 15] (fun s i wr => ∃ k : Nat, k ≤ xs.length ∧ i = .int .i64 k ∧ s = .int .i64 (psum r xs k) ∧ Below w3.heap.size w3 wr) (fun _ i _ => xs.length - (intOf i).toNat)
    case atStart => exact ⟨0, Nat.zero_le _, rfl, rfl, HB7.out⟩
    case round =>
      obtain ⟨k, hk, rfl, rfl, hbw⟩ := hrel
      have HB := Lib.hid hbw
      by_cases hlt : k < xs.length
      · obtain ⟨hgi, hpe, hen, hfi⟩ := HPF.out.at k hlt
        obtain ⟨q0, q1, q2, q3⟩ := HBX3.out _ hbw
        have q4 := HBC.out _ hbw k hlt
        obtain ⟨P, hP⟩ : ∃ P, pl xs k = P := ⟨_, rfl⟩
        rw [hP] at hgi hpe hfi
        rw [hgi] at q4
        have HGI := Lib.hid hgi
        have b0 : ∀ d os, (grow (redrawn wr d) os).cell? ⟨p, 0, none⟩ = some (.slice A r.cs.length c) := fun d os => cell_regrown q0 d os
        have b1 : ∀ d os, (grow (redrawn wr d) os).cell? ⟨p, 1, none⟩ = some (.int .i64 r.reach) := fun d os => cell_regrown q1 d os
        have b2 : ∀ d os, (grow (redrawn wr d) os).cell? ⟨p, 2, none⟩ = some (.int .i64 r.setup) := fun d os => cell_regrown q2 d os
        have b3 : ∀ d os, (grow (redrawn wr d) os).cell? ⟨p, 3, none⟩ = some (.int .i64 r.easy) := fun d os => cell_regrown q3 d os
        have b4 : ∀ d os, (grow (redrawn wr d) os).cell? ⟨g, k, none⟩ = some (.int .i64 P) := fun d os => cell_regrown q4 d os
        have e10 : (k:Int) < xs.length := by omega
        have e12 : (0:Int) ≤ k := by omega
        by_cases hnx : k + 1 < xs.length
        · have q5 := HBC.out _ hbw (k + 1) hnx
          obtain ⟨E, hE⟩ : ∃ E, ends r xs k = E := ⟨_, rfl⟩
          have hE2 : gi xs (k + 1) = (E : Int) := by rw [(HPF.out.at (k + 1) hnx).1, ← hE]; unfold ends; rw [if_pos hnx]
          rw [hE2] at q5
          have HPE : Hid (cost r (pl xs k) (ends r xs k) = cost r P E) := Lib.hid (by rw [hP, hE])
          rw [hE] at hpe hen hfi
          have HFI := Lib.hid hfi
          have e11 : (k:Int) + 1 < xs.length := by omega
          clear hgi hfi hE hE2 hP hbw q4 q1 q2 q3 hnx
          have hLC : mLiftCost r (P : Int) (E : Int) = (cost r P E, 0) := by
            unfold mLiftCost
            rw [HV.out, inB_yes (show (1:Int) ≤ (E : Int) by omega) (show (E : Int) ≤ r.cs.length by omega), inB_yes (show (0:Int) ≤ (P : Int) by omega) (show (P : Int) ≤ (E : Int) - 1 by omega), Int.toNat_natCast, Int.toNat_natCast, HFI.out]; rfl
          have hcb := cost_bd r HV.out (a := P) (b := E) (by omega) (by omega)
          obtain ⟨z, hz⟩ : ∃ z, cost r P E = z := ⟨_, rfl⟩
          have HC1 : Hid (∀ w, Below w3.heap.size w3 w → Calls Try.prog 26 #[.agg #[.slice A r.cs.length c, .int .i64 r.reach, .int .i64 r.setup, .int .i64 r.easy], .int .i64 P, .int .i64 E] w (Ret (.tuple #[.int .i64 z, .int .i64 0]) w)) := Lib.hid fun w h => by
            have := impl_LiftCost (.agg #[.slice A r.cs.length c, .int .i64 r.reach, .int .i64 r.setup, .int .i64 r.easy]) r P E w (HSR3.out w h) HSM.out
            rwa [hLC, hz] at this
          rw [hz] at hcb
          have HZ := Lib.hid hz
          have HS1 := Lib.hid (psum_succ r xs k)
          have hps := HPB.out k hk
          clear hLC hz
          go_wp2_with fail
          refine wp_region_quiet_below (by kernel_rfl) (by kernel_rfl) ?_
          repeat (go_big_quiet_step ((go_at_call 26; exact regrown_r (HC1.out _ (ext_trans HB.out (below_regrown _ _ _))))))
          refine wpQuiet_nil ?_
          intro w' hw'
          obtain ⟨pp, rfl⟩ := hw'
          have HB4 := Lib.hid (ext_trans HB.out (below_regrown wr pp.d pp.os))
          have c2 := b2 pp.d pp.os
          have c4 := b4 pp.d pp.os
          clear b0 b1 b2 b3 b4 HC1
          generalize grow (redrawn wr pp.d) pp.os = w4 at *
          go_wp2_with fail
          clear c2 c4
          go_loopw [19, 20] (fun f q wr => ∃ j : Nat, P ≤ j ∧ j ≤ E ∧ q = .int .i64 j ∧ f = .int .i64 (r.setup + csum r P j) ∧ Below w3.heap.size w3 wr) (fun _ q _ => E - (intOf q).toNat)
          case atStart => exact ⟨P, Nat.le_refl _, by omega, rfl, by rw [csum_self, Int.add_zero], HB4.out⟩
          case round =>
            obtain ⟨j, hj1, hj2, rfl, rfl, hbw⟩ := hrel
            have HB5 := Lib.hid hbw
            have hcs := csum_bd r HV.out P j hj1 (by omega)
            by_cases hjl : j < E
            · obtain ⟨q0, q1, q2, q3⟩ := HBX3.out _ hbw
              have q4 := HBC.out _ hbw k hlt
              rw [HGI.out] at q4
              have b0 : ∀ d os, (grow (redrawn wr d) os).cell? ⟨p, 0, none⟩ = some (.slice A r.cs.length c) := fun d os => cell_regrown q0 d os
              have b1 : ∀ d os, (grow (redrawn wr d) os).cell? ⟨p, 1, none⟩ = some (.int .i64 r.reach) := fun d os => cell_regrown q1 d os
              have b2 : ∀ d os, (grow (redrawn wr d) os).cell? ⟨p, 2, none⟩ = some (.int .i64 r.setup) := fun d os => cell_regrown q2 d os
              have b3 : ∀ d os, (grow (redrawn wr d) os).cell? ⟨p, 3, none⟩ = some (.int .i64 r.easy) := fun d os => cell_regrown q3 d os
              have b4 : ∀ d os, (grow (redrawn wr d) os).cell? ⟨g, k, none⟩ = some (.int .i64 P) := fun d os => cell_regrown q4 d os
              have hEF : mEffortOf r (P : Int) (j : Int) = (eff r P j, 0) := by
                unfold mEffortOf
                rw [HV.out, inB_yes (show (0:Int) ≤ (j : Int) by omega) (show (j : Int) ≤ (r.cs.length : Int) - 1 by omega), inB_yes (show (0:Int) ≤ (P : Int) by omega) (show (P : Int) ≤ (j : Int) by omega), Int.toNat_natCast, Int.toNat_natCast]; rfl
              have hef := eff_bd r HV.out (a := P) (k := j) hj1 (by omega)
              obtain ⟨y, hy⟩ : ∃ y, eff r P j = y := ⟨_, rfl⟩
              have HC2 : Hid (∀ w, Below w3.heap.size w3 w → Calls Try.prog 27 #[.agg #[.slice A r.cs.length c, .int .i64 r.reach, .int .i64 r.setup, .int .i64 r.easy], .int .i64 P, .int .i64 j] w (Ret (.tuple #[.int .i64 y, .int .i64 0]) w)) := Lib.hid fun w h => by
                have := impl_EffortOf (.agg #[.slice A r.cs.length c, .int .i64 r.reach, .int .i64 r.setup, .int .i64 r.easy]) r P j w (HSR3.out w h) HSM.out
                rwa [hEF, hy] at this
              rw [hy] at hef
              have HCS : Hid (csum r P (j + 1) = csum r P j + y) := Lib.hid (by rw [csum_succ r hj1, hy])
              have e20 : (j:Int) < (E : Int) := by omega
              clear q0 q1 q2 q3 q4 hbw hEF hy
              go_wp2_with fail
              refine wp_region_quiet_below (by kernel_rfl) (by kernel_rfl) ?_
              repeat (go_big_quiet_step ((go_at_call 27; exact regrown_r (HC2.out _ (ext_trans HB5.out (below_regrown _ _ _))))))
              refine wpQuiet_nil ?_
              intro w' hw'
              obtain ⟨pp, rfl⟩ := hw'
              clear b0 b1 b2 b3 b4 HC2
              have e21 : decide (y < 0) = false := decide_eq_false (by omega)
              go_wp2_with fail
              go_roundw
              case rel => exact ⟨j + 1, by omega, by omega, by go_num, by rw [HCS.out, Int.add_assoc], ext_trans HB5.out (below_regrown _ _ _)⟩
              case measure => simp [intOf]; omega
            · have hje : j = E := by omega
              have HZ2 : Hid (r.setup + csum r P j = z) := Lib.hid (by rw [hje, ← HZ.out]; rfl)
              have e20 : ¬ (j:Int) < (E : Int) := by omega
              clear hje
              rw [HZ2.out]
              go_wp2_with fail
              first
                | (refine ⟨⟨_, _, _, ⟨k + 1, by omega, rfl, rfl⟩, rfl, ?_, congrArg (Value.int .i64) (by omega)⟩, by simp [intOf]; omega⟩; rw [HS1.out, HPE.out, HZ.out])
                | (go_roundw
                   case rel => exact ⟨k + 1, by omega, by go_num, by rw [HS1.out, HPE.out, HZ.out], HB5.out⟩
                   case measure => simp [intOf]; omega)
        · obtain ⟨E, hE⟩ : ∃ E, ends r xs k = E := ⟨_, rfl⟩
          have hEn : (r.cs.length : Int) = (E : Int) := by rw [← hE]; unfold ends; rw [if_neg hnx]
          have HPE : Hid (cost r (pl xs k) (ends r xs k) = cost r P E) := Lib.hid (by rw [hP, hE])
          rw [hE] at hpe hen hfi
          have HFI := Lib.hid hfi
          have e11 : ¬ (k:Int) + 1 < xs.length := by omega
          clear hgi hfi hE hP hbw q4 q1 q2 q3 hnx
          have hLC : mLiftCost r (P : Int) (E : Int) = (cost r P E, 0) := by
            unfold mLiftCost
            rw [HV.out, inB_yes (show (1:Int) ≤ (E : Int) by omega) (show (E : Int) ≤ r.cs.length by omega), inB_yes (show (0:Int) ≤ (P : Int) by omega) (show (P : Int) ≤ (E : Int) - 1 by omega), Int.toNat_natCast, Int.toNat_natCast, HFI.out]; rfl
          have hcb := cost_bd r HV.out (a := P) (b := E) (by omega) (by omega)
          obtain ⟨z, hz⟩ : ∃ z, cost r P E = z := ⟨_, rfl⟩
          have HC1 : Hid (∀ w, Below w3.heap.size w3 w → Calls Try.prog 26 #[.agg #[.slice A r.cs.length c, .int .i64 r.reach, .int .i64 r.setup, .int .i64 r.easy], .int .i64 P, .int .i64 E] w (Ret (.tuple #[.int .i64 z, .int .i64 0]) w)) := Lib.hid fun w h => by
            have := impl_LiftCost (.agg #[.slice A r.cs.length c, .int .i64 r.reach, .int .i64 r.setup, .int .i64 r.easy]) r P E w (HSR3.out w h) HSM.out
            rwa [hLC, hz] at this
          rw [hz] at hcb
          have HZ := Lib.hid hz
          have HS1 := Lib.hid (psum_succ r xs k)
          have hps := HPB.out k hk
          clear hLC hz
          go_wp2_with fail
          refine wp_region_quiet_below (by kernel_rfl) (by kernel_rfl) ?_
          repeat (go_big_quiet_step ((go_at_call 26; exact regrown_r (HC1.out _ (ext_trans HB.out (below_regrown _ _ _))))))
          refine wpQuiet_nil ?_
          intro w' hw'
          obtain ⟨pp, rfl⟩ := hw'
          have HB4 := Lib.hid (ext_trans HB.out (below_regrown wr pp.d pp.os))
          have c2 := b2 pp.d pp.os
          have c4 := b4 pp.d pp.os
          clear b0 b1 b2 b3 b4 HC1
          generalize grow (redrawn wr pp.d) pp.os = w4 at *
          go_wp2_with fail
          clear c2 c4
          go_loopw [19, 20] (fun f q wr => ∃ j : Nat, P ≤ j ∧ j ≤ E ∧ q = .int .i64 j ∧ f = .int .i64 (r.setup + csum r P j) ∧ Below w3.heap.size w3 wr) (fun _ q _ => E - (intOf q).toNat)
          case atStart => exact ⟨P, Nat.le_refl _, by omega, rfl, by rw [csum_self, Int.add_zero], HB4.out⟩
          case round =>
            obtain ⟨j, hj1, hj2, rfl, rfl, hbw⟩ := hrel
            have HB5 := Lib.hid hbw
            have hcs := csum_bd r HV.out P j hj1 (by omega)
            by_cases hjl : j < E
            · obtain ⟨q0, q1, q2, q3⟩ := HBX3.out _ hbw
              have q4 := HBC.out _ hbw k hlt
              rw [HGI.out] at q4
              have b0 : ∀ d os, (grow (redrawn wr d) os).cell? ⟨p, 0, none⟩ = some (.slice A r.cs.length c) := fun d os => cell_regrown q0 d os
              have b1 : ∀ d os, (grow (redrawn wr d) os).cell? ⟨p, 1, none⟩ = some (.int .i64 r.reach) := fun d os => cell_regrown q1 d os
              have b2 : ∀ d os, (grow (redrawn wr d) os).cell? ⟨p, 2, none⟩ = some (.int .i64 r.setup) := fun d os => cell_regrown q2 d os
              have b3 : ∀ d os, (grow (redrawn wr d) os).cell? ⟨p, 3, none⟩ = some (.int .i64 r.easy) := fun d os => cell_regrown q3 d os
              have b4 : ∀ d os, (grow (redrawn wr d) os).cell? ⟨g, k, none⟩ = some (.int .i64 P) := fun d os => cell_regrown q4 d os
              have hEF : mEffortOf r (P : Int) (j : Int) = (eff r P j, 0) := by
                unfold mEffortOf
                rw [HV.out, inB_yes (show (0:Int) ≤ (j : Int) by omega) (show (j : Int) ≤ (r.cs.length : Int) - 1 by omega), inB_yes (show (0:Int) ≤ (P : Int) by omega) (show (P : Int) ≤ (j : Int) by omega), Int.toNat_natCast, Int.toNat_natCast]; rfl
              have hef := eff_bd r HV.out (a := P) (k := j) hj1 (by omega)
              obtain ⟨y, hy⟩ : ∃ y, eff r P j = y := ⟨_, rfl⟩
              have HC2 : Hid (∀ w, Below w3.heap.size w3 w → Calls Try.prog 27 #[.agg #[.slice A r.cs.length c, .int .i64 r.reach, .int .i64 r.setup, .int .i64 r.easy], .int .i64 P, .int .i64 j] w (Ret (.tuple #[.int .i64 y, .int .i64 0]) w)) := Lib.hid fun w h => by
                have := impl_EffortOf (.agg #[.slice A r.cs.length c, .int .i64 r.reach, .int .i64 r.setup, .int .i64 r.easy]) r P j w (HSR3.out w h) HSM.out
                rwa [hEF, hy] at this
              rw [hy] at hef
              have HCS : Hid (csum r P (j + 1) = csum r P j + y) := Lib.hid (by rw [csum_succ r hj1, hy])
              have e20 : (j:Int) < (E : Int) := by omega
              clear q0 q1 q2 q3 q4 hbw hEF hy
              go_wp2_with fail
              refine wp_region_quiet_below (by kernel_rfl) (by kernel_rfl) ?_
              repeat (go_big_quiet_step ((go_at_call 27; exact regrown_r (HC2.out _ (ext_trans HB5.out (below_regrown _ _ _))))))
              refine wpQuiet_nil ?_
              intro w' hw'
              obtain ⟨pp, rfl⟩ := hw'
              clear b0 b1 b2 b3 b4 HC2
              have e21 : decide (y < 0) = false := decide_eq_false (by omega)
              go_wp2_with fail
              go_roundw
              case rel => exact ⟨j + 1, by omega, by omega, by go_num, by rw [HCS.out, Int.add_assoc], ext_trans HB5.out (below_regrown _ _ _)⟩
              case measure => simp [intOf]; omega
            · have hje : j = E := by omega
              have HZ2 : Hid (r.setup + csum r P j = z) := Lib.hid (by rw [hje, ← HZ.out]; rfl)
              have e20 : ¬ (j:Int) < (E : Int) := by omega
              clear hje
              rw [HZ2.out]
              go_wp2_with fail
              first
                | (refine ⟨⟨_, _, _, ⟨k + 1, by omega, rfl, rfl⟩, rfl, ?_, congrArg (Value.int .i64) (by omega)⟩, by simp [intOf]; omega⟩; rw [HS1.out, HPE.out, HZ.out])
                | (go_roundw
                   case rel => exact ⟨k + 1, by omega, by go_num, by rw [HS1.out, HPE.out, HZ.out], HB5.out⟩
                   case measure => simp [intOf]; omega)
      · have hkn : k = xs.length := by omega
        subst hkn
        have HSUM : Hid (psum r xs xs.length = lcv) := Lib.hid (by rw [HPF.out.sum, HLC.out])
        obtain ⟨q0, q1, q2, q3⟩ := HBX3.out _ hbw
        have HAP := Lib.hid (a2_plan v1 x1 (.agg #[.slice A r.cs.length c, .int .i64 r.reach, .int .i64 r.setup, .int .i64 r.easy]) r wr (H1.out.ext (ext_trans HW2.out (ext_trans HW3.out hbw))) (HSR3.out _ hbw) hlen)
        have e10 : ¬ (xs.length:Int) < xs.length := by omega
        clear hbw
        rw [HSUM.out]
        go_wp2_with fail
        refine (show Calls _ _ _ _ _ from HAP.out).mono ?_
        rintro e w8 ⟨v8, ys, rfl, hO8, hy8, hb⟩
        have HB8 := Lib.hid (ext_trans HB.out hb)
        have hsy : SmI ys := by unfold SmI; omega
        obtain ⟨C8, d8, rfl, hd1, hd2, _⟩ := hO8.rd.open2
        have HP8 := Lib.hid (impl_PlanCost (.agg #[.slice A r.cs.length c, .int .i64 r.reach, .int .i64 r.setup, .int .i64 r.easy]) r (.slice C8 ys.length d8) ys w8 (HSR3.out _ HB8.out) HSM.out hO8.rd hsy)
        clear q0 q1 q2 q3 HAP hb hO8
        obtain ⟨q0, q1, q2, q3⟩ := HBX3.out _ HB8.out
        unfold maxLen at hd2
        cases hip : isPlan r ys with
        | false =>
          rw [show mPlanCost r ys = (0, 6) from by unfold mPlanCost; rw [HV.out, hip]; rfl] at HP8
          clear hip
          go_wp2_with fail
          refine (show Calls _ _ _ _ _ from HP8.out).mono ?_
          rintro e w9 ⟨rfl, hb⟩
          have HB9 := Lib.hid (ext_trans HB8.out hb)
          clear q0 q1 q2 q3 HP8 hb
          go_wp2_with fail
          go_ret
          exact ⟨ret_bool (by simp), ext_trans HW2.out (ext_trans HW3.out HB9.out)⟩
        | true =>
          rw [show mPlanCost r ys = (psum r ys ys.length, 0) from by unfold mPlanCost; rw [HV.out, hip]; rfl] at HP8
          have hPFy := PF.of_plan hip
          have hle := hPFy.le HV.out
          have hfy := few_plan HV.out hPFy
          rw [HLC.out] at hle
          rw [HF.out] at hfy
          obtain ⟨z9, hz9⟩ : ∃ z, psum r ys ys.length = z := ⟨_, rfl⟩
          rw [hz9] at hle HP8
          have e13 : decide (lcv ≤ z9) = true := decide_eq_true hle
          have e14 : decide ((F:Int) ≤ (ys.length : Int)) = true := decide_eq_true (by omega)
          clear hip hPFy hz9
          go_wp2_with fail
          refine (show Calls _ _ _ _ _ from HP8.out).mono ?_
          rintro e w9 ⟨rfl, hb⟩
          have HB9 := Lib.hid (ext_trans HB8.out hb)
          clear q0 q1 q2 q3 HP8 hb
          go_wp2_with fail
          go_ret
          exact ⟨ret_bool (by simp), ext_trans HW2.out (ext_trans HW3.out HB9.out)⟩

end Go.Proofs.Ytahcdofikfookaa
