/-
  Lifts, tenth part: BestPlan.
-/
import Derived.Test.YtahcdofikfookaaLifts7
import Derived.Test.YtahcdofikfookaaLifts9
import Derived.Deep.OwnRows
import Derived.IntWalk
namespace Go.Proofs.Ytahcdofikfookaa
open Go.ChangeShapes Go.WideShapes Go.ChangeAt Go.RowKit Go.Sort
set_option linter.unusedVariables false

/-- Block b holds the numbers g 0 .. g n. -/
def LR (w : World) (b n : Nat) (g : Nat → Int) : Prop := w.rowIs b 2 (n + 1) (fun j => .int .i64 (g j))
theorem LR.ext {w w' : World} {b n : Nat} {g : Nat → Int} (h : LR w b n g) (hb : Below w.heap.size w w') : LR w' b n g := World.rowIs.of_block h (hb.block b (World.rowIs.lt h))
theorem LR.chg {S : Nat → Prop} {w w' : World} {b n : Nat} {g : Nat → Int} (h : LR w b n g) (hb : Chg S w w') (hS : ¬ S b) : LR w' b n g := World.rowIs.of_block h (hb.block b (World.rowIs.lt h) hS)
theorem LR.cell {w : World} {b n : Nat} {g : Nat → Int} (h : LR w b n g) {i : Nat} (hi : i ≤ n) : w.cell? ⟨b, i, none⟩ = some (.int .i64 (g i)) := World.rowIs.cell h (by omega)
theorem LR.frozen {w : World} {b n : Nat} {g : Nat → Int} (h : LR w b n g) (i : Nat) : w.frozen? ⟨b, i, none⟩ = false := World.rowIs.frozen h i
theorem LR.set {w : World} {b n : Nat} {g : Nat → Int} (h : LR w b n g) (i : Nat) (x : Int) : LR (w.setCell ⟨b, i, none⟩ (.int .i64 x)) b n (fun j => if j = i then x else g j) :=
  World.rowIs.congr (World.rowIs.set h i (.int .i64 x)) fun j _ => by dsimp only; split <;> rfl
theorem LR.setOther {w : World} {b n : Nat} {g : Nat → Int} (h : LR w b n g) {a : Addr} (ha : b ≠ a.block) (x : Value) : LR (w.setCell a x) b n g := World.rowIs.setOther h ha x
theorem LR.congr {w : World} {b n : Nat} {g f : Nat → Int} (h : LR w b n g) (e : ∀ i, i ≤ n → g i = f i) : LR w b n f := World.rowIs.congr h fun i hi => by rw [e i (by omega)]
theorem LR.made (w : World) (n : Nat) : LR (w.alloc (.cells (madeCells #[Value.int .i64 0] (n + 1)) 2)) w.heap.size n (fun _ => 0) := World.rowIs_made _ _ _ _
theorem make_ints {n : Nat} (hn : n ≤ 1048576) (w : World) :
    (Instr.makeSlice 22 (.int .i64 ((n : Int) + 1)) (.int .i64 ((n : Int) + 1))).run Try.prog w = .ok (.slice (some ⟨w.heap.size, 0, none⟩) (n + 1) (n + 1)) (w.alloc (.cells (madeCells #[Value.int .i64 0] (n + 1)) 2)) :=
  run_make_row' 22 2 (.int .i64 0) 8 Try.underlying22 info_int rfl .i64 .i64 (n + 1) (by omega) (by omega) w

set_option maxHeartbeats 3200000 in
theorem spec_BestPlan (u : Value) (r : RS) (w : World) (hS : SR w u r) (hsm : SmSR r) :
    Calls Try.prog 36 #[u] w (RetI (mBestPlan r).1 (mBestPlan r).2 w) := by
  obtain ⟨A, c, rfl, hf⟩ := hS
  have HP := Lib.hid (pr_box (T := 27) hf)
  have HS := Lib.hid hsm; clear hsm hf
  go_enter Try.func36, Try.ntmps36
  go_wp2_with fail
  refine (spec_okR _ r HS.out _ HP.out).mono ?_
  rintro e w1 ⟨rfl, rfl⟩
  cases hv : vRise r with
  | false =>
    have HM : Hid (mBestPlan r = ([], 1)) := Lib.hid (by unfold mBestPlan; rw [hv]; rfl)
    clear hv
    go_wp2_with fail
    go_ret2
    rw [HM.out]
    exact ⟨_, rfl, oi_nil _ _, by simp [SmI], ext_alloc1 _ _⟩
  | true =>
    have HV := Lib.hid hv
    have HM : Hid (mBestPlan r = (pfrom r r.cs.length 0, 0)) := Lib.hid (by unfold mBestPlan; rw [hv]; rfl)
    obtain ⟨g1, g2, g3, g4, g5⟩ := vRise_iff.1 hv
    clear hv g1 g3 g4 g5
    have hlen : r.cs.length ≤ 40 := by omega
    have hlen1 : 1 ≤ r.cs.length := by omega
    clear g2
    have e0 : (r.cs.length : Int) ≤ 40 := by omega
    have e00 : (1:Int) ≤ (r.cs.length : Int) := by omega
    obtain ⟨A1, c1, h0, h1, h2, h3, hs⟩ := HP.out.st
    clear h1 h2 h3 hs
    generalize hw1 : w.alloc (.cells #[.slice A r.cs.length c, .int .i64 r.reach, .int .i64 r.setup, .int .i64 r.easy] 27) = w1 at *
    have HW : Hid (Below w.heap.size w w1) := Lib.hid (by rw [← hw1]; exact ext_alloc1 _ _)
    clear hw1
    have hmk := fun w => make_ints (n := r.cs.length) (by omega) w
    go_wp2_with fail
    clear h0 hmk
    go_loopw [6] (fun i wr => ∃ (k : Nat) (i0 : Int) (g : Nat → Int), k ≤ r.cs.length ∧ i = .int .i64 i0 ∧ i0 = (k : Int) - 1 ∧ Hid (LR wr w1.heap.size r.cs.length g) ∧ Hid (∀ j, k ≤ j → j ≤ r.cs.length → g j = lc r j) ∧ Below w1.heap.size w1 wr) (fun i _ => (intOf i + 1).toNat)
    case atStart => exact ⟨r.cs.length, _, _, Nat.le_refl _, rfl, rfl, LR.made _ _, (fun j h1 h2 => by rw [show j = r.cs.length from by omega, lc_end]), ext_alloc1 _ _⟩
    case round =>
      obtain ⟨k, i0, g, hk, rfl, hi0, HL, HG, hbw⟩ := hrel
      have HB := Lib.hid hbw; clear hbw
      by_cases hk0 : k = 0
      · have e1 : i0 = -1 := by omega
        subst e1 hk0
        have HL3 : Hid (LR wr w1.heap.size r.cs.length (lc r)) := Lib.hid (HL.out.congr fun i hi => HG.out i (by omega) hi)
        clear HL HG hi0 hk
        generalize hw3 : wr = w3 at *
        clear hw3
        have HP3 := Lib.hid (HP.out.ext HB.out)
        have HW3 := Lib.hid (ext_trans HW.out HB.out)
        have hlt : w1.heap.size < w3.heap.size := World.rowIs.lt HL3.out
        go_wp2_with fail
        go_loopw [9, 10] (fun o a wr => ∃ (k : Nat) (xs : List Int), Hid (Bp r xs k) ∧ k ≤ r.cs.length ∧ xs.length ≤ k ∧ a = .int .i64 k ∧ ∃ A c, o = .slice A xs.length c ∧ Hid (OI wr w3.heap.size (.slice A xs.length c) xs) ∧ Below w3.heap.size w3 wr) (fun _ a _ => r.cs.length - (intOf a).toNat)
        case atStart => exact ⟨0, [], Bp.start r, Nat.zero_le _, Nat.zero_le _, rfl, some ⟨w3.heap.size, 0, none⟩, 0, rfl, oi_lit w3 _ (Nat.le_refl _), ext_alloc1 _ _⟩
        case round =>
          obtain ⟨k, xs, HBp, hk, hxk, rfl, A2, c2, rfl, HO, hbq⟩ := hrel
          have HPq := Lib.hid (HP3.out.ext hbq)
          have HLq := Lib.hid (HL3.out.ext hbq)
          have hsz := hbq.size
          have HBq := Lib.hid hbq; clear hbq
          by_cases hlt2 : k < r.cs.length
          · have e2 : (k:Int) < r.cs.length := by omega
            go_wp2_with (at_builtin; refine wpList_append_i rfl _ _ rfl w3.heap.size (.slice A2 xs.length c2) xs (k:Int) rfl rfl HO.out (by omega) hsz ?_; intro g c3 w3 hO1 hg1 hlt1)
            have HBp1 := Lib.hid (HBp.out.step HV.out hlt2)
            have hb5 := Chg.ext HBq.out hg1 fun j hj => (HO.out.ge j hj).1
            have HP4 := Lib.hid (HP3.out.ext hb5)
            have HL4 := Lib.hid (HL3.out.ext hb5)
            have HB4 := Lib.hid hb5
            clear hb5 hg1 HPq HLq HBq hsz
            rename World => w4
            have hn1 := nxt_bd HV.out hlt2
            have HN := Lib.hid hn1.2.2
            obtain ⟨l, hl⟩ : ∃ l, lc r k = l := ⟨_, rfl⟩
            have hl0 := lc_nonneg HV.out k
            rw [hl] at hl0
            have HLL := Lib.hid hl
            have hck : ∀ d os, (grow (redrawn w4 d) os).cell? ⟨w1.heap.size, k, none⟩ = some (.int .i64 l) := fun d os => cell_regrown (by rw [← hl]; exact HL4.out.cell hk) d os
            have HPr : Hid (∀ d os, PR (grow (redrawn w4 d) os) w.heap.size r) := Lib.hid fun d os => HP4.out.ext (below_regrown _ _ _)
            have e3 : (k:Int) < (r.cs.length : Int) + 1 := by omega
            have e4 : (0:Int) ≤ k := by omega
            clear hl
            by_cases hg : good r k r.cs.length = true
            · have HNX : Hid (nxt r k = r.cs.length) := Lib.hid (nxt_end hg)
              have HC : Hid (∀ d os, Calls Try.prog 57 #[.pointer (some ⟨w.heap.size, 0, none⟩), .int .i64 k, .int .i64 r.cs.length] (grow (redrawn w4 d) os) (Ret (.int .i64 l) (grow (redrawn w4 d) os))) := Lib.hid fun d os => by
                have h1 := good_iff.1 hg
                have h2 := spec_cost w.heap.size r k r.cs.length (by omega) (Nat.le_refl _) HV.out _ (HPr.out d os)
                have h3 : costS r k r.cs.length = l := by unfold costS; rw [h1.1]; have := h1.2; rw [lc_end, HLL.out] at this; show cost r k r.cs.length = l; omega
                rwa [h3] at h2
              clear hg hn1
              refine wp_region_quiet_below (by kernel_rfl) (by kernel_rfl) ?_
              repeat (go_big_quiet_step ((go_at_call 57; exact regrown_r (HC.out _ _))))
              refine wpQuiet_nil ?_
              intro w' hw'
              obtain ⟨p, rfl⟩ := hw'
              go_wp2_with fail
              go_roundw
              case rel => exact ⟨r.cs.length, xs ++ [(k:Int)], by rw [← HNX.out]; exact HBp1.out, Nat.le_refl _, by simp; omega, rfl, _, _, by rw [List.length_append]; rfl, by rw [List.length_append]; exact hO1.ext (below_regrown _ _ _), ext_trans HB4.out (below_regrown _ _ _)⟩
              case measure => simp [intOf]; omega
            · have hg0 : good r k r.cs.length = false := by simpa using hg
              have HMIN := Lib.hid (fun j (h1 : k < j) (h2 : j < nxt r k) => nxt_min hg0 h1 h2)
              have hnn : nxt r k < r.cs.length := by
                rcases Nat.lt_or_ge (nxt r k) r.cs.length with h | h
                · exact h
                · have : nxt r k = r.cs.length := by omega
                  rw [this] at hn1; rw [hn1.2.2] at hg0; cases hg0
              obtain ⟨N, hN⟩ : ∃ N, nxt r k = N := ⟨_, rfl⟩
              rw [hN] at hnn hn1 HMIN HBp1 HN
              obtain ⟨c0, hc0⟩ : ∃ c0, costS r k r.cs.length = c0 := ⟨_, rfl⟩
              have hne : c0 ≠ l := by
                intro h
                rw [← hc0] at h
                have h4 := (cost_bd r HV.out (a := k) (b := r.cs.length) (by omega) (Nat.le_refl _)).1
                unfold costS at h
                cases hf : fits r k r.cs.length with
                | false => rw [hf] at h; have h : (-1 : Int) = l := h; omega
                | true => rw [hf] at h; have h : cost r k r.cs.length = l := h; exact hg (good_iff.2 ⟨hf, by rw [lc_end, HLL.out]; omega⟩)
              have HC : Hid (∀ d os, Calls Try.prog 57 #[.pointer (some ⟨w.heap.size, 0, none⟩), .int .i64 k, .int .i64 r.cs.length] (grow (redrawn w4 d) os) (Ret (.int .i64 c0) (grow (redrawn w4 d) os))) := Lib.hid fun d os => by
                have h2 := spec_cost w.heap.size r k r.cs.length (by omega) (Nat.le_refl _) HV.out _ (HPr.out d os)
                rwa [hc0] at h2
              clear hg hg0 hN hc0
              refine wp_region_quiet_below (by kernel_rfl) (by kernel_rfl) ?_
              repeat (go_big_quiet_step ((go_at_call 57; exact regrown_r (HC.out _ _))))
              refine wpQuiet_nil ?_
              intro w' hw'
              obtain ⟨p, rfl⟩ := hw'
              have HP5 := Lib.hid (HPr.out p.d p.os)
              have HL5 := Lib.hid (HL4.out.ext (below_regrown w4 p.d p.os))
              have HB5 := Lib.hid (ext_trans HB4.out (below_regrown w4 p.d p.os))
              have HO5 := Lib.hid (hO1.ext (below_regrown w4 p.d p.os))
              clear HC HPr hck HP4 HL4 HB4 hO1
              generalize grow (redrawn w4 p.d) p.os = w5 at *
              go_wp2_with fail
              go_loopw [11] (fun t wr => ∃ to : Nat, k < to ∧ to ≤ N ∧ t = .int .i64 to ∧ Below w5.heap.size w5 wr) (fun t _ => r.cs.length - (intOf t).toNat)
              case atStart => exact ⟨k + 1, by omega, by omega, by go_num, ext_refl _⟩
              case round =>
                obtain ⟨to, ht1, ht2, rfl, hbw⟩ := hrel
                generalize hw6 : wr = w6 at *
                clear hw6
                have HP6 : Hid (∀ d os, PR (grow (redrawn w6 d) os) w.heap.size r) := Lib.hid fun d os => (HP5.out.ext hbw).ext (below_regrown _ _ _)
                have HL6 := HL5.out.ext hbw
                have h6k : ∀ d os, (grow (redrawn w6 d) os).cell? ⟨w1.heap.size, k, none⟩ = some (.int .i64 l) := fun d os => cell_regrown (by rw [← HLL.out]; exact HL6.cell hk) d os
                obtain ⟨y, hy⟩ : ∃ y, lc r to = y := ⟨_, rfl⟩
                have h6t : ∀ d os, (grow (redrawn w6 d) os).cell? ⟨w1.heap.size, to, none⟩ = some (.int .i64 y) := fun d os => cell_regrown (by rw [← hy]; exact HL6.cell (by omega)) d os
                have HB6 := Lib.hid hbw; clear hbw HL6
                obtain ⟨z, hz⟩ : ∃ z, cost r k to = z := ⟨_, rfl⟩
                have hz1 := cost_bd r HV.out (a := k) (b := to) (by omega) (by omega)
                have hy1 := lc_small HV.out (k := to) (by omega)
                rw [hz] at hz1
                rw [hy] at hy1
                have e5 : (to:Int) < (r.cs.length : Int) + 1 := by omega
                have e6 : (0:Int) ≤ to := by omega
                have HCC : Hid (∀ d os, Calls Try.prog 57 #[.pointer (some ⟨w.heap.size, 0, none⟩), .int .i64 k, .int .i64 to] (grow (redrawn w6 d) os) (Ret (.int .i64 (costS r k to)) (grow (redrawn w6 d) os))) :=
                  Lib.hid fun d os => spec_cost w.heap.size r k to (by omega) (by omega) HV.out _ (HP6.out d os)
                have HY := Lib.hid hy
                have HZ := Lib.hid hz
                clear hy hz
                cases hf : fits r k to with
                | false =>
                  have hc : costS r k to = -1 := by unfold costS; rw [hf]; rfl
                  have hnN : to ≠ N := by
                    intro h
                    rw [h] at hf
                    have := (good_iff.1 HN.out).1
                    rw [hf] at this; cases this
                  rw [hc] at HCC
                  clear hf hc
                  go_wp2_with fail
                  refine wp_region_quiet_below (by kernel_rfl) (by kernel_rfl) ?_
                  repeat (go_big_quiet_step ((go_at_call 57; exact regrown_r (HCC.out _ _))))
                  refine wpQuiet_nil ?_
                  intro w' hw'
                  obtain ⟨p, rfl⟩ := hw'
                  go_wp2_with fail
                  go_roundw
                  case rel => exact ⟨to + 1, by omega, by omega, by go_num, ext_trans HB6.out (below_regrown _ _ _)⟩
                  case measure => simp [intOf]; omega
                | true =>
                  have hc : costS r k to = z := by unfold costS; rw [hf, ← HZ.out]; rfl
                  rw [hc] at HCC
                  have e9 : decide (z < 0) = false := by rw [decide_eq_false_iff_not]; omega
                  by_cases hs : z + y = l
                  · have e8 : IntKind.i64.wrap (z + y) = l := by rw [← hs]; exact IntWalk.i64_in _ (by omega)
                    have hgt : good r k to = true := good_iff.2 ⟨hf, by rw [HZ.out, HY.out, HLL.out, hs]⟩
                    have htN : Hid (to = N) := Lib.hid <| by
                      rcases Nat.lt_or_ge to N with h | h
                      · rw [HMIN.out to ht1 h] at hgt; cases hgt
                      · omega
                    clear hf hc hs hgt
                    go_wp2_with fail
                    refine wp_region_quiet_below (by kernel_rfl) (by kernel_rfl) ?_
                    repeat (go_big_quiet_step ((go_at_call 57; exact regrown_r (HCC.out _ _))))
                    refine wpQuiet_nil ?_
                    intro w' hw'
                    obtain ⟨p, rfl⟩ := hw'
                    go_wp2_with fail
                    go_roundw
                    case rel => exact ⟨to, xs ++ [(k:Int)], by rw [htN.out]; exact HBp1.out, by omega, by simp; omega, rfl, _, _, by rw [List.length_append]; rfl, by rw [List.length_append]; exact HO5.out.ext (ext_trans HB6.out (below_regrown _ _ _)), ext_trans HB5.out (ext_trans HB6.out (below_regrown _ _ _))⟩
                    case measure => simp [intOf]; omega
                  · have e8 : IntKind.i64.wrap (z + y) = z + y := IntWalk.i64_in _ (by omega)
                    have hnN : to ≠ N := by
                      intro h
                      have := (good_iff.1 HN.out).2
                      rw [← h, HZ.out, HY.out, HLL.out] at this
                      exact hs this
                    clear hf hc
                    go_wp2_with fail
                    refine wp_region_quiet_below (by kernel_rfl) (by kernel_rfl) ?_
                    repeat (go_big_quiet_step ((go_at_call 57; exact regrown_r (HCC.out _ _))))
                    refine wpQuiet_nil ?_
                    intro w' hw'
                    obtain ⟨p, rfl⟩ := hw'
                    go_wp2_with fail
                    go_roundw
                    case rel => exact ⟨to + 1, by omega, by omega, by go_num, ext_trans HB6.out (below_regrown _ _ _)⟩
                    case measure => simp [intOf]; omega
          · have e2 : ¬ (k:Int) < r.cs.length := by omega
            have hkn : k = r.cs.length := by omega
            subst hkn
            have hD := HBp.out.done
            go_wp2_with fail
            go_ret2
            rw [HM.out]
            dsimp only
            rw [← hD.1]
            exact ⟨_, rfl, HO.out.mono (HW3.out.size), by unfold SmI; omega, ext_trans HW3.out HBq.out⟩
      · obtain ⟨m, rfl⟩ : ∃ m, k = m + 1 := ⟨k - 1, by omega⟩
        have e1 : i0 = (m : Int) := by omega
        subst e1
        have e2 : (0:Int) ≤ m := by omega
        have e3 : (m:Int) < (r.cs.length : Int) := by omega
        have hfr := HL.out.frozen m
        have hce := HL.out.cell (i := m) (by omega)
        clear hi0
        go_wp2_with fail
        have HL1 : Hid (LR (wr.setCell ⟨w1.heap.size, m, none⟩ (.int .i64 (-1))) w1.heap.size r.cs.length (fun j => if j = m then -1 else g j)) := Lib.hid (HL.out.set m (-1))
        have HB1 := Lib.hid (HB.out.setCell (p := ⟨w1.heap.size, m, none⟩) (Nat.le_refl _) (.int .i64 (-1)))
        clear hfr hce
        go_loopw [7] (fun i wr => ∃ (t q : Nat) (g : Nat → Int), Hid (t = m + 1 + q) ∧ m < t ∧ t ≤ r.cs.length + 1 ∧ i = .int .i64 t ∧ Hid (LR wr w1.heap.size r.cs.length g) ∧ g m = lstep r (lc r) m q ∧ Hid (∀ j, m + 1 ≤ j → j ≤ r.cs.length → g j = lc r j) ∧ Below w1.heap.size w1 wr) (fun i _ => r.cs.length + 1 - (intOf i).toNat)
        case atStart => exact ⟨m + 1, 0, _, Lib.hid rfl, by omega, by omega, by go_num, HL1.out, by simp [lstep], (fun j h1 h2 => (if_neg (by omega)).trans (HG.out j h1 h2)), HB1.out⟩
        case round =>
          obtain ⟨t, q, f, HTQ, hmt, htn, rfl, HLt, hfm, HGt, hbw⟩ := hrel
          have HPt := Lib.hid (HP.out.ext hbw)
          have HBt := Lib.hid hbw; clear hbw
          by_cases hlt : t ≤ r.cs.length
          · have e4 : (t:Int) ≤ r.cs.length := by omega
            go_wp2_with fail
            refine (spec_cost _ r m t (by omega) hlt HV.out _ HPt.out).mono ?_
            rintro e w4 ⟨rfl, hb4⟩
            have HL4 := Lib.hid (HLt.out.ext hb4)
            have HB4 := Lib.hid (ext_trans HBt.out hb4)
            clear hb4
            have hcm := HL4.out.cell (i := m) (by omega)
            have hct := HL4.out.cell (i := t) (by omega)
            have hfr := HL4.out.frozen m
            rw [HGt.out t (by omega) hlt] at hct
            obtain ⟨x, hx⟩ : ∃ x, f m = x := ⟨_, rfl⟩
            obtain ⟨y, hy⟩ : ∃ y, lc r t = y := ⟨_, rfl⟩
            obtain ⟨z, hz⟩ : ∃ z, cost r m t = z := ⟨_, rfl⟩
            rw [hx] at hcm
            rw [hy] at hct
            have hz1 := cost_bd r HV.out (a := m) (b := t) (by omega) hlt
            have hy1 := lc_small HV.out hlt
            rw [hz] at hz1
            rw [hy] at hy1
            have HX : Hid (lstep r (lc r) m q = x) := Lib.hid (by rw [← hx, hfm])
            have HY := Lib.hid hy
            have HZ := Lib.hid hz
            clear hy hz hfm
            have HF := Lib.hid hx; clear hx
            have e5 : (m:Int) < (r.cs.length : Int) + 1 := by omega
            have e6 : (t:Int) < (r.cs.length : Int) + 1 := by omega
            have e7 : (0:Int) ≤ t := by omega
            have e8 : IntKind.i64.wrap (z + y) = z + y := IntWalk.i64_in _ (by omega)
            cases hf : fits r m t with
            | false =>
              have HN : Hid (lstep r (lc r) m (q + 1) = x) := Lib.hid (by rw [lstep, ← HTQ.out, cand, if_neg (by rw [hf]; simp), HX.out])
              have hc : costS r m t = -1 := by unfold costS; rw [hf]; rfl
              rw [hc]
              clear hf hc
              go_wp2_with fail
              go_quiet (fail)
              rename Nat => n1
              go_wp2_with fail
              go_roundw
              case rel => exact ⟨t + 1, q + 1, f, Lib.hid (by rw [HTQ.out]; omega), by omega, by omega, by go_num, HL4.out.ext (ext_drewN (ext_refl _) _), by rw [HF.out, HN.out], HGt.out, ext_drewN HB4.out _⟩
              case measure => simp [intOf]; omega
            | true =>
              have hc : costS r m t = z := by unfold costS; rw [hf, ← HZ.out]; rfl
              rw [hc]
              have e9 : decide ((0:Int) ≤ z) = true := by simp; omega
              by_cases hcond : x < 0 ∨ z + y < x
              · have HN : Hid (lstep r (lc r) m (q + 1) = z + y) := Lib.hid (by rw [lstep, ← HTQ.out, cand, if_pos ⟨hf, by rw [HX.out, HZ.out, HY.out]; exact hcond⟩, HZ.out, HY.out])
                clear hf hc
                by_cases hx0 : x < 0
                · have e10 : decide (x < 0) = true := by simpa using hx0
                  clear hcond
                  go_wp2_with fail
                  go_quiet (fail)
                  rename Nat => n1
                  go_wp2_with fail
                  go_roundw
                  case rel =>
                    exact ⟨t + 1, q + 1, _, Lib.hid (by rw [HTQ.out]; omega), by omega, by omega, by go_num, (HL4.out.ext (ext_drewN (ext_refl _) n1)).set m (z + y), by rw [HN.out, if_pos rfl], (fun j h1 h2 => (if_neg (by omega)).trans (HGt.out j h1 h2)), (ext_drewN HB4.out n1).setCell (p := ⟨w1.heap.size, m, none⟩) (Nat.le_refl _) _⟩
                  case measure => simp [intOf]; omega
                · have e10 : decide (x < 0) = false := by simpa using hx0
                  have e11 : decide (z + y < x) = true := by rw [decide_eq_true_eq]; omega
                  clear hcond
                  go_wp2_with fail
                  go_quiet (fail)
                  rename Nat => n1
                  go_wp2_with fail
                  go_roundw
                  case rel =>
                    exact ⟨t + 1, q + 1, _, Lib.hid (by rw [HTQ.out]; omega), by omega, by omega, by go_num, (HL4.out.ext (ext_drewN (ext_refl _) n1)).set m (z + y), by rw [HN.out, if_pos rfl], (fun j h1 h2 => (if_neg (by omega)).trans (HGt.out j h1 h2)), (ext_drewN HB4.out n1).setCell (p := ⟨w1.heap.size, m, none⟩) (Nat.le_refl _) _⟩
                  case measure => simp [intOf]; omega
              · have HN : Hid (lstep r (lc r) m (q + 1) = x) := Lib.hid (by rw [lstep, ← HTQ.out, cand, if_neg (by rw [HX.out, HZ.out, HY.out]; exact fun h => hcond h.2), HX.out])
                clear hf hc
                have e10 : decide (x < 0) = false := by rw [decide_eq_false_iff_not]; omega
                have e11 : decide (z + y < x) = false := by rw [decide_eq_false_iff_not]; omega
                clear hcond
                go_wp2_with fail
                go_quiet (fail)
                rename Nat => n1
                go_wp2_with fail
                go_roundw
                case rel => exact ⟨t + 1, q + 1, f, Lib.hid (by rw [HTQ.out]; omega), by omega, by omega, by go_num, HL4.out.ext (ext_drewN (ext_refl _) _), by rw [HF.out, HN.out], HGt.out, ext_drewN HB4.out _⟩
                case measure => simp [intOf]; omega
          · have e4 : ¬ (t:Int) ≤ r.cs.length := by omega
            go_wp2_with fail
            go_roundw
            case rel =>
              have htq := HTQ.out
              refine ⟨m, _, f, by omega, rfl, rfl, HLt.out, (fun j h1 h2 => ?_), HBt.out⟩
              by_cases hj : j = m
              · rw [hj, hfm, show q = r.cs.length - m from by omega, ← lc_step r (by omega)]
              · exact HGt.out j (by omega) h2
            case measure => simp [intOf]

end Go.Proofs.Ytahcdofikfookaa
