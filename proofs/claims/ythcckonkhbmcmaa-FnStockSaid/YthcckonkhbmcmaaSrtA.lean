/-
  slices.SortStableFunc of ints, the walks: a merge in place where one side is one element.
-/
import Derived.Test.YthcckonkhbmcmaaSrt
import Derived.Test.YthcckonkhbmcmaaOrders9
namespace Go.Proofs.Ythcckonkhbmcmaa
open Go.ChangeShapes Go.WideShapes Go.ChangeAt Go.RowKit Go.Sort
set_option linter.unusedVariables false
set_option maxRecDepth 100000

/-- What the sort asks of the function that compares. -/
def CmpK {N : Nat} (w : World) (blk n bx : Nat) (kd : Fin (N + 1) → Int) : Prop := ∀ (X : Array (Fin (N + 1))) (m : Nat) (x y : Fin (N + 1)), X.size = n →
  Calls Try.prog 46 #[.int .i64 ((x.val : Nat) : Int), .int .i64 ((y.val : Nat) : Int), .pointer (some ⟨bx, 0, none⟩)] (WX w blk X m) fun e w' => e = .returned (.int .i64 (cmpI (kd x) (kd y))) ∧ ∃ q, w' = (WX w blk X m).drewN q
theorem CmpK.at_ {N : Nat} {w : World} {blk n bx : Nat} {kd : Fin (N + 1) → Int} (h : CmpK w blk n bx kd) {X : Array (Fin (N + 1))} (hX : X.size = n) (m : Nat) (x y : Fin (N + 1)) (k : Nat) :
    Calls Try.prog 46 #[.int .i64 ((x.val : Nat) : Int), .int .i64 ((y.val : Nat) : Int), .pointer (some ⟨bx, 0, none⟩)] ((WX w blk X m).drewN k) fun e w' => e = .returned (.int .i64 (cmpI (kd x) (kd y))) ∧ ∃ q, w' = (WX w blk X m).drewN q := by
  have e1 : (WX w blk X m).drewN k = WX w blk X (m + k) := by unfold WX; rw [World.drewN_drewN]
  rw [e1]
  refine (h X (m + k) x y hX).mono fun e w' ⟨h1, q, h2⟩ => ⟨h1, k + q, ?_⟩
  rw [h2, ← e1, World.drewN_drewN]
abbrev kI {N : Nat} (i : Fin (N + 1)) : Nat := i.val
/-- The function that compares, bound to the list's box. -/
abbrev cmF (bx : Nat) : Value := .func (.func 46) #[] #[.pointer (some ⟨bx, 0, none⟩)]
theorem WX.drewN {N : Nat} (w : World) (blk : Nat) (X : Array (Fin (N + 1))) (m k : Nat) : (WX w blk X m).drewN k = WX w blk X (m + k) := by unfold WX; rw [World.drewN_drewN]

set_option maxHeartbeats 3200000 in
theorem sw_one {N : Nat} {w : World} {blk bx : Nat} {X0 : Array (Fin (N + 1))} {kd : Fin (N + 1) → Int} (hH : Holds eF w blk 0 X0) (hsz : X0.size ≤ 1048576) (hC : CmpK w blk X0.size bx kd) (cap : Nat) (X : Array (Fin (N + 1))) (hX : X.size = X0.size) (m0 a mm b : Nat) (ham : a + 1 = mm) (hmb : mm < b) (hb : b ≤ X0.size)
    (hs : SrtK kd kI X mm b) (hc : CrsK kI X a mm b) :
    Calls Try.prog 57 #[.slice (some ⟨blk, 0, none⟩) X0.size cap, .int .i64 a, .int .i64 mm, .int .i64 b, cmF bx] (WX w blk X m0) (RetX w blk fun Y => MgK kd kI X Y a b) := by
  have HH := Lib.hid hH
  have HX := Lib.hid hX
  have HC := Lib.hid hC
  have HS := Lib.hid hs
  have HCR := Lib.hid hc
  clear hH hX hC hs hc
  obtain ⟨n, hn⟩ : ∃ n, X0.size = n := ⟨_, rfl⟩
  rw [hn] at hsz hb HC ⊢
  have HN := Lib.hid hn
  clear hn
  have e1 : (mm : Int) - a = 1 := by omega
  go_enter Try.func57, Try.ntmps57
  go_wp2_with fail
  go_loopw [10, 11] (fun vi vj wr => ∃ i j m : Nat, mm ≤ i ∧ i ≤ j ∧ j ≤ b ∧ vi = .int .i64 i ∧ vj = .int .i64 j ∧ Hid (∀ h, mm ≤ h → h < i → ltK kd kI X[h]! X[a]!) ∧ Hid (∀ h, j ≤ h → h < b → ltK kd kI X[a]! X[h]!) ∧ wr = WX w blk X m) (fun vi vj _ => (intOf vj).toNat - (intOf vi).toNat)
  case atStart => exact ⟨mm, b, m0, Nat.le_refl _, Nat.le_of_lt hmb, Nat.le_refl _, rfl, rfl, Lib.hid (fun h h1 h2 => by omega), Lib.hid (fun h h1 h2 => by omega), rfl⟩
  case round =>
    obtain ⟨i, j, m, hi, hij, hj, rfl, rfl, H1, H2, rfl⟩ := hrel
    by_cases hlt : i < j
    · have f1 : (i : Int) < j := by omega
      have c1 := (WX.cell HH.out HX.out m (j := (i + j) / 2) (by rw [HN.out]; omega)).1
      have c2 := (WX.cell HH.out HX.out m (j := a) (by rw [HN.out]; omega)).1
      unfold eF at c1 c2
      obtain ⟨x, hx⟩ : ∃ x, X[(i + j) / 2]! = x := ⟨_, rfl⟩
      obtain ⟨y, hy⟩ : ∃ y, X[a]! = y := ⟨_, rfl⟩
      have HXX := Lib.hid hx
      have HYY := Lib.hid hy
      rw [hx] at c1
      rw [hy] at c2
      clear hx hy
      have HCC := Lib.hid (fun k => HC.out.at_ (hX := by rw [HX.out, HN.out]) m x y k)
      have HD := Lib.hid (fun k => WX.drewN w blk X m k)
      generalize WX w blk X m = wq at c1 c2 HCC HD ⊢
      by_cases hlo : kd x < kd y
      · have e3 : cmpI (kd x) (kd y) = -1 := by unfold cmpI; rw [if_pos hlo]
        rw [e3] at HCC
        have HLO := Lib.hid hlo; clear hlo e3
        go_wp2_with fail
        go_quiet ((go_at_call 46; exact (HCC.out _)))
        go_wp2_with fail
        refine ⟨⟨(i + j) / 2 + 1, j, m + nq, by omega, by omega, hj, congrArg (Value.int .i64) (by omega), rfl, Lib.hid fun h h1 h2 => ?_, H2, HD.out nq⟩, by simp [intOf]; omega⟩
        have h0 : ltK kd kI X[(i + j) / 2]! X[a]! := by rw [HXX.out, HYY.out]; exact ltK_yes _ HLO.out
        by_cases hq : h = (i + j) / 2
        · rw [hq]; exact h0
        · exact (HS.out h ((i + j) / 2) h1 (by omega) (by omega)).trans h0
      · have e3 : (cmpI (kd x) (kd y) < 0) = False := eq_false (by unfold cmpI; rw [if_neg hlo]; split <;> omega)
        obtain ⟨cv, hcv⟩ : ∃ c, cmpI (kd x) (kd y) = c := ⟨_, rfl⟩
        rw [hcv] at HCC e3
        have e4 : ¬ cv < 0 := fun h => by rw [e3] at h; exact h
        have HLO := Lib.hid hlo; clear hlo e3 hcv
        go_wp2_with fail
        go_quiet ((go_at_call 46; exact (HCC.out _)))
        go_wp2_with fail
        refine ⟨⟨i, (i + j) / 2, m + nq, hi, by omega, by omega, rfl, congrArg (Value.int .i64) (by omega), H1, Lib.hid fun h h1 h2 => ?_, HD.out nq⟩, by simp [intOf]; omega⟩
        have h0 : ltK kd kI X[a]! X[(i + j) / 2]! := ltK_no (by rw [HXX.out, HYY.out]; have := HLO.out; omega) (HCR.out a ((i + j) / 2) (Nat.le_refl _) (by omega) (by omega) (by omega))
        by_cases hq : h = (i + j) / 2
        · rw [hq]; exact h0
        · exact h0.trans (HS.out ((i + j) / 2) h (by omega) (by omega) h2)
    · obtain rfl : i = j := by omega
      have f1 : ¬ (i : Int) < i := by omega
      have k0 : (i : Int) - 1 = ((i - 1 : Nat) : Int) := by omega
      obtain ⟨i1, hi1⟩ : ∃ i1, i - 1 = i1 := ⟨_, rfl⟩
      rw [hi1] at k0
      have HI1 := Lib.hid hi1
      clear hi1
      go_wp2_with fail
      go_loopw [13] (fun vk wr => ∃ (k m : Nat) (Y : Array (Fin (N + 1))), a ≤ k ∧ k ≤ i1 ∧ vk = .int .i64 k ∧ Hid (UpR X Y a k) ∧ wr = WX w blk Y m) (fun vk _ => i1 - (intOf vk).toNat)
      case atStart => exact ⟨a, m, X, Nat.le_refl _, by have := HI1.out; omega, rfl, Lib.hid (UpR.zero X a), rfl⟩
      case round =>
        obtain ⟨k, m2, Y, hak, hk, rfl, HU, rfl⟩ := hrel
        have hi1b : i1 + 1 ≤ b := by have := HI1.out; omega
        by_cases hlt2 : k < i1
        · have f2 : (k : Int) < i1 := by omega
          have hYs : Y.size = X0.size := by rw [HU.out.size, HX.out]
          have h1 := WX.cell HH.out hYs m2 (j := k) (by rw [HN.out]; omega)
          have h2 := WX.cell HH.out hYs m2 (j := k + 1) (by rw [HN.out]; omega)
          have HSW := Lib.hid (WX.swap w blk Y m2 k (k + 1) (by rw [hYs, HN.out]; omega) (by rw [hYs, HN.out]; omega))
          have HNX := Lib.hid (HU.out.next hak (by rw [HX.out, HN.out]; omega))
          clear hYs
          obtain ⟨x, hx⟩ : ∃ x, Y[k]! = x := ⟨_, rfl⟩
          obtain ⟨y, hy⟩ : ∃ y, Y[k + 1]! = y := ⟨_, rfl⟩
          rw [hx] at h1 HSW
          rw [hy] at h2 HSW
          clear hx hy
          obtain ⟨c1, f1⟩ := h1
          obtain ⟨c2, f3⟩ := h2
          obtain ⟨q, hq⟩ : ∃ q, k + 1 = q := ⟨_, rfl⟩
          have g2 : (k : Int) + 1 = q := by omega
          rw [hq] at c2 f3 HSW HNX
          have g3 : (0 : Int) ≤ k := by omega
          have g4 : (0 : Int) ≤ q := by omega
          have g5 : (k : Int) < n := by omega
          have g6 : (q : Int) < n := by omega
          have hpq : k ≠ q := by omega
          have HQ := Lib.hid hq
          clear hq
          generalize WX w blk Y m2 = wq at c1 f1 c2 f3 HSW ⊢
          unfold eF at c1 c2
          go_wp2_with fail
          go_region
          have HW2 : Hid (((wq.setCell ⟨blk, k, none⟩ (.int .i64 ((y.val : Nat) : Int))).setCell ⟨blk, q, none⟩ (.int .i64 ((x.val : Nat) : Int))).drew = WX w blk (swp Y k q) (m2 + 1)) := Lib.hid HSW.out
          generalize ((wq.setCell ⟨blk, k, none⟩ _).setCell ⟨blk, q, none⟩ _).drew = w3 at HW2 ⊢
          go_wp2_with fail
          go_roundw
          case rel => exact ⟨q, m2 + 1, swp Y k q, by omega, by omega, rfl, HNX, HW2.out⟩
          case measure => simp [intOf]; omega
        · obtain rfl : k = i1 := by omega
          have f2 : ¬ (k : Int) < k := by omega
          have HF : Hid (MgK kd kI X Y a b) := Lib.hid (by
            have hu := HU.out
            rw [← HI1.out] at hu
            exact hu.mg (by rw [ham]; exact HS.out) (by omega) (by omega) (fun p h1 h2 => H1.out p (by omega) h2) (fun p h1 h2 => H2.out p h1 h2))
          go_wp2_with fail
          go_end0
          exact ⟨rfl, Y, m2, HF.out, rfl⟩

set_option maxHeartbeats 3200000 in
theorem sw_last {N : Nat} {w : World} {blk bx : Nat} {X0 : Array (Fin (N + 1))} {kd : Fin (N + 1) → Int} (hH : Holds eF w blk 0 X0) (hsz : X0.size ≤ 1048576) (hC : CmpK w blk X0.size bx kd) (cap : Nat) (X : Array (Fin (N + 1))) (hX : X.size = X0.size) (m0 a mm b : Nat) (ham : a + 1 < mm) (hmb : mm + 1 = b) (hb : b ≤ X0.size)
    (hs : SrtK kd kI X a mm) (hc : CrsK kI X a mm b) :
    Calls Try.prog 57 #[.slice (some ⟨blk, 0, none⟩) X0.size cap, .int .i64 a, .int .i64 mm, .int .i64 b, cmF bx] (WX w blk X m0) (RetX w blk fun Y => MgK kd kI X Y a b) := by
  have HH := Lib.hid hH
  have HX := Lib.hid hX
  have HC := Lib.hid hC
  have HS := Lib.hid hs
  have HCR := Lib.hid hc
  clear hH hX hC hs hc
  obtain ⟨n, hn⟩ : ∃ n, X0.size = n := ⟨_, rfl⟩
  rw [hn] at hsz hb HC ⊢
  have HN := Lib.hid hn
  clear hn
  have e0 : ((mm : Int) - a == 1) = false := by rw [beq_eq_false_iff_ne]; omega
  have e1 : (b : Int) - mm = 1 := by omega
  go_enter Try.func57, Try.ntmps57
  go_wp2_with fail
  go_loopw [14, 15] (fun vi vj wr => ∃ i j m : Nat, a ≤ i ∧ i ≤ j ∧ j ≤ mm ∧ vi = .int .i64 i ∧ vj = .int .i64 j ∧ Hid (∀ h, a ≤ h → h < i → ltK kd kI X[h]! X[mm]!) ∧ Hid (∀ h, j ≤ h → h < mm → ltK kd kI X[mm]! X[h]!) ∧ wr = WX w blk X m) (fun vi vj _ => (intOf vj).toNat - (intOf vi).toNat)
  case atStart => exact ⟨a, mm, m0, Nat.le_refl _, by omega, Nat.le_refl _, rfl, rfl, Lib.hid (fun h h1 h2 => by omega), Lib.hid (fun h h1 h2 => by omega), rfl⟩
  case round =>
    obtain ⟨i, j, m, hi, hij, hj, rfl, rfl, H1, H2, rfl⟩ := hrel
    by_cases hlt : i < j
    · have f1 : (i : Int) < j := by omega
      have c1 := (WX.cell HH.out HX.out m (j := mm) (by rw [HN.out]; omega)).1
      have c2 := (WX.cell HH.out HX.out m (j := (i + j) / 2) (by rw [HN.out]; omega)).1
      unfold eF at c1 c2
      obtain ⟨x, hx⟩ : ∃ x, X[mm]! = x := ⟨_, rfl⟩
      obtain ⟨y, hy⟩ : ∃ y, X[(i + j) / 2]! = y := ⟨_, rfl⟩
      have HXX := Lib.hid hx
      have HYY := Lib.hid hy
      rw [hx] at c1
      rw [hy] at c2
      clear hx hy
      have HCC := Lib.hid (fun k => HC.out.at_ (hX := by rw [HX.out, HN.out]) m x y k)
      have HD := Lib.hid (fun k => WX.drewN w blk X m k)
      generalize WX w blk X m = wq at c1 c2 HCC HD ⊢
      by_cases hlo : kd x < kd y
      · have e3 : cmpI (kd x) (kd y) = -1 := by unfold cmpI; rw [if_pos hlo]
        rw [e3] at HCC
        have HLO := Lib.hid hlo; clear hlo e3
        go_wp2_with fail
        go_quiet ((go_at_call 46; exact (HCC.out _)))
        go_wp2_with fail
        refine ⟨⟨i, (i + j) / 2, m + nq, hi, by omega, by omega, rfl, congrArg (Value.int .i64) (by omega), H1, Lib.hid fun h h1 h2 => ?_, HD.out nq⟩, by simp [intOf]; omega⟩
        have h0 : ltK kd kI X[mm]! X[(i + j) / 2]! := by rw [HXX.out, HYY.out]; exact ltK_yes _ HLO.out
        by_cases hq : h = (i + j) / 2
        · rw [hq]; exact h0
        · exact h0.trans (HS.out ((i + j) / 2) h (by omega) (by omega) h2)
      · have e3 : (cmpI (kd x) (kd y) < 0) = False := eq_false (by unfold cmpI; rw [if_neg hlo]; split <;> omega)
        obtain ⟨cv, hcv⟩ : ∃ c, cmpI (kd x) (kd y) = c := ⟨_, rfl⟩
        rw [hcv] at HCC e3
        have e4 : ¬ cv < 0 := fun h => by rw [e3] at h; exact h
        have e5 : decide (cv < 0) = false := decide_eq_false e4
        have HLO := Lib.hid hlo; clear hlo e3 hcv
        go_wp2_with fail
        go_quiet ((go_at_call 46; exact (HCC.out _)))
        go_wp2_with fail
        refine ⟨⟨(i + j) / 2 + 1, j, m + nq, by omega, by omega, hj, congrArg (Value.int .i64) (by omega), rfl, Lib.hid fun h h1 h2 => ?_, H2, HD.out nq⟩, by simp [intOf]; omega⟩
        have h0 : ltK kd kI X[(i + j) / 2]! X[mm]! := ltK_no (by rw [HXX.out, HYY.out]; have := HLO.out; omega) (HCR.out ((i + j) / 2) mm (by omega) (by omega) (Nat.le_refl _) (by omega))
        by_cases hq : h = (i + j) / 2
        · rw [hq]; exact h0
        · exact (HS.out h ((i + j) / 2) h1 (by omega) (by omega)).trans h0
    · obtain rfl : i = j := by omega
      have f1 : ¬ (i : Int) < i := by omega
      go_wp2_with fail
      go_loopw [17] (fun vk wr => ∃ (k m : Nat) (Y : Array (Fin (N + 1))), i ≤ k ∧ k ≤ mm ∧ vk = .int .i64 k ∧ Hid (DnR X Y mm k) ∧ wr = WX w blk Y m) (fun vk _ => (intOf vk).toNat - i)
      case atStart => exact ⟨mm, m, X, by omega, Nat.le_refl _, rfl, Lib.hid (DnR.zero X mm), rfl⟩
      case round =>
        obtain ⟨k, m2, Y, hik, hk, rfl, HU, rfl⟩ := hrel
        by_cases hlt2 : i < k
        · have f2 : decide ((k : Int) > i) = true := decide_eq_true (by omega)
          obtain ⟨q, hq⟩ : ∃ q, k - 1 = q := ⟨_, rfl⟩
          have hkq : k = q + 1 := by omega
          have hYs : Y.size = X0.size := by rw [HU.out.size, HX.out]
          have h1 := WX.cell HH.out hYs m2 (j := k) (by rw [HN.out]; omega)
          have h2 := WX.cell HH.out hYs m2 (j := q) (by rw [HN.out]; omega)
          have HSW := Lib.hid (WX.swap w blk Y m2 k q (by rw [hYs, HN.out]; omega) (by rw [hYs, HN.out]; omega))
          have HNX : Hid (DnR X (swp Y k q) mm q) := Lib.hid (by
            have hu := HU.out
            rw [hkq] at hu ⊢
            exact hu.next (by omega) (by rw [HX.out, HN.out]; omega))
          clear hYs
          obtain ⟨x, hx⟩ : ∃ x, Y[k]! = x := ⟨_, rfl⟩
          obtain ⟨y, hy⟩ : ∃ y, Y[q]! = y := ⟨_, rfl⟩
          rw [hx] at h1 HSW
          rw [hy] at h2 HSW
          clear hx hy
          obtain ⟨c1, f1⟩ := h1
          obtain ⟨c2, f3⟩ := h2
          have g2 : (k : Int) - 1 = q := by omega
          have g3 : (0 : Int) ≤ k := by omega
          have g4 : (0 : Int) ≤ q := by omega
          have g5 : (k : Int) < n := by omega
          have g6 : (q : Int) < n := by omega
          have hpq : k ≠ q := by omega
          have HQ := Lib.hid hkq
          clear hq hkq
          generalize WX w blk Y m2 = wq at c1 f1 c2 f3 HSW ⊢
          unfold eF at c1 c2
          go_wp2_with fail
          go_region
          have HW2 : Hid (((wq.setCell ⟨blk, k, none⟩ (.int .i64 ((y.val : Nat) : Int))).setCell ⟨blk, q, none⟩ (.int .i64 ((x.val : Nat) : Int))).drew = WX w blk (swp Y k q) (m2 + 1)) := Lib.hid HSW.out
          generalize ((wq.setCell ⟨blk, k, none⟩ _).setCell ⟨blk, q, none⟩ _).drew = w3 at HW2 ⊢
          go_wp2_with fail
          go_roundw
          case rel => exact ⟨q, m2 + 1, swp Y k q, by have := HQ.out; omega, by omega, rfl, HNX, HW2.out⟩
          case measure => have := HQ.out; simp [intOf]; omega
        · obtain rfl : k = i := by omega
          have f2 : decide ((k : Int) > k) = false := decide_eq_false (by omega)
          have HF : Hid (MgK kd kI X Y a b) := Lib.hid (by
            rw [← hmb]
            exact HU.out.mg HS.out (by omega) (by omega) (fun p h1 h2 => H1.out p h1 h2) (fun p h1 h2 => H2.out p h1 h2))
          go_wp2_with fail
          go_end0
          exact ⟨rfl, Y, m2, HF.out, rfl⟩
end Go.Proofs.Ythcckonkhbmcmaa
