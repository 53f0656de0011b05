/-
  slices.SortStableFunc of ints, the walks: swaps of ranges, rotations.
-/
import Derived.Test.YthcckonkhbmcmaaSrtP
import Derived.Test.YthcckonkhbmcmaaBase
import Derived.Sort.WalkC
import Derived.BigRegion
import Derived.BigQuiet
import Derived.Shelf.SlSortCmp.Insertion
namespace Go.Proofs.Ythcckonkhbmcmaa
open Go.ChangeShapes Go.WideShapes Go.ChangeAt Go.RowKit Go.Sort
set_option linter.unusedVariables false
set_option maxRecDepth 100000

/-- An index, as the row holds it. -/
def eF {N : Nat} (i : Fin (N + 1)) : Value := .int .i64 ((i.val : Nat) : Int)
/-- The row X, m draws on. -/
def WX {N : Nat} (w : World) (blk : Nat) (X : Array (Fin (N + 1))) (m : Nat) : World := (putRow eF w blk 0 X).drewN m
theorem WX.cell {N : Nat} {w : World} {blk : Nat} {X0 X : Array (Fin (N + 1))} (h : Holds eF w blk 0 X0) (hs : X.size = X0.size) (m : Nat) {j : Nat} (hj : j < X0.size) :
    (WX w blk X m).cell? ⟨blk, j, none⟩ = some (eF X[j]!) ∧ (WX w blk X m).frozen? ⟨blk, j, none⟩ = false := by
  have := holds_putRow eF w blk 0 X0 X h hs j (by rw [hs]; exact hj)
  rw [Nat.zero_add] at this
  exact this
theorem WX.swap {N : Nat} (w : World) (blk : Nat) (X : Array (Fin (N + 1))) (m i j : Nat) (hi : i < X.size) (hj : j < X.size) :
    (((WX w blk X m).setCell ⟨blk, i, none⟩ (eF X[j]!)).setCell ⟨blk, j, none⟩ (eF X[i]!)).drew = WX w blk (swp X i j) (m + 1) := by
  have := swap_worldC eF w blk 0 X m i j hi hj
  rw [Nat.zero_add, Nat.zero_add] at this
  exact this
/-- What such a function leaves. -/
def RetX {N : Nat} (w : World) (blk : Nat) (P : Array (Fin (N + 1)) → Prop) : Ending → World → Prop := fun e w' => e = .returned (.tuple #[]) ∧ ∃ Y m, P Y ∧ w' = WX w blk Y m

set_option maxHeartbeats 1600000 in
theorem sw_range {N : Nat} {w : World} {blk : Nat} {X0 : Array (Fin (N + 1))} (hH : Holds eF w blk 0 X0) (hsz : X0.size ≤ 1048576) (cap : Nat) (f : Value) (X : Array (Fin (N + 1))) (hX : X.size = X0.size) (m0 a b k : Nat) (hab : a + k ≤ b) (hb : b + k ≤ X0.size) :
    Calls Try.prog 61 #[.slice (some ⟨blk, 0, none⟩) X0.size cap, .int .i64 a, .int .i64 b, .int .i64 k, f] (WX w blk X m0) (RetX w blk fun Y => SwR X Y a b k) := by
  have HH := Lib.hid hH
  have HX := Lib.hid hX
  clear hH hX
  obtain ⟨n, hn⟩ : ∃ n, X0.size = n := ⟨_, rfl⟩
  rw [hn] at hsz hb ⊢
  have HN := Lib.hid hn
  clear hn
  go_enter Try.func61, Try.ntmps61
  go_wp2_with fail
  go_loopw [10] (fun vi wr => ∃ (i m : Nat) (Y : Array (Fin (N + 1))), i ≤ k ∧ vi = .int .i64 i ∧ Hid (SwR X Y a b i) ∧ wr = WX w blk Y m) (fun vi _ => k - (intOf vi).toNat)
  case atStart => exact ⟨0, m0, X, Nat.zero_le _, rfl, Lib.hid (SwR.zero X a b), rfl⟩
  case round =>
    obtain ⟨i, m, Y, hi, rfl, HS, rfl⟩ := hrel
    by_cases hlt : i < k
    · have e2 : (i : Int) < k := by omega
      have hYs : Y.size = X0.size := by rw [HS.out.size, HX.out]
      have h1 := WX.cell HH.out hYs m (j := a + i) (by rw [HN.out]; omega)
      have h2 := WX.cell HH.out hYs m (j := b + i) (by rw [HN.out]; omega)
      have HSW := Lib.hid (WX.swap w blk Y m (a + i) (b + i) (by rw [hYs, HN.out]; omega) (by rw [hYs, HN.out]; omega))
      have HNX := Lib.hid (HS.out.next hlt hab (by rw [HX.out, HN.out]; exact hb))
      clear hYs
      obtain ⟨x, hx⟩ : ∃ x, Y[a + i]! = x := ⟨_, rfl⟩
      obtain ⟨y, hy⟩ : ∃ y, Y[b + i]! = y := ⟨_, rfl⟩
      rw [hx] at h1 HSW
      rw [hy] at h2 HSW
      clear hx hy
      obtain ⟨c1, f1⟩ := h1
      obtain ⟨c2, f2⟩ := h2
      obtain ⟨p, hp⟩ : ∃ p, a + i = p := ⟨_, rfl⟩
      obtain ⟨q, hq⟩ : ∃ q, b + i = q := ⟨_, rfl⟩
      have g1 : (a : Int) + i = p := by omega
      have g2 : (b : Int) + i = q := by omega
      rw [hp] at c1 f1 HSW HNX
      rw [hq] at c2 f2 HSW HNX
      have g3 : (0 : Int) ≤ p := by omega
      have g4 : (0 : Int) ≤ q := by omega
      have g5 : (p : Int) < n := by omega
      have g6 : (q : Int) < n := by omega
      have hpq : p ≠ q := by omega
      clear hp hq
      generalize WX w blk Y m = wq at c1 f1 c2 f2 HSW ⊢
      unfold eF at c1 c2
      go_wp2_with fail
      go_region
      have HW2 : Hid (((wq.setCell ⟨blk, p, none⟩ (.int .i64 ((y.val : Nat) : Int))).setCell ⟨blk, q, none⟩ (.int .i64 ((x.val : Nat) : Int))).drew = WX w blk (swp Y p q) (m + 1)) := Lib.hid HSW.out
      generalize ((wq.setCell ⟨blk, p, none⟩ _).setCell ⟨blk, q, none⟩ _).drew = w3 at HW2 ⊢
      go_wp2_with fail
      go_roundw
      case rel => exact ⟨i + 1, m + 1, swp Y p q, by omega, by go_num, HNX, HW2.out⟩
      case measure => simp [intOf]; omega
    · obtain rfl : i = k := by omega
      go_wp2_with fail
      go_end0
      exact ⟨rfl, Y, m, HS.out, rfl⟩

set_option maxHeartbeats 3200000 in
theorem sw_rotate {N : Nat} {w : World} {blk : Nat} {X0 : Array (Fin (N + 1))} (hH : Holds eF w blk 0 X0) (hsz : X0.size ≤ 1048576) (cap : Nat) (f : Value) (X : Array (Fin (N + 1))) (hX : X.size = X0.size) (m0 a mm b : Nat) (ham : a < mm) (hmb : mm < b) (hb : b ≤ X0.size) :
    Calls Try.prog 60 #[.slice (some ⟨blk, 0, none⟩) X0.size cap, .int .i64 a, .int .i64 mm, .int .i64 b, f] (WX w blk X m0) (RetX w blk fun Y => RotR X Y a mm b) := by
  have HSWR : Hid (∀ (X1 : Array (Fin (N + 1))), X1.size = X0.size → ∀ m0 a b k : Nat, a + k ≤ b → b + k ≤ X0.size → Calls Try.prog 61 #[.slice (some ⟨blk, 0, none⟩) X0.size cap, .int .i64 a, .int .i64 b, .int .i64 k, f] (WX w blk X1 m0) (RetX w blk fun Y => SwR X1 Y a b k)) := Lib.hid fun X1 h1 m0 a b k h2 h3 => sw_range hH hsz cap f X1 h1 m0 a b k h2 h3
  have HX := Lib.hid hX
  clear hH hX
  obtain ⟨n, hn⟩ : ∃ n, X0.size = n := ⟨_, rfl⟩
  rw [hn] at hsz hb HSWR HX ⊢
  clear hn
  have e1 : (mm : Int) - a = ((mm - a : Nat) : Int) := by omega
  have e2 : (b : Int) - mm = ((b - mm : Nat) : Int) := by omega
  obtain ⟨i0, hi0⟩ : ∃ i0, mm - a = i0 := ⟨_, rfl⟩
  obtain ⟨j0, hj0⟩ : ∃ j0, b - mm = j0 := ⟨_, rfl⟩
  rw [hi0] at e1
  rw [hj0] at e2
  have HI0 := Lib.hid hi0
  have HJ0 := Lib.hid hj0
  clear hi0 hj0
  go_enter Try.func60, Try.ntmps60
  go_wp2_with fail
  go_loopw [10, 11] (fun vi vj wr => ∃ (i j m : Nat) (Z : Array (Fin (N + 1))), 1 ≤ i ∧ 1 ≤ j ∧ a + i ≤ mm ∧ mm + j ≤ b ∧ vi = .int .i64 i ∧ vj = .int .i64 j ∧ Z.size = n ∧ Hid (∀ p, rotF Z (mm - i) mm (mm + j) p = rotF X a mm b p) ∧ wr = WX w blk Z m) (fun vi vj _ => (intOf vi).toNat + (intOf vj).toNat)
  case atStart =>
    have h1 := HI0.out
    have h2 := HJ0.out
    refine ⟨i0, j0, m0, X, by omega, by omega, by omega, by omega, rfl, rfl, HX.out, Lib.hid fun p => ?_, rfl⟩
    rw [show mm - i0 = a by omega, show mm + j0 = b by omega]
  case round =>
    obtain ⟨i, j, m, Z, h1, h2, h3, h4, rfl, rfl, hZ, HR, rfl⟩ := hrel
    have k1 : (mm : Int) - i = ((mm - i : Nat) : Int) := by omega
    by_cases hij : i = j
    · subst hij
      have HC := Lib.hid (HSWR.out Z hZ m (mm - i) mm i (by omega) (by omega))
      obtain ⟨lo, hlo⟩ : ∃ lo, mm - i = lo := ⟨_, rfl⟩
      have HLO := Lib.hid hlo
      rw [hlo] at HC k1
      clear hlo
      go_wp2_with fail
      refine (show Calls _ _ _ _ _ from HC.out).mono ?_
      rintro e w2 ⟨rfl, Y, m2, hsr, rfl⟩
      have HF : Hid (RotR X Y a mm b) := Lib.hid ⟨by rw [hsr.size, hZ, HX.out], fun p => by
        rw [← HR.out p]
        rw [← HLO.out] at hsr
        exact rot_last hsr (by omega) p⟩
      clear hsr
      go_wp2_with fail
      go_end0
      exact ⟨rfl, Y, m2, HF.out, rfl⟩
    · have k2 : ((i : Int) != (j : Int)) = true := by simp; omega
      by_cases hgt : j < i
      · have k3 : decide ((i : Int) > (j : Int)) = true := decide_eq_true (by omega)
        have HC := Lib.hid (HSWR.out Z hZ m (mm - i) mm j (by omega) (by omega))
        obtain ⟨lo, hlo⟩ : ∃ lo, mm - i = lo := ⟨_, rfl⟩
        have HLO := Lib.hid hlo
        rw [hlo] at HC k1
        clear hlo
        have k4 : (i : Int) - j = ((i - j : Nat) : Int) := by omega
        obtain ⟨d, hd⟩ : ∃ d, i - j = d := ⟨_, rfl⟩
        rw [hd] at k4
        have HD := Lib.hid hd
        clear hd
        go_wp2_with fail
        refine (show Calls _ _ _ _ _ from HC.out).mono ?_
        rintro e w2 ⟨rfl, Y, m2, hsr, rfl⟩
        have HF : Hid (∀ p, rotF Y (mm - d) mm (mm + j) p = rotF X a mm b p) := Lib.hid fun p => by
          rw [← HR.out p, ← HD.out]
          rw [← HLO.out] at hsr
          exact rot_left hsr (by omega) h2 hgt p
        have hYs : Y.size = n := by rw [hsr.size, hZ]
        clear hsr
        go_wp2_with fail
        go_roundw
        case rel => exact ⟨d, j, m2, Y, by have := HD.out; omega, h2, by have := HD.out; omega, h4, rfl, rfl, hYs, HF, rfl⟩
        case measure => have := HD.out; simp [intOf]; omega
      · have k3 : decide ((i : Int) > (j : Int)) = false := decide_eq_false (by omega)
        have HC := Lib.hid (HSWR.out Z hZ m (mm - i) (mm + j - i) i (by omega) (by omega))
        obtain ⟨lo, hlo⟩ : ∃ lo, mm - i = lo := ⟨_, rfl⟩
        have HLO := Lib.hid hlo
        rw [hlo] at HC k1
        clear hlo
        have k4 : (j : Int) - i = ((j - i : Nat) : Int) := by omega
        obtain ⟨d, hd⟩ : ∃ d, j - i = d := ⟨_, rfl⟩
        rw [hd] at k4
        have HD := Lib.hid hd
        clear hd
        have k5 : (mm : Int) + j - i = ((mm + j - i : Nat) : Int) := by omega
        obtain ⟨hi2, hhi⟩ : ∃ h, mm + j - i = h := ⟨_, rfl⟩
        rw [hhi] at k5 HC
        have HHI := Lib.hid hhi
        clear hhi
        go_wp2_with fail
        refine (show Calls _ _ _ _ _ from HC.out).mono ?_
        rintro e w2 ⟨rfl, Y, m2, hsr, rfl⟩
        have HF : Hid (∀ p, rotF Y (mm - i) mm (mm + d) p = rotF X a mm b p) := Lib.hid fun p => by
          rw [← HR.out p, ← HD.out]
          rw [← HLO.out, ← HHI.out] at hsr
          exact rot_right hsr (by omega) h1 (by omega) p
        have hYs : Y.size = n := by rw [hsr.size, hZ]
        clear hsr
        go_wp2_with fail
        go_roundw
        case rel => exact ⟨i, d, m2, Y, h1, by have := HD.out; omega, h3, by have := HD.out; omega, rfl, rfl, hYs, HF, rfl⟩
        case measure => have := HD.out; simp [intOf]; omega
end Go.Proofs.Ythcckonkhbmcmaa
