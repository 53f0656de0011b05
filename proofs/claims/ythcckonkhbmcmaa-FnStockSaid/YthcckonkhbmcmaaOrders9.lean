/-
  Orders, ninth part: the place of an order.
-/
import Derived.Test.YthcckonkhbmcmaaOrders5
namespace Go.Proofs.Ythcckonkhbmcmaa
open Go.ChangeShapes Go.WideShapes Go.ChangeAt Go.RowKit Go.Sort
set_option linter.unusedVariables false

/-- How many of the first k orders have smaller numbers (in a valid list). -/
def lbn (l : List OD) (id : Int) : Nat → Nat
  | 0 => 0
  | k + 1 => if (gd l k).id < id then k + 1 else lbn l id k
/-- The place of a number. -/
def lb (l : List OD) (id : Int) : Nat := lbn l id l.length
theorem v_lt {l : List OD} (h : vOrders l = true) {i j : Nat} (hij : i < j) (hj : j < l.length) : (gd l i).id < (gd l j).id := by
  obtain ⟨d, rfl⟩ : ∃ d, j = i + 1 + d := ⟨j - (i + 1), by omega⟩
  clear hij
  induction d with
  | zero => exact v_asc h hj
  | succ d ih => exact Int.lt_trans (ih (by omega)) (v_asc h hj)
theorem lbn_spec {l : List OD} (h : vOrders l = true) (id : Int) : ∀ k, k ≤ l.length → lbn l id k ≤ k ∧ (∀ j, j < lbn l id k → (gd l j).id < id) ∧ (∀ j, lbn l id k ≤ j → j < k → id ≤ (gd l j).id) := by
  intro k
  induction k with
  | zero => intro _; exact ⟨Nat.le_refl _, fun j hj => by rw [lbn] at hj; omega, fun j _ hj => by omega⟩
  | succ k ih =>
    intro hk
    obtain ⟨h1, h2, h3⟩ := ih (by omega)
    rw [lbn]
    by_cases hi : (gd l k).id < id
    · rw [if_pos hi]
      refine ⟨Nat.le_refl _, fun j hj => ?_, fun j h4 h5 => by omega⟩
      by_cases hjk : j = k
      · rw [hjk]; exact hi
      · exact Int.lt_trans (v_lt h (show j < k by omega) (by omega)) hi
    · rw [if_neg hi]
      refine ⟨by omega, h2, fun j h4 h5 => ?_⟩
      by_cases hjk : j = k
      · rw [hjk]; omega
      · exact h3 j h4 (by omega)
theorem lb_spec {l : List OD} (h : vOrders l = true) (id : Int) : lb l id ≤ l.length ∧ (∀ j, j < lb l id → (gd l j).id < id) ∧ (∀ j, lb l id ≤ j → j < l.length → id ≤ (gd l j).id) := lbn_spec h id l.length (Nat.le_refl _)
theorem lb_eq {l : List OD} (h : vOrders l = true) {id : Int} {k : Nat} (hk : k ≤ l.length) (h1 : ∀ j, j < k → (gd l j).id < id) (h2 : ∀ j, k ≤ j → j < l.length → id ≤ (gd l j).id) : lb l id = k := by
  obtain ⟨g1, g2, g3⟩ := lb_spec h id
  rcases Nat.lt_trichotomy (lb l id) k with h4 | h4 | h4
  · have := h1 _ h4; have := g3 (lb l id) (Nat.le_refl _) (by omega); omega
  · exact h4
  · have := g2 k h4; have := h2 k (Nat.le_refl _) (by omega); omega
/-- Is there an order with a number? -/
def known (l : List OD) (id : Int) : Bool := decide (lb l id < l.length) && decide ((gd l (lb l id)).id = id)
def fnd (l : List OD) (id : Int) : Int := bif known l id then (lb l id : Int) else -1
theorem fnd_hit {l : List OD} (h : vOrders l = true) {id : Int} {k : Nat} (hk : k < l.length) (he : (gd l k).id = id) : lb l id = k ∧ known l id = true := by
  have h1 : lb l id = k := lb_eq h (by omega) (fun j hj => by rw [← he]; exact v_lt h hj hk) (fun j h2 h3 => by
    by_cases hjk : j = k
    · rw [hjk, he]; exact Int.le_refl _
    · rw [← he]; exact Int.le_of_lt (v_lt h (by omega) h3))
  exact ⟨h1, by unfold known; rw [h1, decide_eq_true hk, decide_eq_true he]; rfl⟩
theorem fnd_none {l : List OD} {id : Int} (h : ∀ j, j < l.length → (gd l j).id ≠ id) : known l id = false := by
  unfold known
  by_cases h1 : lb l id < l.length
  · rw [decide_eq_false (h _ h1), Bool.and_false]
  · rw [decide_eq_false h1]; rfl

def cmpI (a b : Int) : Int := if a < b then -1 else if b < a then 1 else 0
theorem cmp_nan (n : Int) (w : World) : Calls Try.prog 54 #[.int .i64 n] w (RetP (.bool false) w) := by
  go_enter Try.func54, Try.ntmps54
  go_wp2_with fail
  go_ret
  exact ⟨ret_bool (by simp), rfl⟩
theorem cmp_compare (a b : Int) (w : World) : Calls Try.prog 47 #[.int .i64 a, .int .i64 b] w (RetP (.int .i64 (cmpI a b)) w) := by
  go_enter Try.func47, Try.ntmps47
  go_wp2_with fail
  refine (cmp_nan a _).mono ?_
  rintro e w1 ⟨rfl, rfl⟩
  go_wp2_with fail
  refine (cmp_nan b _).mono ?_
  rintro e w1 ⟨rfl, rfl⟩
  by_cases h1 : a < b
  · have e1 : decide (a < b) = true := decide_eq_true h1
    have HX : Hid (cmpI a b = -1) := Lib.hid (by unfold cmpI; rw [if_pos h1])
    go_wp2_with fail
    go_ret
    exact ⟨ret_int HX.out.symm, rfl⟩
  · have e1 : decide (a < b) = false := decide_eq_false h1
    by_cases h2 : b < a
    · have e2 : decide (b < a) = true := decide_eq_true h2
      have HX : Hid (cmpI a b = 1) := Lib.hid (by unfold cmpI; rw [if_neg h1, if_pos h2])
      go_wp2_with fail
      go_ret
      exact ⟨ret_int HX.out.symm, rfl⟩
    · have e2 : decide (b < a) = false := decide_eq_false h2
      have HX : Hid (cmpI a b = 0) := Lib.hid (by unfold cmpI; rw [if_neg h1, if_neg h2])
      go_wp2_with fail
      go_ret
      exact ⟨ret_int HX.out.symm, rfl⟩
end Go.Proofs.Ythcckonkhbmcmaa
