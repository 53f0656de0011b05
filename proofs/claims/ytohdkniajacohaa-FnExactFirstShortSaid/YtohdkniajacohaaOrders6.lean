/-
  Orders, sixth part: LateOrders.
-/
import Derived.Test.YtohdkniajacohaaOrders5
namespace Go.Proofs.Ytohdkniajacohaa
open Go.ChangeShapes Go.WideShapes Go.ChangeAt Go.RowKit Go.Sort
set_option linter.unusedVariables false

/-- The result of a function that returns numbers and a code. -/
def RetI (M : List Int) (code : Int) (w : World) : Ending → World → Prop := fun e w' => ∃ v, e = .returned (.tuple #[v, .int .i64 code]) ∧ OI w' w.heap.size v M ∧ SmI M ∧ Below w.heap.size w w'
theorem oi_nil (w : World) (B : Nat) : OI w B (.slice none 0 0) [] := World.ownsRow_nil _ _ _ _
theorem oi_lit (w : World) (B : Nat) (h : B ≤ w.heap.size) : OI (w.alloc (.cells #[] 2)) B (.slice (some ⟨w.heap.size, 0, none⟩) 0 0) [] :=
  World.ownsRow_lit _ #[] 0 h (by simp [maxLen]) (by simp)
/-- The orders up to k that are late. -/
def lateTo (l : List OD) (day : Int) (k : Nat) : List Int := ((List.range k).filter fun i => decide ((gd l i).due < day) && decide (0 < opn (gd l i))).map fun (i : Nat) => (i : Int)
theorem late_len (l : List OD) (day : Int) (k : Nat) : (lateTo l day k).length ≤ k := by
  unfold lateTo
  rw [List.length_map]
  exact Nat.le_trans (List.length_filter_le _ _) (Nat.le_of_eq (List.length_range))
theorem late_yes {l : List OD} {day : Int} {k : Nat} (h1 : (gd l k).due < day) (h2 : 0 < opn (gd l k)) : lateTo l day (k + 1) = lateTo l day k ++ [(k : Int)] := by
  simp [lateTo, List.range_succ, List.filter_append, h1, h2]
theorem late_no {l : List OD} {day : Int} {k : Nat} (h : ¬ ((gd l k).due < day ∧ 0 < opn (gd l k))) : lateTo l day (k + 1) = lateTo l day k := by
  have : (decide ((gd l k).due < day) && decide (0 < opn (gd l k))) = false := by
    rw [Bool.and_eq_false_iff, decide_eq_false_iff_not, decide_eq_false_iff_not]; omega
  simp [lateTo, List.range_succ, List.filter_append, this]
def mLateOrders (l : List OD) (day : Int) : List Int × Int := bif vOrders l then (bif inB day 0 10001 then (lateTo l day l.length, 0) else ([], 2)) else ([], 1)

end Go.Proofs.Ytohdkniajacohaa
