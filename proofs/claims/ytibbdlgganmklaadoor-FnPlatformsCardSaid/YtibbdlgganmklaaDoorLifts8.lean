/-
  Lifts, eighth part: FewestLifts.
-/
import Derived.Test.YtibbdlgganmklaaDoorLifts2
import Derived.IntWalk
namespace Go.Proofs.YtibbdlgganmklaaDoor
open Go.ChangeShapes Go.WideShapes Go.ChangeAt Go.RowKit Go.Sort
set_option linter.unusedVariables false

/-- The lifts of the first k courses, and where the last one begins. -/
def few (r : RS) : Nat → Nat × Nat
  | 0 => (1, 0)
  | k + 1 => if r.reach < hgt r (few r k).2 (k + 1) then ((few r k).1 + 1, k) else few r k
theorem few_le (r : RS) (k : Nat) : (few r k).2 ≤ k ∧ (few r k).1 ≤ k + 1 ∧ 1 ≤ (few r k).1 := by
  induction k with
  | zero => simp [few]
  | succ k ih =>
    rw [few]
    split
    · refine ⟨?_, ?_, ?_⟩ <;> dsimp only <;> omega
    · omega
theorem few_new {r : RS} {k : Nat} (h : r.reach < hgt r (few r k).2 (k + 1)) : few r (k + 1) = ((few r k).1 + 1, k) := by rw [few, if_pos h]
theorem few_old {r : RS} {k : Nat} (h : ¬ r.reach < hgt r (few r k).2 (k + 1)) : few r (k + 1) = few r k := by rw [few, if_neg h]
def mFewestLifts (r : RS) : Int × Int := bif vRise r then (((few r r.cs.length).1 : Int), 0) else (0, 1)

end Go.Proofs.YtibbdlgganmklaaDoor
