/-
  Orders, fifth part: OpenBricks, LateOrders.
-/
import Derived.Test.YthcckonkhbmcmaaOrders4
import Derived.Test.YthcckonkhbmcmaaApp
namespace Go.Proofs.Ythcckonkhbmcmaa
open Go.ChangeShapes Go.WideShapes Go.ChangeAt Go.RowKit Go.Sort
set_option linter.unusedVariables false

def opn (o : OD) : Int := o.br - o.sent
theorem v_len {l : List OD} (h : vOrders l = true) : l.length ≤ 30 := by
  unfold vOrders at h
  simp only [Bool.and_eq_true, decide_eq_true_eq] at h
  exact h.2
theorem v_ok {l : List OD} (h : vOrders l = true) {k : Nat} (hk : k < l.length) : okAt l k = true := by
  unfold vOrders at h
  simp only [Bool.and_eq_true] at h
  exact List.all_eq_true.1 h.1 k (by simpa using hk)
theorem v_one {l : List OD} (h : vOrders l = true) {k : Nat} (hk : k < l.length) : oneO (gd l k) = true := by
  have := v_ok h hk
  unfold okAt at this
  simp only [Bool.and_eq_true] at this
  exact this.1
theorem v_asc {l : List OD} (h : vOrders l = true) {k : Nat} (hk : k + 1 < l.length) : (gd l k).id < (gd l (k + 1)).id := by
  have := v_ok h hk
  rw [okAt_succ] at this
  simp only [Bool.and_eq_true, decide_eq_true_eq] at this
  exact this.2
theorem opn_bd {l : List OD} (h : vOrders l = true) {k : Nat} (hk : k < l.length) : 0 ≤ opn (gd l k) ∧ opn (gd l k) ≤ 1000000 ∧ 0 ≤ (gd l k).due ∧ (gd l k).due ≤ 10000 := by
  obtain ⟨_, _, g3, g4, g5⟩ := oneO_iff.1 (v_one h hk)
  unfold opn; omega
/-- The open bricks of the first k orders. -/
def osum (l : List OD) (k : Nat) : Int := ((List.range k).map fun i => opn (gd l i)).sum
theorem osum_succ (l : List OD) (k : Nat) : osum l (k + 1) = osum l k + opn (gd l k) := by simp [osum, List.range_succ]
theorem osum_bd {l : List OD} (h : vOrders l = true) : ∀ k, k ≤ l.length → 0 ≤ osum l k ∧ osum l k ≤ 1000000 * (k : Int) := by
  intro k
  induction k with
  | zero => intro _; simp [osum]
  | succ k ih =>
    intro hk
    have h1 := ih (by omega)
    have h2 := opn_bd h (k := k) (by omega)
    rw [osum_succ]; omega
def mOpenBricks (l : List OD) : Int × Int := bif vOrders l then (osum l l.length, 0) else (0, 1)

end Go.Proofs.Ythcckonkhbmcmaa
