/-
  Orders, first part: equal lists.
-/
import Derived.Test.YthcckonkhbmcmaaOrd
import Derived.Test.YthcckonkhbmcmaaName
import Derived.Test.YthcckonkhbmcmaaSmall
import Derived.Laws.StructEq
namespace Go.Proofs.Ythcckonkhbmcmaa
open Go.ChangeShapes Go.WideShapes Go.ChangeAt Go.RowKit Go.Sort
set_option linter.unusedVariables false

def eqO (o p : OD) : Bool := decide (o.id = p.id) && decide (o.cu = p.cu) && decide (o.br = p.br) && decide (o.due = p.due) && decide (o.sent = p.sent)
/-- Are two lists of orders equal? -/
def sameO (l m : List OD) : Bool := decide (l.length = m.length) && (List.range l.length).all fun k => eqO (gd l k) (gd m k)
theorem cu_eq (a b : ByteArray) : (a.toList == b.toList) = decide (a = b) := by
  by_cases h : a = b
  · subst h; simp
  · rw [str_ne h, decide_eq_false h]
theorem cu_iff (a b : ByteArray) : a.toList = b.toList ↔ a = b := by
  have h := cu_eq a b
  constructor
  · intro h2
    rw [h2] at h
    simpa using h.symm
  · rintro rfl; rfl
set_option maxRecDepth 100000 in
theorem run_eqO (o p : OD) (w : World) : (Op.equalIn 10000 40 (.agg #[.int .i64 o.id, .string o.cu, .int .i64 o.br, .int .i64 o.due, .int .i64 o.sent]) (.agg #[.int .i64 p.id, .string p.cu, .int .i64 p.br, .int .i64 p.due, .int .i64 p.sent])).run Try.prog w = .ok (eqO o p) w := by
  have hu := Try.underlying40
  have hf := (show ∀ fs, Try.prog.underlying 40 = some (.struct fs) → Try.prog.fieldsOf 40 = fs from fun fs h => by unfold Program.fieldsOf; rw [h]) _ hu
  rw [run_equalIn_struct _ 9999 _ _ _ (by rw [hf]; exact hu) (by kernel_rfl), hf]
  simp [Op.eqFields, go_sem, Try.underlying2, Try.underlying9]
  simp only [cu_iff]
  unfold eqO
  by_cases h1 : o.id = p.id <;> by_cases h2 : o.cu = p.cu <;> by_cases h3 : o.br = p.br <;> by_cases h4 : o.due = p.due <;> by_cases h5 : o.sent = p.sent <;> simp [h1, h2, h3, h4, h5]

theorem all_range_succ (p : Nat → Bool) (k : Nat) : (List.range (k + 1)).all p = ((List.range k).all p && p k) := by simp [List.range_succ]
theorem all_range_no {p : Nat → Bool} {k n : Nat} (hk : k < n) (h : p k = false) : (List.range n).all p = false := by
  rw [List.all_eq_false]
  exact ⟨k, by simpa using hk, by simp [h]⟩


end Go.Proofs.Ythcckonkhbmcmaa
