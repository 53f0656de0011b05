/-
  Names (IsName): of the reference and of the program.
-/
import Derived.Test.YtibbdlgganmklaaDoorBase
import Derived.IntWalk
namespace Go.Proofs.YtibbdlgganmklaaDoor
open Go.ChangeShapes Go.WideShapes Go.ChangeAt Go.RowKit Go.Sort
set_option linter.unusedVariables false

/-- Byte k of a text, as a number. -/
def byt (s : ByteArray) (k : Nat) : Int := ((s.data.toList.getD k 0).toNat : Int)
theorem byt_eq (s : ByteArray) (k : Nat) (h : k < s.size) : (s[k].toNat : Int) = byt s k := by
  have h' : k < s.data.toList.length := by simpa using h
  unfold byt
  rw [List.getD_eq_getElem?_getD, List.getElem?_eq_getElem h']
  rfl
theorem byt_bd (s : ByteArray) (k : Nat) : 0 ≤ byt s k ∧ byt s k ≤ 255 := by
  unfold byt
  have := (s.data.toList.getD k 0).toNat_lt
  omega
/-- A small letter; a digit; a byte of a name. -/
def smC (c : Int) : Bool := decide (97 ≤ c) && decide (c ≤ 122)
def dgC (c : Int) : Bool := decide (48 ≤ c) && decide (c ≤ 57)
def nbC (c : Int) : Bool := smC c || dgC c || c == 45
def nbs (s : ByteArray) (k : Nat) : Bool := (List.range k).all fun i => nbC (byt s i)
theorem nbs_succ (s : ByteArray) (k : Nat) : nbs s (k + 1) = (nbs s k && nbC (byt s k)) := by simp [nbs, List.range_succ]
theorem nbs_no {s : ByteArray} {k n : Nat} (hk : k < n) (h : nbC (byt s k) = false) : nbs s n = false := by
  unfold nbs
  rw [List.all_eq_false]
  exact ⟨k, by simpa using hk, by simp [h]⟩
def isN (s : ByteArray) : Bool := decide (1 ≤ s.size) && decide (s.size ≤ 12) && smC (byt s 0) && nbs s s.size

theorem nm_cases (y : Int) : (y = 45) ∨ (y < 48 ∧ y ≠ 45) ∨ (48 ≤ y ∧ y ≤ 57) ∨ (58 ≤ y ∧ y ≤ 96) ∨ (97 ≤ y ∧ y ≤ 122) ∨ 123 ≤ y := by omega

end Go.Proofs.YtibbdlgganmklaaDoor
