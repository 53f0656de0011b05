/-
  The reference's reading of numbers (l01Number).
-/
import Derived.Test.YtibbdlgganmklaaDoorEnv
import Derived.Test.YtibbdlgganmklaaDoorName
import Derived.Lib.IndexBytes
namespace Go.Proofs.YtibbdlgganmklaaDoor
open Go.ChangeShapes Go.WideShapes Go.ChangeAt Go.RowKit Go.Sort
set_option linter.unusedVariables false
set_option maxRecDepth 8000

/-- The number of a text; 0 where there is none. -/
def rdv (s : ByteArray) : Int := (rdec s.data.toList).getD 0
def rdb (s : ByteArray) : Bool := (rdec s.data.toList).isSome
theorem rdv_range (s : ByteArray) : -1000000000000000000 < rdv s ∧ rdv s < 1000000000000000000 := by
  unfold rdv
  cases h : rdec s.data.toList with
  | none => decide
  | some v => exact rdec_range h
theorem rd_none {s : ByteArray} (h : rdec s.data.toList = none) : rdv s = 0 ∧ rdb s = false := by unfold rdv rdb; rw [h]; exact ⟨rfl, rfl⟩
theorem rd_some {s : ByteArray} {v : Int} (h : rdec s.data.toList = some v) : rdv s = v ∧ rdb s = true := by unfold rdv rdb; rw [h]; exact ⟨rfl, rfl⟩

theorem dgC_val {b : UInt8} : dgC (b.toNat : Int) = true ↔ ∃ d, Lib.digitVal b = some d := by
  unfold dgC Lib.digitVal
  constructor
  · intro h
    simp at h
    exact ⟨_, if_pos (by omega)⟩
  · rintro ⟨d, h⟩
    split at h
    · simp; omega
    · cases h
theorem dec_none {l : List UInt8} {k : Nat} {b : UInt8} (hb : l[k]? = some b) (h : dgC (b.toNat : Int) = false) : Lib.decFrom 0 l = none := by
  cases he : Lib.decFrom 0 l with
  | none => rfl
  | some n =>
    have := dgC_val.2 (Lib.digit_of_decFrom l 0 n he k b hb)
    rw [h] at this; cases this
theorem list_cons {s : ByteArray} (h : 0 < s.size) : ∃ c r, s.data.toList = c :: r ∧ (s[0]'h) = c := by
  have h' : 0 < s.data.toList.length := by rw [size_toList]; exact h
  cases he : s.data.toList with
  | nil => rw [he] at h'; simp at h'
  | cons c r =>
    refine ⟨c, r, rfl, ?_⟩
    have : (s.data.toList)[0]'h' = c := by simp [he]
    rw [← this]; rfl
theorem dec_step {l : List UInt8} {k m : Nat} {b : UInt8} (h : Lib.decFrom 0 (l.take k) = some m) (hb : l[k]? = some b) (h1 : 48 ≤ b.toNat) (h2 : b.toNat ≤ 57) : Lib.decFrom 0 (l.take (k + 1)) = some (10 * m + (b.toNat - 48)) := by
  rw [List.take_add_one, hb]
  show Lib.decFrom 0 (l.take k ++ [b]) = _
  rw [decFrom_append, h, Option.bind_some]
  unfold Lib.digitVal
  rw [if_pos (by omega)]
  simp only [Option.map_some, Option.some.injEq]
  omega
theorem lt_pow18 {l : List UInt8} {m : Nat} (h : Lib.decFrom 0 l = some m) (hl : l.length ≤ 18) : m < 1000000000000000000 := Lib.decFrom_lt18 h hl


theorem str_some {s : ByteArray} (h : 0 < s.size) : ¬ s.toList = [] ∧ s.toList.isEmpty = false := by
  have hne : s ≠ ⟨#[]⟩ := by rintro rfl; exact absurd h (by decide)
  have hem2 : ¬ s.toList = [] := by
    have h := str_ne hne
    intro h2
    rw [h2] at h
    simp at h
  refine ⟨hem2, ?_⟩
  cases h : s.toList with
  | nil => exact absurd h hem2
  | cons a l => rfl
end Go.Proofs.YtibbdlgganmklaaDoor
