/-
  The bytes of numerals and of names, plain. No program in this text.
-/
import Derived.Test.YtoefoljhgnfoiaaGreatDoorDecP
import Derived.Test.YtoefoljhgnfoiaaGreatDoorName
namespace Go.Proofs.YtoefoljhgnfoiaaGreatDoor
open Go.Lib
set_option linter.unusedVariables false

theorem isN_size {s : ByteArray} (h : isN s = true) : 1 ≤ s.size ∧ s.size ≤ 12 := by
  unfold isN at h
  simp at h
  omega
theorem isN_byte {s : ByteArray} (h : isN s = true) {b : UInt8} (hb : b ∈ s.data.toList) : nbC (b.toNat : Int) = true := by
  unfold isN nbs at h
  simp only [Bool.and_eq_true, List.all_eq_true, List.mem_range] at h
  obtain ⟨i, hi, he⟩ := List.mem_iff_getElem.1 hb
  have h1 := h.2 i (by simpa using hi)
  unfold byt at h1
  rw [List.getD_eq_getElem?_getD, List.getElem?_eq_getElem hi] at h1
  rw [← he]; exact h1
theorem isN_no32 {s : ByteArray} (h : isN s = true) : (32 : UInt8) ∉ s.data.toList := by
  intro hm
  have := isN_byte h hm
  revert this; decide
theorem isN_no10 {s : ByteArray} (h : isN s = true) : (10 : UInt8) ∉ s.data.toList := by
  intro hm
  have := isN_byte h hm
  revert this; decide

/-! ### The bytes of numerals -/
theorem ddg_bytes (u : Nat) : ∀ b ∈ ddg u, 48 ≤ b.toNat ∧ b.toNat ≤ 57 := by
  induction u using Nat.strongRecOn with
  | ind u ih =>
    by_cases h : u = 0
    · subst h; simp [ddg]
    · intro b hb
      rw [ddg_step u h] at hb
      rcases List.mem_append.1 hb with hb | hb
      · exact ih (u / 10) (by omega) b hb
      · simp only [List.mem_singleton] at hb
        subst hb
        have h2 : (UInt8.ofNat (48 + u % 10)).toNat = 48 + u % 10 := by simp [UInt8.toNat_ofNat']; omega
        rw [h2]; omega
theorem itoa_bytes (n : Int) : ∀ b ∈ itoa n, b = 45 ∨ (48 ≤ b.toNat ∧ b.toNat ≤ 57) := by
  intro b hb
  rcases Int.lt_trichotomy n 0 with h | h | h
  · rw [itoa_neg n h] at hb
    rcases List.mem_cons.1 hb with rfl | hb
    · exact Or.inl rfl
    · exact Or.inr (ddg_bytes _ b hb)
  · subst h
    rw [itoa_zero] at hb
    simp only [List.mem_singleton] at hb
    subst hb
    exact Or.inr (by decide)
  · rw [itoa_pos n h] at hb
    exact Or.inr (ddg_bytes _ b hb)
theorem itoa_no {c : UInt8} (n : Int) (h : c ≠ 45) (h2 : c.toNat < 48 ∨ 57 < c.toNat) : c ∉ itoa n := fun hm => by
  rcases itoa_bytes n c hm with h1 | h1
  · exact h h1
  · omega
theorem itoa_no32 (n : Int) : (32 : UInt8) ∉ itoa n := itoa_no n (by decide) (Or.inl (by decide))
theorem itoa_no10 (n : Int) : (10 : UInt8) ∉ itoa n := itoa_no n (by decide) (Or.inl (by decide))
theorem itoa_no47 (n : Int) : (47 : UInt8) ∉ itoa n := itoa_no n (by decide) (Or.inl (by decide))
theorem itoa_small (n : Int) (h0 : -1000000000 ≤ n) (h1 : n ≤ 1000000000) : (itoa n).length ≤ 11 := by
  unfold itoa
  split
  · have := dec_length_le 10 n.natAbs (by decide) (by omega)
    simp; omega
  · have := dec_length_le 10 n.toNat (by decide) (by omega)
    omega

end Go.Proofs.YtoefoljhgnfoiaaGreatDoor
