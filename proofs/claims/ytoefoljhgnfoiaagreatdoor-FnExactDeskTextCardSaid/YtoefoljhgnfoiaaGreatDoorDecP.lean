/-
  Decimal numerals, plain: the digits as the reference lays them, and the number of a text as both sides read it. No program in this text.
-/
import Derived.Lib.ItoaNum
import Derived.Lib.ParseIntBCases
import Derived.Lib.Atoi
namespace Go.Proofs.YtoefoljhgnfoiaaGreatDoor
open Go.Lib
set_option linter.unusedVariables false

/-- The digits; none for 0. -/
def ddg (u : Nat) : List UInt8 := if u = 0 then [] else decDigits u
theorem ddg_zero : ddg 0 = [] := rfl
theorem ddg_step (u : Nat) (h : u ≠ 0) : ddg u = ddg (u / 10) ++ [UInt8.ofNat (48 + u % 10)] := by
  unfold ddg
  rw [if_neg h]
  rw [decDigits]
  by_cases h10 : u < 10
  · rw [dif_pos h10, if_pos (by omega)]
    rw [Nat.mod_eq_of_lt h10]; rfl
  · rw [dif_neg h10, if_neg (by omega)]
theorem ddg_ne (u : Nat) (h : u ≠ 0) : ddg u ≠ [] := by rw [ddg_step u h]; simp
theorem ddg_dec (u : Nat) (h : u ≠ 0) : decDigits u = ddg u := by unfold ddg; rw [if_neg h]

theorem itoa_zero : itoa 0 = [48] := by
  unfold itoa
  rw [if_neg (by decide)]
  rw [show Int.toNat 0 = 0 from rfl, decDigits]
  rfl
theorem itoa_pos (n : Int) (h : 0 < n) : itoa n = ddg n.natAbs := by
  unfold itoa
  rw [if_neg (by omega), show n.toNat = n.natAbs by omega, ddg_dec _ (by omega)]
theorem itoa_neg (n : Int) (h : n < 0) : itoa n = 45 :: ddg n.natAbs := by
  unfold itoa
  rw [if_pos h, ddg_dec _ (by omega)]

/-- How long. -/
theorem ddg_length_le (k : Nat) : ∀ u : Nat, u < 10 ^ k → (ddg u).length ≤ k := by
  induction k with
  | zero => intro u h; have : u = 0 := by simpa using h
            rw [this]; simp [ddg]
  | succ k ih =>
    intro u h
    by_cases h0 : u = 0
    · rw [h0]; simp [ddg]
    · rw [ddg_step u h0]
      have := ih (u / 10) (by rw [Nat.pow_succ] at h; omega)
      simp; omega
theorem dec_length_le (k u : Nat) (hk : 1 ≤ k) (h : u < 10 ^ k) : (decDigits u).length ≤ k := by
  by_cases h0 : u = 0
  · rw [h0, decDigits]; simp; omega
  · rw [ddg_dec u h0]; exact ddg_length_le k u h
theorem itoa_length_le (n : Int) (h0 : -9223372036854775808 ≤ n) (h1 : n ≤ 9223372036854775807) : (itoa n).length ≤ 20 := by
  unfold itoa
  split
  · have := dec_length_le 19 n.natAbs (by decide) (by omega)
    simp; omega
  · have := dec_length_le 19 n.toNat (by decide) (by omega)
    omega

/-! ### Reading -/
theorem decFrom_append (b : UInt8) : ∀ (l : List UInt8) (acc : Nat), decFrom acc (l ++ [b]) = (decFrom acc l).bind fun a => (digitVal b).map fun d => a * 10 + d := by
  intro l
  induction l with
  | nil => intro acc; simp only [List.nil_append, decFrom, Option.bind_some]; cases digitVal b <;> rfl
  | cons c r ih =>
    intro acc
    simp only [List.cons_append, decFrom]
    cases digitVal c with
    | none => rfl
    | some d => exact ih _
theorem digitVal_of (d : Nat) (h : d < 10) : digitVal (UInt8.ofNat (48 + d)) = some d := by
  have e : (UInt8.ofNat (48 + d)).toNat = 48 + d := by simp [UInt8.toNat_ofNat']; omega
  unfold digitVal
  rw [e, if_pos (by omega)]
  congr 1; omega
theorem decFrom_ddg (u : Nat) : decFrom 0 (ddg u) = some u := by
  induction u using Nat.strongRecOn with
  | ind u ih =>
    by_cases h : u = 0
    · subst h; rfl
    · rw [ddg_step u h, decFrom_append, ih (u / 10) (by omega)]
      rw [Option.bind_some, digitVal_of _ (by omega)]
      simp only [Option.map_some, Option.some.injEq]
      omega
theorem decNat_dec (u : Nat) : decNat (decDigits u) = some u := by
  unfold decNat
  by_cases h : u = 0
  · subst h; rw [decDigits]; rfl
  · rw [ddg_dec u h]
    have := ddg_ne u h
    rw [if_neg (by simpa using this)]
    exact decFrom_ddg u

/-- What is read of no numeral. -/
def badR := parseUintM (2 ^ 64 - 1) 0 [0]
theorem parseUintM_dec (k : Nat) : ∀ (l : List UInt8) (acc : Nat), acc < 10 ^ k → l.length + k ≤ 18 →
    parseUintM (2 ^ 64 - 1) acc l = (match decFrom acc l with | some m => .ok m | none => badR) := by
  intro l
  induction l generalizing k with
  | nil => intro acc _ _; rfl
  | cons c r ih =>
    intro acc ha hl
    simp only [List.length_cons] at hl
    unfold parseUintM
    simp only [decFrom, digitVal]
    by_cases hc : 48 ≤ c.toNat ∧ c.toNat ≤ 57
    · rw [if_pos hc, if_pos hc]
      have h17 : 10 ^ k ≤ 10 ^ 17 := Nat.pow_le_pow_right (by decide) (by omega)
      have e17 : (10 : Nat) ^ 17 = 100000000000000000 := by decide
      have e64 : (2 : Nat) ^ 64 - 1 = 18446744073709551615 := by decide
      rw [if_neg (by omega), if_neg (by omega)]
      exact ih (k + 1) _ (by rw [Nat.pow_succ]; omega) (by omega)
    · rw [if_neg hc, if_neg hc]; rfl

/-- The text behind a '-'. -/
def trm (l : List UInt8) : List UInt8 := match l with | 45 :: r => r | l => l
/-- The sign. -/
def sgn (l : List UInt8) : Bool := match l with | 45 :: _ => true | _ => false
def sv (l : List UInt8) (m : Nat) : Int := if sgn l then -(m : Int) else m
/-- The number with a decimal form of at most 18 digits. -/
def rdec (l : List UInt8) : Option Int :=
  if (trm l).length < 1 ∨ 18 < (trm l).length then none
  else match decFrom 0 (trm l) with
    | some m => if itoa (sv l m) = l then some (sv l m) else none
    | none => none

theorem trm_minus (r : List UInt8) : trm (45 :: r) = r := rfl
theorem trm_other (c : UInt8) (r : List UInt8) (h : c ≠ 45) : trm (c :: r) = c :: r := by
  unfold trm
  split
  · rename_i h'; simp only [List.cons.injEq] at h'; exact absurd h'.1 h
  · rfl
theorem sgn_minus (r : List UInt8) : sgn (45 :: r) = true := rfl
theorem sgn_other (c : UInt8) (r : List UInt8) (h : c ≠ 45) : sgn (c :: r) = false := by
  unfold sgn
  split
  · rename_i h'; simp only [List.cons.injEq] at h'; exact absurd h'.1 h
  · rfl
theorem u8_ne45 {c : UInt8} (h : c ≠ 45) : c.toNat ≠ 45 := fun e => h (by rw [← UInt8.toNat_inj]; exact e)

/-- As strconv reads it: where the text is short, ParseInt's answer with the test of the form is 'rdec'. -/
theorem rdec_parse (l : List UInt8) (h : (trm l).length ≤ 18) :
    rdec l = (match parseIntB 64 l with | .ok v => if itoa v = l then some v else none | _ => none) := by
  cases l with
  | nil => rfl
  | cons c r =>
    by_cases h45 : c = 45
    · subst h45
      rw [trm_minus] at h
      rw [parseIntB_minus]
      unfold rdec parseUintB sv
      rw [trm_minus, sgn_minus]
      cases r with
      | nil => rfl
      | cons d t =>
        have hnl : ¬ ((d :: t).length < 1 ∨ 18 < (d :: t).length) := by simp only [List.length_cons] at h ⊢; omega
        rw [if_neg hnl, if_neg (by simp), parseUintM_dec 0 _ 0 (by decide) (by omega)]
        cases hd : decFrom 0 (d :: t) with
        | none => rfl
        | some m =>
          have hm := decFrom_lt18 hd h
          have e63 : ¬ (2 : Nat) ^ (64 - 1) < m := by have e : (2 : Nat) ^ (64 - 1) = 9223372036854775808 := by decide
                                                      omega
          simp only [signedC, if_true, if_neg e63]
    · by_cases h43 : c = 43
      · subst h43
        rw [parseIntB_plus]
        have e1 : rdec (43 :: r) = none := by
          unfold rdec
          rw [trm_other _ _ h45]
          split
          · rfl
          · have e : decFrom 0 (43 :: r) = none := by simp [decFrom, digitVal]
            rw [e]
        rw [e1]
        cases parseUintB 64 r with
        | ok u =>
          simp only [signlessC]
          by_cases hb : (2 : Nat) ^ (64 - 1) ≤ u
          · rw [if_pos hb]
          · rw [if_neg hb]
            show none = if itoa (u : Int) = 43 :: r then some (u : Int) else none
            rw [if_neg]
            intro he
            unfold itoa at he
            rw [if_neg (by omega)] at he
            by_cases h0 : ((u : Int)).toNat = 0
            · rw [h0, decDigits] at he; simp at he
            · rw [ddg_dec _ h0] at he
              have h2 := decFrom_ddg ((u : Int)).toNat
              rw [he] at h2
              simp [decFrom, digitVal] at h2
        | _ => rfl
      · rw [parseIntB_plain 64 c r (fun e => h43 (by rw [← UInt8.toNat_inj]; exact e)) (u8_ne45 h45)]
        rw [trm_other _ _ h45] at h
        unfold rdec parseUintB sv
        rw [trm_other _ _ h45, sgn_other _ _ h45]
        have hnl : ¬ ((c :: r).length < 1 ∨ 18 < (c :: r).length) := by simp only [List.length_cons] at h ⊢; omega
        rw [if_neg hnl, if_neg (by simp), parseUintM_dec 0 _ 0 (by decide) (by omega)]
        cases hd : decFrom 0 (c :: r) with
        | none => rfl
        | some m =>
          have hm := decFrom_lt18 hd h
          have e63 : ¬ (2 : Nat) ^ (64 - 1) ≤ m := by have e : (2 : Nat) ^ (64 - 1) = 9223372036854775808 := by decide
                                                      omega
          simp only [signlessC, if_neg e63, Bool.false_eq_true, if_false]

theorem rdec_itoa_eq {l : List UInt8} {v : Int} (h : rdec l = some v) : l = itoa v := by
  unfold rdec at h
  split at h
  · cases h
  · split at h
    · split at h
      · rename_i e; cases h; exact e.symm
      · cases h
    · cases h
theorem rdec_range {l : List UInt8} {v : Int} (h : rdec l = some v) : -1000000000000000000 < v ∧ v < 1000000000000000000 := by
  unfold rdec at h
  split at h
  · cases h
  · rename_i hl
    split at h
    · rename_i m hd
      have hm := decFrom_lt18 hd (by omega)
      split at h
      · cases h
        unfold sv
        split <;> omega
      · cases h
    · cases h
theorem rdec_long {l : List UInt8} (h : 18 < (trm l).length) : rdec l = none := by unfold rdec; rw [if_pos (Or.inr h)]

/-- A number's form reads back. -/
theorem rdec_itoa (v : Int) (h0 : -1000000000000000000 < v) (h1 : v < 1000000000000000000) : rdec (itoa v) = some v := by
  have e18 : (10 : Nat) ^ 18 = 1000000000000000000 := by decide
  by_cases hn : v < 0
  · have e : itoa v = 45 :: ddg v.natAbs := itoa_neg v hn
    have hl := ddg_length_le 18 v.natAbs (by omega)
    have hne := ddg_ne v.natAbs (by omega)
    unfold rdec sv
    rw [e, trm_minus, sgn_minus, decFrom_ddg]
    have h2 : 0 < (ddg v.natAbs).length := List.length_pos_iff.2 hne
    rw [if_neg (by omega)]
    simp only [if_true]
    have ev : -((v.natAbs : Nat) : Int) = v := by omega
    rw [ev, e, if_pos rfl]
  · have hd : itoa v = decDigits v.toNat := by unfold itoa; rw [if_neg hn]
    have hl := dec_length_le 18 v.toNat (by decide) (by omega)
    have hde := decNat_dec v.toNat
    obtain ⟨hne, hdf⟩ := decNat_some hde
    cases hc : decDigits v.toNat with
    | nil => exact absurd hc hne
    | cons c r =>
      have hcd : c ≠ 45 := by
        intro e
        rw [hc, e] at hdf
        simp [decFrom, digitVal] at hdf
      rw [hc] at hl hdf
      unfold rdec sv
      rw [hd, hc, trm_other _ _ hcd, sgn_other _ _ hcd, hdf]
      rw [if_neg (by simp only [List.length_cons] at hl ⊢; omega)]
      have ev : ((v.toNat : Nat) : Int) = v := by omega
      simp only [Bool.false_eq_true, if_false, ev, hd, hc, if_true]
theorem itoa_inj {a b : Int} (ha : -1000000000000000000 < a ∧ a < 1000000000000000000) (h : itoa a = itoa b) (hb : -1000000000000000000 < b ∧ b < 1000000000000000000) : a = b := by
  have h1 := rdec_itoa a ha.1 ha.2
  rw [h, rdec_itoa b hb.1 hb.2] at h1
  exact (Option.some.inj h1).symm
end Go.Proofs.YtoefoljhgnfoiaaGreatDoor
