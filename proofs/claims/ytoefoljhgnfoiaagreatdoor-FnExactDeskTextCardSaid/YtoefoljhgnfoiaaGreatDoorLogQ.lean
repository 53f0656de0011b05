/-
  Logs: what a line gives, in the words of the walks. No walk in this text.
-/
import Derived.Test.YtoefoljhgnfoiaaGreatDoorLog2
import Derived.Test.YtoefoljhgnfoiaaGreatDoorNum
import Derived.Test.YtoefoljhgnfoiaaGreatDoorSplit
namespace Go.Proofs.YtoefoljhgnfoiaaGreatDoor
open Go.ChangeShapes Go.WideShapes Go.ChangeAt Go.RowKit Go.Sort
set_option linter.unusedVariables false

/-- The entry of a line's words. -/
def enW (l : List ByteArray) : EN := ⟨rdv (gd l 0), gd l 1, rdv (gd l 2)⟩
theorem spb_bsq (b : UInt8) (l : List UInt8) : spb b (bsq l) = (splL b l).map bsq := by unfold spb; rw [bsq_list]
theorem ln_short {line : List UInt8} (h : (spb 32 (bsq line)).length ≠ 4) : rdLn line = none := by
  rw [spb_bsq, List.length_map] at h
  unfold rdLn
  split
  · rename_i a b c d hs
    rw [hs] at h
    exact absurd rfl h
  · rfl
theorem ln_four {line : List UInt8} {l : List ByteArray} (hl : spb 32 (bsq line) = l) (h : l.length = 4) :
    rdLn line = if (rdb (gd l 0) && rdb (gd l 2) && vEn (enW l)) = true then some (enW l, (gd l 3).data.toList) else none := by
  subst hl
  rw [spb_bsq] at h ⊢
  rw [List.length_map] at h
  match hs : splL 32 line, h with
  | [a, b, c, d], _ =>
    unfold rdLn enW
    rw [hs]
    have e0 : gd (List.map bsq [a, b, c, d]) 0 = bsq a := rfl
    have e1 : gd (List.map bsq [a, b, c, d]) 1 = bsq b := rfl
    have e2 : gd (List.map bsq [a, b, c, d]) 2 = bsq c := rfl
    have e3 : gd (List.map bsq [a, b, c, d]) 3 = bsq d := rfl
    simp only [e0, e1, e2, e3]
    unfold rdv rdb
    simp only [bsq_list]
    obtain ⟨o1, h1⟩ : ∃ o1, rdec a = o1 := ⟨_, rfl⟩
    obtain ⟨o2, h2⟩ : ∃ o2, rdec c = o2 := ⟨_, rfl⟩
    simp only [h1, h2]
    cases o1 with
    | none => simp
    | some x =>
      cases o2 with
      | none => simp
      | some y => simp [bsq]
theorem step_none {es : List EN} {st : Int} {r : List UInt8} (h : (10 : UInt8) ∉ r) : stepL es st r = none := by
  unfold stepL
  rw [idxOf_none h]
theorem step_line {es : List EN} {st : Int} {r : List UInt8} {k : Nat} (h2 : (10 : UInt8) ∉ r.take k) (h3 : r[k]? = some 10) :
    stepL es st r = (match rdLn (r.take k) with
      | none => none
      | some (e, d) => if lday es ≤ e.day ∧ d = Lib.itoa (stmp st (wrd e)) then some (e, stmp st (wrd e), k + 1) else none) := by
  unfold stepL
  rw [idxOf_some h2 h3]
  rfl
theorem lnb_iff {line : List UInt8} {e : EN} {d : List UInt8} {st : Int} (h : rdLn line = some (e, d)) : lnb st e = bsq (line ++ [10]) ↔ d = Lib.itoa st := by
  have h2 := (rdLn_some h).2.1
  constructor
  · intro h3
    have h4 := bsq_inj h3
    rw [h2] at h4
    unfold linL at h4
    rw [List.append_assoc] at h4
    have h5 := List.append_cancel_left h4
    simp only [List.cons_append, List.cons.injEq, true_and] at h5
    exact (List.append_cancel_right h5).symm
  · rintro rfl
    unfold lnb linL
    rw [h2]
    simp
theorem rd_iff {d : ByteArray} {st : Int} (h0 : 0 ≤ st) (h1 : st ≤ 65518) : (rdb d = true ∧ st = rdv d) ↔ d.data.toList = Lib.itoa st := by
  unfold rdb rdv
  constructor
  · rintro ⟨h, h2⟩
    cases hd : rdec d.data.toList with
    | none => rw [hd] at h; simp at h
    | some v =>
      rw [hd] at h2
      simp at h2
      rw [h2]; exact rdec_itoa_eq hd
  · intro h
    rw [h, rdec_itoa st (by omega) (by omega)]
    simp
theorem lday_get {es : List EN} (h : 0 < es.length) : lday es = (gd es (es.length - 1)).day := by
  unfold lday
  rw [List.getLast?_eq_getElem?, List.getElem?_eq_getElem (by omega), gd_eq (by omega)]
theorem ext_line (s : ByteArray) {p q : Nat} (h : p ≤ q) (hq : q < s.size) (h10 : s.data.toList[q]? = some 10) : s.extract p (q + 1) = bsq ((s.data.toList.drop p).take (q - p) ++ [10]) := by
  rw [ext_bsq s (by omega), show q + 1 - p = (q - p) + 1 by omega, List.take_add_one, List.getElem?_drop, show p + (q - p) = q by omega, h10]
  rfl
/-- What a step leaves. -/
def stepEs (es : List EN) : Option (EN × Int × Nat) → List EN | some (e, _, _) => es ++ [e] | none => es
def stepSt (st : Int) : Option (EN × Int × Nat) → Int | some (_, st', _) => st' | none => st
def stepAt (n : Nat) : Option (EN × Int × Nat) → Nat | some (_, _, k) => n + k | none => n
end Go.Proofs.YtoefoljhgnfoiaaGreatDoor
