/-
  Logs, plain: the words, the stamp and the line of an entry, and what is read of a text. No program in this text.
-/
import Derived.Test.YtoefoljhgnfoiaaGreatDoorSplP
import Derived.Test.YtoefoljhgnfoiaaGreatDoorNumP
import Derived.Test.YtoefoljhgnfoiaaGreatDoorSmall
import Derived.Test.YtoefoljhgnfoiaaGreatDoorEnt
namespace Go.Proofs.YtoefoljhgnfoiaaGreatDoor
open Go.Lib
set_option linter.unusedVariables false

def vEn (e : EN) : Bool := inB e.day 0 100000 && isN e.what && inB e.val (-1000000) 1000000
/-- The words of an entry. -/
def wrd (e : EN) : List UInt8 := itoa e.day ++ 32 :: (e.what.data.toList ++ 32 :: itoa e.val)
/-- One byte more of a stamp. -/
def stp1 (s : Int) (c : UInt8) : Int := (37 * s + (c.toNat : Int)) % 65519
def stmp (before : Int) (ws : List UInt8) : Int := ws.foldl stp1 ((before + 29) % 65519)
theorem stp1_bd (s : Int) (c : UInt8) : 0 ≤ stp1 s c ∧ stp1 s c ≤ 65518 := by unfold stp1; omega
theorem stmp_bd (b : Int) (ws : List UInt8) : 0 ≤ stmp b ws ∧ stmp b ws ≤ 65518 := by
  unfold stmp
  have : ∀ (ws : List UInt8) (s : Int), 0 ≤ s → s ≤ 65518 → 0 ≤ ws.foldl stp1 s ∧ ws.foldl stp1 s ≤ 65518 := by
    intro ws
    induction ws with
    | nil => intro s h1 h2; exact ⟨h1, h2⟩
    | cons c r ih => intro s _ _; exact ih _ (stp1_bd s c).1 (stp1_bd s c).2
  exact this ws _ (by omega) (by omega)
theorem stmp_snoc (b : Int) (ws : List UInt8) (c : UInt8) : stmp b (ws ++ [c]) = stp1 (stmp b ws) c := by unfold stmp; rw [List.foldl_append]; rfl
/-- The line of an entry. -/
def linL (st : Int) (e : EN) : List UInt8 := wrd e ++ 32 :: (itoa st ++ [10])

theorem vEn_iff {e : EN} : vEn e = true ↔ (0 ≤ e.day ∧ e.day ≤ 100000) ∧ isN e.what = true ∧ (-1000000 ≤ e.val ∧ e.val ≤ 1000000) := by
  unfold vEn inB
  simp [and_assoc]
theorem vEn_sm {e : EN} (h : vEn e = true) : e.what.size ≤ 12 := (isN_size (vEn_iff.1 h).2.1).2
theorem wrd_len {e : EN} (h : vEn e = true) : (wrd e).length ≤ 36 := by
  have h1 := vEn_iff.1 h
  have h2 := itoa_small e.day (by omega) (by omega)
  have h3 := itoa_small e.val (by omega) (by omega)
  have h4 := vEn_sm h
  have h5 : e.what.data.toList.length = e.what.size := by rw [Array.length_toList]; rfl
  unfold wrd
  simp only [List.length_append, List.length_cons]
  omega
theorem linL_len {e : EN} {st : Int} (h : vEn e = true) (h0 : 0 ≤ st) (h1 : st ≤ 65518) : (linL st e).length ≤ 60 := by
  have h2 := wrd_len h
  have h3 := itoa_small st (by omega) (by omega)
  unfold linL
  simp only [List.length_append, List.length_cons, List.length_nil]
  omega

/-! ### Reading -/
/-- The entry of a line and the text of its stamp. -/
def rdLn (line : List UInt8) : Option (EN × List UInt8) :=
  match splL 32 line with
  | [a, b, c, d] => match rdec a, rdec c with
    | some day, some v => if vEn ⟨day, ⟨b.toArray⟩, v⟩ then some (⟨day, ⟨b.toArray⟩, v⟩, d) else none
    | _, _ => none
  | _ => none
theorem rdLn_some {line : List UInt8} {e : EN} {d : List UInt8} (h : rdLn line = some (e, d)) : vEn e = true ∧ line = wrd e ++ 32 :: d ∧ splL 32 line = [itoa e.day, e.what.data.toList, itoa e.val, d] := by
  unfold rdLn at h
  split at h
  · rename_i a b c d' hs
    split at h
    · rename_i day v h1 h2
      split at h
      · rename_i hv
        injection h with h
        injection h with h3 h4
        subst h3 h4
        have e1 := rdec_itoa_eq h1
        have e2 := rdec_itoa_eq h2
        have e3 := jn_spl 32 line
        rw [hs] at e3
        refine ⟨hv, ?_, by rw [hs, e1, e2]⟩
        rw [← e3, e1, e2]
        simp [jnL, wrd]
      · cases h
    · cases h
  · cases h
theorem rdLn_mk {e : EN} {d : List UInt8} (hv : vEn e = true) (hd : (32 : UInt8) ∉ d) : rdLn (wrd e ++ 32 :: d) = some (e, d) := by
  have h1 := vEn_iff.1 hv
  have hs : splL 32 (wrd e ++ 32 :: d) = [itoa e.day, e.what.data.toList, itoa e.val, d] := by
    have := spl_jn 32 [itoa e.day, e.what.data.toList, itoa e.val, d] (by simp) (by
      intro x hx
      simp only [List.mem_cons, List.not_mem_nil, or_false] at hx
      rcases hx with rfl | rfl | rfl | rfl
      · exact itoa_no32 _
      · exact isN_no32 h1.2.1
      · exact itoa_no32 _
      · exact hd)
    rw [← this]
    simp [jnL, wrd]
  unfold rdLn
  rw [hs]
  simp only [rdec_itoa e.day (by omega) (by omega), rdec_itoa e.val (by omega) (by omega)]
  have e5 : (⟨e.what.data.toList.toArray⟩ : ByteArray) = e.what := by cases e.what; simp
  rw [e5, if_pos hv]

/-- The day of the last entry; 0 if there is none. -/
def lday (es : List EN) : Int := match es.getLast? with | some e => e.day | none => 0
theorem lday_nil : lday [] = 0 := rfl
theorem lday_snoc (es : List EN) (e : EN) : lday (es ++ [e]) = e.day := by simp [lday]
/-- What the next line gives: the entry, its stamp and the bytes read. -/
def stepL (es : List EN) (st : Int) (rest : List UInt8) : Option (EN × Int × Nat) :=
  match rest.idxOf? 10 with
  | none => none
  | some k => match rdLn (rest.take k) with
    | none => none
    | some (e, d) => if lday es ≤ e.day ∧ d = itoa (stmp st (wrd e)) then some (e, stmp st (wrd e), k + 1) else none
theorem idxOf_none {l : List UInt8} (h : (10 : UInt8) ∉ l) : l.idxOf? 10 = none := by simpa using h
theorem idxOf_some {l : List UInt8} {k : Nat} (h2 : (10 : UInt8) ∉ l.take k) (h3 : l[k]? = some 10) : l.idxOf? 10 = some k := by
  induction l generalizing k with
  | nil => simp at h3
  | cons c r ih =>
    cases k with
    | zero => simp at h3; subst h3; simp [List.idxOf?_cons]
    | succ k =>
      simp only [List.take_succ_cons, List.mem_cons, not_or] at h2
      rw [List.idxOf?_cons, if_neg (by simpa using fun e => h2.1 e.symm), ih h2.2 (by simpa using h3)]
      rfl
theorem idxOf_inv {l : List UInt8} {k : Nat} (h : l.idxOf? 10 = some k) : (10 : UInt8) ∉ l.take k ∧ l[k]? = some 10 := by
  induction l generalizing k with
  | nil => simp at h
  | cons c r ih =>
    rw [List.idxOf?_cons] at h
    split at h
    · rename_i hc
      cases h
      simp at hc
      subst hc
      simp
    · rename_i hc
      simp at hc
      simp only [Option.map_eq_some_iff] at h
      obtain ⟨j, hj, rfl⟩ := h
      have := ih hj
      simp only [List.take_succ_cons, List.mem_cons, not_or, List.getElem?_cons_succ]
      exact ⟨⟨fun e => hc e.symm, this.1⟩, this.2⟩
theorem stepL_some {es : List EN} {st : Int} {rest : List UInt8} {e : EN} {st' : Int} {n : Nat} (h : stepL es st rest = some (e, st', n)) :
    vEn e = true ∧ lday es ≤ e.day ∧ st' = stmp st (wrd e) ∧ rest.take n = linL st' e ∧ n = (linL st' e).length ∧ n ≤ rest.length := by
  unfold stepL at h
  split at h
  · cases h
  · rename_i k hk
    obtain ⟨k1, k2⟩ := idxOf_inv hk
    split at h
    · cases h
    · rename_i e' d hl
      split at h
      · rename_i hc
        injection h with h
        injection h with h1 h2
        injection h2 with h2 h3
        subst h1 h2 h3
        obtain ⟨r1, r2, r3⟩ := rdLn_some hl
        have hkl : k < rest.length := by
          rcases Nat.lt_or_ge k rest.length with h | h
          · exact h
          · rw [List.getElem?_eq_none h] at k2; cases k2
        have ht : rest.take (k + 1) = linL (stmp st (wrd e')) e' := by
          rw [List.take_succ_eq_append_getElem hkl, r2, hc.2]
          rw [List.getElem?_eq_getElem hkl] at k2
          injection k2 with k2
          rw [k2]
          simp [linL]
        refine ⟨r1, hc.1, rfl, ht, ?_, hkl⟩
        rw [← ht, List.length_take]; omega
      · cases h
theorem linL_no10 {e : EN} (h : vEn e = true) (st : Int) : (10 : UInt8) ∉ wrd e ++ 32 :: itoa st := by
  have h1 := isN_no10 (vEn_iff.1 h).2.1
  have h2 := itoa_no10 e.day
  have h3 := itoa_no10 e.val
  have h4 := itoa_no10 st
  unfold wrd
  simp only [List.mem_append, List.mem_cons, not_or]
  exact ⟨⟨h2, by decide, h1, by decide, h3⟩, by decide, h4⟩
theorem stepL_mk {es : List EN} {st : Int} {e : EN} (hv : vEn e = true) (hd : lday es ≤ e.day) (r : List UInt8) :
    stepL es st (linL (stmp st (wrd e)) e ++ r) = some (e, stmp st (wrd e), (linL (stmp st (wrd e)) e).length) := by
  have hn := linL_no10 hv (stmp st (wrd e))
  have hl : linL (stmp st (wrd e)) e = (wrd e ++ 32 :: itoa (stmp st (wrd e))) ++ [10] := by simp [linL]
  have h1 : (linL (stmp st (wrd e)) e ++ r).take (wrd e ++ 32 :: itoa (stmp st (wrd e))).length = wrd e ++ 32 :: itoa (stmp st (wrd e)) := by
    rw [hl, List.append_assoc, List.take_left]
  have h2 : (linL (stmp st (wrd e)) e ++ r).idxOf? 10 = some (wrd e ++ 32 :: itoa (stmp st (wrd e))).length := by
    refine idxOf_some (by rw [h1]; exact hn) ?_
    rw [hl, List.append_assoc, List.getElem?_append_right (Nat.le_refl _)]
    simp
  unfold stepL
  rw [h2]
  simp only [h1, rdLn_mk hv (itoa_no32 _)]
  rw [if_pos ⟨hd, trivial⟩, hl]
  simp only [List.length_append, List.length_cons, List.length_nil]

/-- The longest beginning that is a log: its entries, its stamp, its length. -/
def rdL (s : List UInt8) : Nat → List EN → Int → Nat → List EN × Int × Nat
  | 0, es, st, n => (es, st, n)
  | f + 1, es, st, n => match stepL es st (s.drop n) with
    | some (e, st', k) => rdL s f (es ++ [e]) st' (n + k)
    | none => (es, st, n)
theorem linL_pos (st : Int) (e : EN) : 0 < (linL st e).length := by unfold linL; simp only [List.length_append, List.length_cons]; omega
theorem rdL_fuel (s : List UInt8) : ∀ (f f' : Nat) (es : List EN) (st : Int) (n : Nat), s.length < f + n → s.length < f' + n → rdL s f es st n = rdL s f' es st n
  | 0, f', es, st, n, h, h' => by
    have hd : s.drop n = [] := List.drop_of_length_le (by omega)
    cases f' with
    | zero => rfl
    | succ f' => simp [rdL, hd, stepL]
  | f + 1, 0, es, st, n, h, h' => by
    have hd : s.drop n = [] := List.drop_of_length_le (by omega)
    simp [rdL, hd, stepL]
  | f + 1, f' + 1, es, st, n, h, h' => by
    rw [rdL, rdL]
    split
    · rename_i e st' k hk
      have := (stepL_some hk).2.2.2.2
      have hp := linL_pos st' e
      exact rdL_fuel s f f' _ _ _ (by omega) (by omega)
    · rfl
/-- From here on. -/
def rdAt (s : List UInt8) (es : List EN) (st : Int) (n : Nat) : List EN × Int × Nat := rdL s (s.length + 1) es st n
def rdLog (s : List UInt8) : List EN × Int × Nat := rdAt s [] 0 0
theorem rdAt_step {s : List UInt8} {es : List EN} {st : Int} {n : Nat} {e : EN} {st' : Int} {k : Nat} (h : stepL es st (s.drop n) = some (e, st', k)) : rdAt s es st n = rdAt s (es ++ [e]) st' (n + k) := by
  unfold rdAt
  rw [rdL, h]
  have := (stepL_some h).2.2.2.2
  have hp := linL_pos st' e
  exact rdL_fuel s _ _ _ _ _ (by omega) (by omega)
theorem rdAt_stop {s : List UInt8} {es : List EN} {st : Int} {n : Nat} (h : stepL es st (s.drop n) = none) : rdAt s es st n = (es, st, n) := by
  unfold rdAt
  rw [rdL, h]

/-- Entries that are valid and in order. -/
def okEs : List EN → Int → Prop
  | [], _ => True
  | e :: r, d => vEn e = true ∧ d ≤ e.day ∧ okEs r e.day
theorem okEs_snoc {es : List EN} {d : Int} (h : okEs es d) {e : EN} (hv : vEn e = true) (hd : (match es.getLast? with | some x => x.day | none => d) ≤ e.day) : okEs (es ++ [e]) d := by
  induction es generalizing d with
  | nil => exact ⟨hv, hd, trivial⟩
  | cons x r ih =>
    refine ⟨h.1, h.2.1, ih h.2.2 ?_⟩
    cases r with
    | nil => simpa using hd
    | cons y t => simpa [List.getLast?_cons] using hd
end Go.Proofs.YtoefoljhgnfoiaaGreatDoor
