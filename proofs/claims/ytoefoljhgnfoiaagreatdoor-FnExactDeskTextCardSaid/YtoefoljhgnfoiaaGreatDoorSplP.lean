/-
  Parts of a text between bytes, plain: the reference's words and the library's. No program in this text.
-/
import Derived.Lib.Split
namespace Go.Proofs.YtoefoljhgnfoiaaGreatDoor
open Go.Lib
set_option linter.unusedVariables false

/-- The parts of a text between bytes b. -/
def splL (b : UInt8) : List UInt8 → List (List UInt8)
  | [] => [[]]
  | c :: r => if c = b then [] :: splL b r else match splL b r with | h :: t => (c :: h) :: t | [] => [[c]]
theorem splL_ne (b : UInt8) (l : List UInt8) : splL b l ≠ [] := by
  cases l with
  | nil => simp [splL]
  | cons c r =>
    rw [splL]
    split
    · simp
    · split <;> simp
theorem splL_cons (b : UInt8) {c : UInt8} (hc : c ≠ b) {r h : List UInt8} {t : List (List UInt8)} (hr : splL b r = h :: t) : splL b (c :: r) = (c :: h) :: t := by
  rw [splL, if_neg hc, hr]
theorem splL_none {b : UInt8} : ∀ {l : List UInt8}, b ∉ l → splL b l = [l]
  | [], _ => rfl
  | c :: r, h => by
    simp only [List.mem_cons, not_or] at h
    exact splL_cons b (fun e => h.1 e.symm) (splL_none h.2)
theorem splL_hit {b : UInt8} : ∀ {l : List UInt8} {k : Nat}, b ∉ l.take k → l[k]? = some b → splL b l = l.take k :: splL b (l.drop (k + 1))
  | [], k, _, h => by simp at h
  | c :: r, 0, _, h => by
    simp at h
    subst h
    rw [splL, if_pos rfl]; rfl
  | c :: r, k + 1, hn, h => by
    simp only [List.take_succ_cons, List.mem_cons, not_or] at hn
    simp only [List.getElem?_cons_succ] at h
    have ih := splL_hit hn.2 h
    rw [splL_cons b (fun e => hn.1 e.symm) ih]
    rfl
/-- Parts, with the byte between them. -/
def jnL (b : UInt8) : List (List UInt8) → List UInt8
  | [] => []
  | [l] => l
  | l :: m :: t => l ++ b :: jnL b (m :: t)
theorem jnL_cons (b : UInt8) (l : List UInt8) {t : List (List UInt8)} (h : t ≠ []) : jnL b (l :: t) = l ++ b :: jnL b t := by
  cases t with
  | nil => exact absurd rfl h
  | cons m t => rfl
theorem jn_spl (b : UInt8) : ∀ l : List UInt8, jnL b (splL b l) = l
  | [] => rfl
  | c :: r => by
    have ih := jn_spl b r
    rw [splL]
    split
    · rename_i h
      subst h
      rw [jnL_cons _ _ (splL_ne _ _), ih]; rfl
    · split
      · rename_i h t hr
        rw [hr] at ih
        cases t with
        | nil =>
          simp only [jnL] at ih ⊢
          rw [ih]
        | cons m t =>
          rw [jnL_cons _ _ (by simp)] at ih
          rw [jnL_cons _ _ (by simp), List.cons_append, ih]
      · rename_i hr
        exact absurd hr (splL_ne _ _)
/-- Parts that lack the byte, joined, split again. -/
theorem spl_jn (b : UInt8) : ∀ (p : List (List UInt8)), p ≠ [] → (∀ x ∈ p, b ∉ x) → splL b (jnL b p) = p
  | [], h, _ => absurd rfl h
  | [l], _, hn => splL_none (hn l (by simp))
  | l :: m :: t, _, hn => by
    have ih := spl_jn b (m :: t) (by simp) (fun x hx => hn x (List.mem_cons_of_mem _ hx))
    rw [jnL_cons _ _ (by simp)]
    have h1 : (l ++ b :: jnL b (m :: t)).take l.length = l := by simp
    have h2 : (l ++ b :: jnL b (m :: t)).drop (l.length + 1) = jnL b (m :: t) := by
      rw [show l ++ b :: jnL b (m :: t) = (l ++ [b]) ++ jnL b (m :: t) by simp, List.drop_append_of_le_length (by simp)]
      simp
    rw [splL_hit (k := l.length) (by rw [h1]; exact hn l (by simp)) (by simp), h1, h2, ih]
theorem splL_no {b : UInt8} : ∀ {l : List UInt8} {x : List UInt8}, x ∈ splL b l → b ∉ x
  | [], x, h => by simp [splL] at h; subst h; simp
  | c :: r, x, h => by
    rw [splL] at h
    split at h
    · rcases List.mem_cons.1 h with rfl | h
      · simp
      · exact splL_no h
    · rename_i hc
      split at h
      · rename_i y t hr
        rcases List.mem_cons.1 h with rfl | h
        · have : b ∉ y := splL_no (by rw [hr]; simp)
          simp only [List.mem_cons, not_or]
          exact ⟨fun e => hc e.symm, this⟩
        · exact splL_no (by rw [hr]; exact List.mem_cons_of_mem _ h)
      · simp only [List.mem_singleton] at h
        subst h
        simp only [List.mem_cons, List.not_mem_nil, or_false]
        exact fun e => hc e.symm
theorem splL_len (b : UInt8) : ∀ l : List UInt8, (splL b l).length ≤ l.length + 1
  | [] => by simp [splL]
  | c :: r => by
    have ih := splL_len b r
    rw [splL]
    split
    · simp only [List.length_cons]; omega
    · split
      · rename_i hr; rw [hr] at ih; simp only [List.length_cons] at ih ⊢; omega
      · simp
theorem splL_part {b : UInt8} {l x : List UInt8} (h : x ∈ splL b l) : x.length ≤ l.length := by
  have h1 := jn_spl b l
  have : ∀ (p : List (List UInt8)), x ∈ p → x.length ≤ (jnL b p).length := by
    intro p
    induction p with
    | nil => intro h; simp at h
    | cons y t ih =>
      intro hx
      cases t with
      | nil => simp only [List.mem_singleton] at hx; subst hx; exact Nat.le_refl _
      | cons m t =>
        rw [jnL_cons _ _ (by simp), List.length_append, List.length_cons]
        rcases List.mem_cons.1 hx with rfl | hx
        · omega
        · have := ih hx; omega
  have h2 := this _ h
  rwa [h1] at h2

/-! ### The library's words -/
theorem isPrefixOf_one (b c : UInt8) (r : List UInt8) : [b].isPrefixOf (c :: r) = (b == c) := by simp [List.isPrefixOf]
theorem index_one_cases (b : UInt8) : ∀ l : List UInt8, (index l [b] = -1 ∧ b ∉ l) ∨ (∃ i : Nat, index l [b] = i ∧ b ∉ l.take i ∧ l[i]? = some b)
  | [] => Or.inl ⟨rfl, by simp⟩
  | c :: r => by
    unfold index
    rw [isPrefixOf_one]
    by_cases h : b = c
    · subst h
      exact Or.inr ⟨0, by simp, by simp, by simp⟩
    · have h' : (b == c) = false := by simpa using h
      rw [h']
      rcases index_one_cases b r with ⟨h1, h2⟩ | ⟨i, h1, h2, h3⟩
      · left
        rw [h1]
        exact ⟨rfl, by simp only [List.mem_cons, not_or]; exact ⟨h, h2⟩⟩
      · right
        rw [h1]
        refine ⟨i + 1, ?_, ?_, by simpa using h3⟩
        · have : ((i : Int) == -1) = false := by rw [beq_eq_false_iff_ne]; omega
          simp [this]
        · simp only [List.take_succ_cons, List.mem_cons, not_or]; exact ⟨h, h2⟩
theorem splitK_none (b : UInt8) (k : Nat) {l : List UInt8} (h : b ∉ l) : splitK [b] 0 k l = [l] := by
  cases k with
  | zero => rfl
  | succ k =>
    rcases index_one_cases b l with ⟨h1, h2⟩ | ⟨i, h1, h2, h3⟩
    · rw [splitK, h1]; rfl
    · exact absurd (List.mem_of_getElem? h3) h
theorem splitK_hit (b : UInt8) (k : Nat) {l : List UInt8} {i : Nat} (h2 : b ∉ l.take i) (h3 : l[i]? = some b) : splitK [b] 0 (k + 1) l = l.take i :: splitK [b] 0 k (l.drop (i + 1)) := by
  rcases index_one_cases b l with ⟨h1, h4⟩ | ⟨j, h1, h4, h5⟩
  · exact absurd (List.mem_of_getElem? h3) h4
  · have hij : i = j := by
      rcases Nat.lt_trichotomy i j with h | h | h
      · exact absurd (List.mem_of_getElem? (by rw [List.getElem?_take, if_pos h]; exact h3)) h4
      · exact h
      · exact absurd (List.mem_of_getElem? (by rw [List.getElem?_take, if_pos h]; exact h5)) h2
    subst hij
    rw [splitK, h1]
    have : ((i : Int) == -1) = false := by rw [beq_eq_false_iff_ne]; omega
    rw [this]
    simp
theorem split_spl (b : UInt8) (l : List UInt8) : split l [b] = splL b l := by
  unfold split
  induction hn : l.length using Nat.strongRecOn generalizing l with
  | ind n ih =>
    rcases index_one_cases b l with ⟨h1, h2⟩ | ⟨i, h1, h2, h3⟩
    · rw [splitK_none b _ h2, splL_none h2]
    · have hi : i < l.length := by
        rcases Nat.lt_or_ge i l.length with h | h
        · exact h
        · rw [List.getElem?_eq_none h] at h3; cases h3
      have hc := count_hit (s := l) (sub := [b]) (by simp) h1
      rw [hc, Nat.add_comm, splitK_hit b _ h2 h3, splL_hit h2 h3]
      congr 1
      have := ih (l.drop (i + 1)).length (by rw [List.length_drop]; omega) (l.drop (i + 1)) rfl
      simpa using this
theorem count_spl (b : UInt8) (l : List UInt8) : count l [b] + 1 = (splL b l).length := by
  induction hn : l.length using Nat.strongRecOn generalizing l with
  | ind n ih =>
    rcases index_one_cases b l with ⟨h1, h2⟩ | ⟨i, h1, h2, h3⟩
    · rw [count_miss h1, splL_none h2]; rfl
    · have hi : i < l.length := by
        rcases Nat.lt_or_ge i l.length with h | h
        · exact h
        · rw [List.getElem?_eq_none h] at h3; cases h3
      rw [count_hit (s := l) (sub := [b]) (by simp) h1, splL_hit h2 h3, List.length_cons]
      have := ih (l.drop (i + 1)).length (by rw [List.length_drop]; omega) (l.drop (i + 1)) rfl
      simp only [List.length_cons, List.length_nil, Nat.zero_add] at this ⊢
      omega
/-- SplitN's parts are so many, where there are no more. -/
theorem splitK_spl (b : UInt8) : ∀ (k : Nat) (l : List UInt8), (splL b l).length ≤ k + 1 → splitK [b] 0 k l = splL b l
  | 0, l, h => by
    rcases index_one_cases b l with ⟨h1, h2⟩ | ⟨i, h1, h2, h3⟩
    · rw [splL_none h2]; rfl
    · rw [splL_hit h2 h3, List.length_cons] at h
      have := splL_ne b (l.drop (i + 1))
      have h5 : 0 < (splL b (l.drop (i + 1))).length := List.length_pos_iff.2 this
      omega
  | k + 1, l, h => by
    rcases index_one_cases b l with ⟨h1, h2⟩ | ⟨i, h1, h2, h3⟩
    · rw [splL_none h2, splitK_none b _ h2]
    · rw [splL_hit h2 h3, List.length_cons] at h
      rw [splL_hit h2 h3, splitK_hit b _ h2 h3, splitK_spl b k _ (by omega)]
theorem splitK_many (b : UInt8) : ∀ (k : Nat) (l : List UInt8), k + 1 ≤ (splL b l).length → (splitK [b] 0 k l).length = k + 1
  | 0, l, h => rfl
  | k + 1, l, h => by
    rcases index_one_cases b l with ⟨h1, h2⟩ | ⟨i, h1, h2, h3⟩
    · rw [splL_none h2] at h; simp at h
    · rw [splL_hit h2 h3, List.length_cons] at h
      rw [splitK_hit b _ h2 h3, List.length_cons, splitK_many b k _ (by omega)]
/-- Cut: before the byte, behind it, whether it is there. -/
theorem cut_miss {b : UInt8} {l : List UInt8} (h : b ∉ l) : (cut l [b]).2.2 = false ∧ (cut l [b]).1 = l := by
  unfold cut
  rcases index_one_cases b l with ⟨h1, h2⟩ | ⟨i, h1, h2, h3⟩
  · rw [h1]; simp
  · exact absurd (List.mem_of_getElem? h3) h
theorem cut_hit {b : UInt8} {l : List UInt8} {i : Nat} (h2 : b ∉ l.take i) (h3 : l[i]? = some b) : (cut l [b]).2.2 = true ∧ (cut l [b]).1 = l.take i := by
  unfold cut
  rcases index_one_cases b l with ⟨h1, h4⟩ | ⟨j, h1, h4, h5⟩
  · exact absurd (List.mem_of_getElem? h3) h4
  · have hij : i = j := by
      rcases Nat.lt_trichotomy i j with h | h | h
      · exact absurd (List.mem_of_getElem? (by rw [List.getElem?_take, if_pos h]; exact h3)) h4
      · exact h
      · exact absurd (List.mem_of_getElem? (by rw [List.getElem?_take, if_pos h]; exact h5)) h2
    subst hij
    rw [h1]
    have : ((i : Int) == -1) = false := by rw [beq_eq_false_iff_ne]; omega
    simp
end Go.Proofs.YtoefoljhgnfoiaaGreatDoor
