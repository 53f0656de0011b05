/-
  Lifts, ninth part: the least cost of a plan (plain).
-/
import Derived.Test.YtibbdlgganmklaaDoorLifts3
namespace Go.Proofs.YtibbdlgganmklaaDoor
open Go.ChangeShapes Go.WideShapes Go.ChangeAt Go.RowKit Go.Sort
set_option linter.unusedVariables false

/-- One candidate: a lift from k to 'to', and the least behind it. -/
def cand (r : RS) (L : Nat → Int) (k to : Nat) (cur : Int) : Int := if fits r k to = true ∧ (cur < 0 ∨ cost r k to + L to < cur) then cost r k to + L to else cur
/-- The least over k+1 .. k+m, as the reference reckons it. -/
def lstep (r : RS) (L : Nat → Int) (k : Nat) : Nat → Int
  | 0 => -1
  | m + 1 => cand r L k (k + 1 + m) (lstep r L k m)
/-- The least cost of the courses from n - d on. -/
def bestD (r : RS) : Nat → Nat → Int
  | 0 => fun _ => 0
  | d + 1 => fun k => if k + (d + 1) = r.cs.length then lstep r (bestD r d) k (d + 1) else bestD r d k

theorem lstep_nonneg {r : RS} (hv : vRise r = true) {L : Nat → Int} {k : Nat} (hL : ∀ j, 0 ≤ L j) : ∀ m, k + m ≤ r.cs.length → lstep r L k m = -1 ∨ 0 ≤ lstep r L k m := by
  intro m
  induction m with
  | zero => intro _; exact .inl rfl
  | succ m ih =>
    intro h
    have h1 := ih (by omega)
    have h2 := cost_bd r hv (a := k) (b := k + 1 + m) (by omega) (by omega)
    have h3 := hL (k + 1 + m)
    rw [lstep]
    unfold cand
    split
    · right; omega
    · exact h1

theorem lstep_le {r : RS} (hv : vRise r = true) {L : Nat → Int} {k : Nat} (hL : ∀ j, 0 ≤ L j) : ∀ m, k + m ≤ r.cs.length → ∀ i, i < m → fits r k (k + 1 + i) = true → 0 ≤ lstep r L k m ∧ lstep r L k m ≤ cost r k (k + 1 + i) + L (k + 1 + i) := by
  intro m
  induction m with
  | zero => intro _ i hi; omega
  | succ m ih =>
    intro h i hi hf
    have h0 := lstep_nonneg hv hL (k := k) m (by omega)
    have h2 := cost_bd r hv (a := k) (b := k + 1 + m) (by omega) (by omega)
    have h3 := hL (k + 1 + m)
    rw [lstep]
    unfold cand
    by_cases him : i = m
    · subst him
      split
      · omega
      · rename_i hn
        have : ¬ (lstep r L k i < 0 ∨ cost r k (k + 1 + i) + L (k + 1 + i) < lstep r L k i) := fun hc => hn ⟨hf, hc⟩
        omega
    · have h1 := ih (by omega) i (by omega) hf
      split
      · rename_i hc
        omega
      · exact h1
theorem lstep_is {r : RS} {L : Nat → Int} {k : Nat} : ∀ m, lstep r L k m = -1 ∨ ∃ i, i < m ∧ fits r k (k + 1 + i) = true ∧ lstep r L k m = cost r k (k + 1 + i) + L (k + 1 + i) := by
  intro m
  induction m with
  | zero => exact .inl rfl
  | succ m ih =>
    rw [lstep]
    unfold cand
    split
    · rename_i hc
      exact .inr ⟨m, by omega, hc.1, rfl⟩
    · rcases ih with h | ⟨i, h1, h2, h3⟩
      · exact .inl h
      · exact .inr ⟨i, by omega, h2, h3⟩

theorem lstep_congr {r : RS} {L M : Nat → Int} {k : Nat} : ∀ m, (∀ j, k < j → j ≤ k + m → L j = M j) → lstep r L k m = lstep r M k m := by
  intro m
  induction m with
  | zero => intro _; rfl
  | succ m ih =>
    intro h
    rw [lstep, lstep, ih (fun j h1 h2 => h j h1 (by omega))]
    unfold cand
    rw [h (k + 1 + m) (by omega) (by omega)]
/-- The least cost of the courses from k on. -/
def bestL (r : RS) (k : Nat) : Int := bestD r (r.cs.length - k) k
theorem bestL_end (r : RS) : bestL r r.cs.length = 0 := by unfold bestL; rw [Nat.sub_self]; rfl
theorem bestD_eq (r : RS) : ∀ d k, r.cs.length ≤ k + d → k ≤ r.cs.length → bestD r d k = bestL r k := by
  intro d
  induction d with
  | zero => intro k h1 h2; unfold bestL; rw [show r.cs.length - k = 0 from by omega]
  | succ d ih =>
    intro k h1 h2
    by_cases hk : k + (d + 1) = r.cs.length
    · unfold bestL; rw [show r.cs.length - k = d + 1 from by omega]
    · rw [bestD]; dsimp only; rw [if_neg hk]
      exact ih k (by omega) h2
theorem bestL_step (r : RS) {k : Nat} (hk : k < r.cs.length) : bestL r k = lstep r (bestL r) k (r.cs.length - k) := by
  unfold bestL
  obtain ⟨d, hd⟩ : ∃ d, r.cs.length - k = d + 1 := ⟨r.cs.length - k - 1, by omega⟩
  rw [hd, bestD]; dsimp only; rw [if_pos (by omega)]
  exact lstep_congr _ fun j h1 h2 => bestD_eq r d j (by omega) (by omega)

theorem fits_next {r : RS} (hv : vRise r = true) {k : Nat} (hk : k < r.cs.length) : fits r k (k + 1) = true := by
  obtain ⟨g1, g2, g3, g4, g5⟩ := vRise_iff.1 hv
  have h1 := in_of_out g1 hk
  have h2 := hgt_succ r (Nat.le_refl k)
  have h3 := hgt_self r k
  unfold fits
  rw [decide_eq_true_eq, h2, h3]
  omega
theorem bestD_nonneg {r : RS} (hv : vRise r = true) : ∀ d k, k ≤ r.cs.length → 0 ≤ bestD r d k := by
  intro d
  induction d with
  | zero => intro k _; exact Int.le_refl _
  | succ d ih =>
    intro k hk
    rw [bestD]; dsimp only
    split
    · rename_i he
      have h1 : lstep r (bestD r d) k (d + 1) = lstep r (fun j => if j ≤ r.cs.length then bestD r d j else 0) k (d + 1) := lstep_congr _ fun j h1 h2 => by rw [if_pos (by omega)]
      rw [h1]
      exact (lstep_le hv (fun j => by
        by_cases hj : j ≤ r.cs.length
        · rw [if_pos hj]; exact ih j hj
        · rw [if_neg hj]; exact Int.le_refl _) (d + 1) (by omega) 0 (by omega) (fits_next hv (by omega))).1
    · exact ih k hk
/-- The least costs, and 0 beyond the wall. -/
def lc (r : RS) (k : Nat) : Int := if k ≤ r.cs.length then bestL r k else 0
theorem lc_nonneg {r : RS} (hv : vRise r = true) (k : Nat) : 0 ≤ lc r k := by
  unfold lc
  split
  · exact bestD_nonneg hv _ _ (by omega)
  · exact Int.le_refl _
theorem lc_end (r : RS) : lc r r.cs.length = 0 := by unfold lc; rw [if_pos (Nat.le_refl _), bestL_end]
theorem lc_step (r : RS) {k : Nat} (hk : k < r.cs.length) : lc r k = lstep r (lc r) k (r.cs.length - k) := by
  unfold lc
  rw [if_pos (by omega), bestL_step r hk]
  exact lstep_congr _ fun j h1 h2 => by rw [if_pos (by omega)]
theorem lc_le {r : RS} (hv : vRise r = true) {k to : Nat} (h1 : k < to) (h2 : to ≤ r.cs.length) (hf : fits r k to = true) : lc r k ≤ cost r k to + lc r to := by
  rw [lc_step r (k := k) (by omega)]
  have := (lstep_le hv (k := k) (lc_nonneg hv) (r.cs.length - k) (by omega) (to - (k + 1)) (by omega) (by rw [show k + 1 + (to - (k + 1)) = to from by omega]; exact hf)).2
  rwa [show k + 1 + (to - (k + 1)) = to from by omega] at this
theorem lc_is {r : RS} (hv : vRise r = true) {k : Nat} (hk : k < r.cs.length) : ∃ to, k < to ∧ to ≤ r.cs.length ∧ fits r k to = true ∧ lc r k = cost r k to + lc r to := by
  have h0 := lc_nonneg hv k
  rw [lc_step r hk] at h0 ⊢
  rcases lstep_is (r := r) (L := lc r) (k := k) (r.cs.length - k) with h | ⟨i, h1, h2, h3⟩
  · omega
  · exact ⟨k + 1 + i, by omega, by omega, h2, h3⟩
theorem lc_bd {r : RS} (hv : vRise r = true) : ∀ d k, k ≤ r.cs.length → r.cs.length ≤ k + d → lc r k ≤ 410000 * d := by
  intro d
  induction d with
  | zero =>
    intro k h1 h2
    have : k = r.cs.length := by omega
    subst this
    rw [lc_end]; omega
  | succ d ih =>
    intro k h1 h2
    by_cases hk : k = r.cs.length
    · subst hk; rw [lc_end]; omega
    · have h3 := lc_le hv (k := k) (to := k + 1) (by omega) (by omega) (fits_next hv (by omega))
      have h4 := cost_bd r hv (a := k) (b := k + 1) (by omega) (by omega)
      have h5 := ih (k + 1) (by omega) (by omega)
      omega
theorem lc_small {r : RS} (hv : vRise r = true) {k : Nat} (hk : k ≤ r.cs.length) : 0 ≤ lc r k ∧ lc r k ≤ 16400000 := by
  obtain ⟨g1, g2, g3, g4, g5⟩ := vRise_iff.1 hv
  have := lc_bd hv r.cs.length k hk (by omega)
  have := lc_nonneg hv k
  omega

/-- Is a lift from k to 'to' the first of a cheapest plan? -/
def good (r : RS) (k to : Nat) : Bool := fits r k to && decide (cost r k to + lc r to = lc r k)
theorem good_iff {r : RS} {k to : Nat} : good r k to = true ↔ fits r k to = true ∧ cost r k to + lc r to = lc r k := by simp [good]
def gfind (r : RS) (k : Nat) : Nat → Nat → Nat
  | 0, to => to
  | d + 1, to => if good r k to = true then to else gfind r k d (to + 1)
/-- Where the next lift begins. -/
def nxt (r : RS) (k : Nat) : Nat := if good r k r.cs.length = true then r.cs.length else gfind r k (r.cs.length - (k + 1)) (k + 1)
theorem gfind_at {r : RS} {k : Nat} : ∀ d to, good r k (to + d) = true → (∀ j, to ≤ j → j < to + d → good r k j = false) → gfind r k d to = to + d := by
  intro d
  induction d with
  | zero => intro to _ _; rfl
  | succ d ih =>
    intro to h1 h2
    rw [gfind, if_neg (by rw [h2 to (by omega) (by omega)]; simp), ih (to + 1) (by rw [show to + 1 + d = to + (d + 1) from by omega]; exact h1) (fun j h3 h4 => h2 j (by omega) (by omega))]
    omega
theorem gfind_hit {r : RS} {k : Nat} : ∀ d e to, e ≤ d → good r k (to + e) = true → (∀ j, to ≤ j → j < to + e → good r k j = false) → gfind r k d to = to + e := by
  intro d
  induction d with
  | zero => intro e to he _ _; rw [show e = 0 from by omega]; rfl
  | succ d ih =>
    intro e to he h1 h2
    rw [gfind]
    rcases Nat.eq_zero_or_pos e with h0 | h0
    · subst h0; rw [if_pos (by simpa using h1)]; rfl
    · rw [if_neg (by rw [h2 to (by omega) (by omega)]; simp), ih (e - 1) (to + 1) (by omega) (by rw [show to + 1 + (e - 1) = to + e from by omega]; exact h1) (fun j h3 h4 => h2 j (by omega) (by omega))]
      omega
theorem nxt_end {r : RS} {k : Nat} (h : good r k r.cs.length = true) : nxt r k = r.cs.length := by unfold nxt; rw [if_pos h]
theorem nxt_first {r : RS} {k to : Nat} (h0 : good r k r.cs.length = false) (h1 : k < to) (h2 : to < r.cs.length) (h3 : good r k to = true) (h4 : ∀ j, k < j → j < to → good r k j = false) : nxt r k = to := by
  unfold nxt
  rw [if_neg (by rw [h0]; simp), gfind_hit _ (to - (k + 1)) (k + 1) (by omega) (by rw [show k + 1 + (to - (k + 1)) = to from by omega]; exact h3) (fun j h5 h6 => h4 j (by omega) (by omega))]
  omega
theorem good_ex {r : RS} (hv : vRise r = true) {k : Nat} (hk : k < r.cs.length) : ∃ to, k < to ∧ to ≤ r.cs.length ∧ good r k to = true := by
  obtain ⟨to, h1, h2, h3, h4⟩ := lc_is hv hk
  exact ⟨to, h1, h2, good_iff.2 ⟨h3, h4.symm⟩⟩

/-- The tries of the program: first to the end, then from the next course on. -/
def tr (r : RS) (k i : Nat) : Nat := if i = 0 then r.cs.length else k + i
def ist (r : RS) (k : Nat) : Nat → Int × Nat
  | 0 => (-1, 0)
  | m + 1 => if fits r k (tr r k m) = true ∧ ((ist r k m).1 < 0 ∨ cost r k (tr r k m) + lc r (tr r k m) < (ist r k m).1) then (cost r k (tr r k m) + lc r (tr r k m), tr r k m) else ist r k m
theorem tr_le {r : RS} {k i : Nat} (hk : k < r.cs.length) (hi : i < r.cs.length - k) : k < tr r k i ∧ tr r k i ≤ r.cs.length := by
  unfold tr
  split <;> omega
theorem ist_inv {r : RS} (hv : vRise r = true) {k : Nat} (hk : k < r.cs.length) : ∀ m, m ≤ r.cs.length - k →
    ((ist r k m).1 = -1 ∧ ∀ i, i < m → fits r k (tr r k i) = false) ∨
    (∃ i, i < m ∧ (ist r k m).2 = tr r k i ∧ fits r k (tr r k i) = true ∧ (ist r k m).1 = cost r k (tr r k i) + lc r (tr r k i) ∧
      (∀ j, j < m → fits r k (tr r k j) = true → (ist r k m).1 ≤ cost r k (tr r k j) + lc r (tr r k j)) ∧
      (∀ j, j < i → fits r k (tr r k j) = true → (ist r k m).1 < cost r k (tr r k j) + lc r (tr r k j))) := by
  intro m
  induction m with
  | zero => intro _; exact .inl ⟨rfl, fun i hi => by omega⟩
  | succ m ih =>
    intro hm
    obtain ⟨t1, t2⟩ := tr_le (r := r) hk (i := m) (by omega)
    have c1 := cost_bd r hv (a := k) (b := tr r k m) (by omega) t2
    have c2 := lc_nonneg hv (tr r k m)
    rcases ih (by omega) with ⟨h1, h2⟩ | ⟨i, h1, h2, h3, h4, h5, h6⟩
    · rw [ist]
      by_cases hf : fits r k (tr r k m) = true
      · rw [if_pos ⟨hf, .inl (by omega)⟩]
        refine .inr ⟨m, by omega, rfl, hf, rfl, fun j hj hfj => ?_, fun j hj hfj => ?_⟩
        · by_cases hjm : j = m
          · subst hjm; exact Int.le_refl _
          · rw [h2 j (by omega)] at hfj; cases hfj
        · rw [h2 j hj] at hfj; cases hfj
      · rw [if_neg (fun h => hf h.1)]
        refine .inl ⟨h1, fun j hj => ?_⟩
        by_cases hjm : j = m
        · subst hjm; simpa using hf
        · exact h2 j (by omega)
    · have p1 := tr_le (r := r) hk (i := i) (by omega)
      have p2 := cost_bd r hv (a := k) (b := tr r k i) (by omega) p1.2
      have p3 := lc_nonneg hv (tr r k i)
      rw [ist]
      by_cases hc : fits r k (tr r k m) = true ∧ ((ist r k m).1 < 0 ∨ cost r k (tr r k m) + lc r (tr r k m) < (ist r k m).1)
      · rw [if_pos hc]
        obtain ⟨hf, hc⟩ := hc
        have hc2 : cost r k (tr r k m) + lc r (tr r k m) < (ist r k m).1 := by omega
        refine .inr ⟨m, by omega, rfl, hf, rfl, fun j hj hfj => ?_, fun j hj hfj => ?_⟩
        · dsimp only
          by_cases hjm : j = m
          · subst hjm; exact Int.le_refl _
          · have := h5 j (by omega) hfj; omega
        · dsimp only
          have := h5 j (by omega) hfj; omega
      · rw [if_neg hc]
        refine .inr ⟨i, by omega, h2, h3, h4, fun j hj hfj => ?_, h6⟩
        by_cases hjm : j = m
        · subst hjm
          have : ¬ ((ist r k j).1 < 0 ∨ cost r k (tr r k j) + lc r (tr r k j) < (ist r k j).1) := fun h => hc ⟨hfj, h⟩
          omega
        · exact h5 j (by omega) hfj
theorem ist_end {r : RS} (hv : vRise r = true) {k : Nat} (hk : k < r.cs.length) : ist r k (r.cs.length - k) = (lc r k, nxt r k) := by
  obtain ⟨to, q1, q2, q3, q4⟩ := lc_is hv hk
  have hto : ∃ i, i < r.cs.length - k ∧ tr r k i = to := by
    by_cases h : to = r.cs.length
    · exact ⟨0, by omega, by unfold tr; rw [if_pos rfl, h]⟩
    · exact ⟨to - k, by omega, by unfold tr; rw [if_neg (by omega)]; omega⟩
  obtain ⟨e, he1, he2⟩ := hto
  rcases ist_inv hv hk (r.cs.length - k) (Nat.le_refl _) with ⟨h1, h2⟩ | ⟨i, h1, h2, h3, h4, h5, h6⟩
  · rw [← he2, h2 e he1] at q3; cases q3
  · have p1 := tr_le (r := r) hk (i := i) h1
    have a1 := h5 e he1 (by rw [he2]; exact q3)
    rw [he2] at a1
    have a2 := lc_le hv p1.1 p1.2 h3
    have hE : (ist r k (r.cs.length - k)).1 = lc r k := by omega
    have hG : good r k (tr r k i) = true := good_iff.2 ⟨h3, by omega⟩
    have hN : nxt r k = tr r k i := by
      by_cases h0 : i = 0
      · subst h0
        have ht : tr r k 0 = r.cs.length := by unfold tr; rw [if_pos rfl]
        rw [ht] at hG ⊢
        exact nxt_end hG
      · have ht : tr r k i = k + i := by unfold tr; rw [if_neg h0]
        have hlt : ∀ j, j < i → good r k (tr r k j) = false := fun j hj => by
          cases hg : good r k (tr r k j) with
          | false => rfl
          | true =>
            have := good_iff.1 hg
            have := h6 j hj this.1
            omega
        rw [ht] at hG ⊢
        refine nxt_first ?_ (by omega) (by omega) hG fun j hj1 hj2 => ?_
        · have := hlt 0 (by omega)
          unfold tr at this
          rwa [if_pos rfl] at this
        · have := hlt (j - k) (by omega)
          unfold tr at this
          rwa [if_neg (by omega), show k + (j - k) = j from by omega] at this
    exact Prod.ext hE (by rw [h2, hN])
theorem nxt_bd {r : RS} (hv : vRise r = true) {k : Nat} (hk : k < r.cs.length) : k < nxt r k ∧ nxt r k ≤ r.cs.length ∧ good r k (nxt r k) = true := by
  have hE := ist_end hv hk
  rcases ist_inv hv hk (r.cs.length - k) (Nat.le_refl _) with ⟨h1, h2⟩ | ⟨i, h1, h2, h3, h4, h5, h6⟩
  · rw [hE] at h1
    have := lc_nonneg hv k
    dsimp only at h1
    omega
  · rw [hE] at h2 h4
    have := tr_le (r := r) hk (i := i) h1
    rw [← h2] at this h3 h4
    exact ⟨this.1, this.2, good_iff.2 ⟨h3, by dsimp only at h4 ⊢; omega⟩⟩

theorem gfind_min {r : RS} {k : Nat} : ∀ d to j, to ≤ j → j < gfind r k d to → good r k j = false := by
  intro d
  induction d with
  | zero => intro to j h1 h2; rw [gfind] at h2; omega
  | succ d ih =>
    intro to j h1 h2
    rw [gfind] at h2
    by_cases hg : good r k to = true
    · rw [if_pos hg] at h2; omega
    · rw [if_neg hg] at h2
      by_cases hj : j = to
      · subst hj; simpa using hg
      · exact ih (to + 1) j (by omega) h2
theorem nxt_min {r : RS} {k : Nat} (h0 : good r k r.cs.length = false) {j : Nat} (h1 : k < j) (h2 : j < nxt r k) : good r k j = false := by
  unfold nxt at h2
  rw [if_neg (by rw [h0]; simp)] at h2
  exact gfind_min _ _ j (by omega) h2

/-- The plan from a course on. -/
def pfrom (r : RS) : Nat → Nat → List Int
  | 0, _ => []
  | f + 1, k => if k < r.cs.length then (k : Int) :: pfrom r f (nxt r k) else []
def mBestPlan (r : RS) : List Int × Int := bif vRise r then (pfrom r r.cs.length 0, 0) else ([], 1)
theorem pfrom_end (r : RS) (f : Nat) : pfrom r f r.cs.length = [] := by cases f with
  | zero => rfl
  | succ f => rw [pfrom, if_neg (by omega)]
/-- The list that is built: what there is, and what is still to come, make the plan. -/
def Bp (r : RS) (o : List Int) (k : Nat) : Prop := o.length ≤ k ∧ k ≤ r.cs.length ∧ ∃ f, r.cs.length ≤ k + f ∧ o ++ pfrom r f k = pfrom r r.cs.length 0
theorem Bp.start (r : RS) : Bp r [] 0 := ⟨Nat.le_refl _, Nat.zero_le _, r.cs.length, by omega, rfl⟩
theorem Bp.step {r : RS} (hv : vRise r = true) {o : List Int} {k : Nat} (h : Bp r o k) (hk : k < r.cs.length) : Bp r (o ++ [(k : Int)]) (nxt r k) := by
  obtain ⟨h1, h2, f, h3, h4⟩ := h
  have hn := nxt_bd hv hk
  obtain ⟨g, rfl⟩ : ∃ g, f = g + 1 := ⟨f - 1, by omega⟩
  rw [pfrom, if_pos hk] at h4
  exact ⟨by simp; omega, hn.2.1, g, by omega, by rw [List.append_assoc]; exact h4⟩
theorem Bp.done {r : RS} {o : List Int} (h : Bp r o r.cs.length) : o = pfrom r r.cs.length 0 ∧ o.length ≤ r.cs.length := by
  obtain ⟨h1, h2, f, h3, h4⟩ := h
  rw [pfrom_end, List.append_nil] at h4
  exact ⟨h4, h1⟩

end Go.Proofs.YtibbdlgganmklaaDoor
