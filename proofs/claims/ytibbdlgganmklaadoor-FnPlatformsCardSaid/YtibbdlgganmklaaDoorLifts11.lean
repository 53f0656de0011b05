/-
  Lifts, eleventh part: plans as chains of lifts (plain): the cheapest plan is one, no plan is cheaper, none has fewer lifts than the fewest.
-/
import Derived.Test.YtibbdlgganmklaaDoorLifts6
import Derived.Test.YtibbdlgganmklaaDoorLifts8
import Derived.Test.YtibbdlgganmklaaDoorLifts9
namespace Go.Proofs.YtibbdlgganmklaaDoor
open Go.ChangeShapes Go.WideShapes Go.ChangeAt Go.RowKit Go.Sort
set_option linter.unusedVariables false

/-- xs are lifts from k to the top, and c is what they cost. -/
inductive PF (r : RS) : Nat → List Int → Int → Prop
  | nil : PF r r.cs.length [] 0
  | cons {k to : Nat} {xs : List Int} {c : Int} : k < to → to ≤ r.cs.length → fits r k to = true → PF r to xs c → PF r k ((k : Int) :: xs) (cost r k to + c)

theorem PF.le {r : RS} (hv : vRise r = true) {k : Nat} {xs : List Int} {c : Int} (h : PF r k xs c) : lc r k ≤ c := by
  induction h with
  | nil => rw [lc_end]; exact Int.le_refl _
  | cons h1 h2 h3 _ ih => have := lc_le hv h1 h2 h3; omega
theorem PF.best {r : RS} (hv : vRise r = true) : ∀ f k, k ≤ r.cs.length → r.cs.length ≤ k + f → PF r k (pfrom r f k) (lc r k) := by
  intro f
  induction f with
  | zero =>
    intro k h1 h2
    have : k = r.cs.length := by omega
    subst this
    rw [lc_end]; exact .nil
  | succ f ih =>
    intro k h1 h2
    by_cases hk : k < r.cs.length
    · obtain ⟨n1, n2, n3⟩ := nxt_bd hv hk
      obtain ⟨n4, n5⟩ := good_iff.1 n3
      rw [pfrom, if_pos hk, ← n5]
      exact .cons n1 n2 n4 (ih _ n2 (by omega))
    · have : k = r.cs.length := by omega
      subst this
      rw [pfrom_end, lc_end]; exact .nil

theorem pl_cons (k : Int) (xs : List Int) (i : Nat) : pl (k :: xs) (i + 1) = pl xs i := by simp [pl, gi]
theorem pl_zero (k : Nat) (xs : List Int) : pl ((k : Int) :: xs) 0 = k := by simp [pl, gi]
theorem ends_cons (r : RS) (k : Int) (xs : List Int) (i : Nat) : ends r (k :: xs) (i + 1) = ends r xs i := by
  unfold ends
  rw [pl_cons, List.length_cons]
  by_cases h : i + 1 < xs.length
  · rw [if_pos h, if_pos (by omega)]
  · rw [if_neg h, if_neg (by omega)]
theorem PF.first {r : RS} {k : Nat} {xs : List Int} {c : Int} (h : PF r k xs c) : (xs = [] ∧ k = r.cs.length) ∨ (0 < xs.length ∧ pl xs 0 = k) := by
  cases h with
  | nil => exact .inl ⟨rfl, rfl⟩
  | cons h1 h2 h3 h4 => exact .inr ⟨by simp, pl_zero _ _⟩
theorem PF.ends0 {r : RS} {k to : Nat} {xs : List Int} {c : Int} (h : PF r to xs c) : ends r ((k : Int) :: xs) 0 = to := by
  unfold ends
  rw [List.length_cons]
  rcases h.first with ⟨h1, h2⟩ | ⟨h1, h2⟩
  · subst h1; rw [if_neg (by simp), h2]
  · rw [if_pos (by omega), pl_cons, h2]
theorem PF.at {r : RS} {k : Nat} {xs : List Int} {c : Int} (h : PF r k xs c) : ∀ i, i < xs.length → gi xs i = (pl xs i : Int) ∧ pl xs i < ends r xs i ∧ ends r xs i ≤ r.cs.length ∧ fits r (pl xs i) (ends r xs i) = true := by
  induction h with
  | nil => intro i hi; simp at hi
  | @cons k to xs c h1 h2 h3 h4 ih =>
    intro i hi
    cases i with
    | zero => rw [pl_zero, h4.ends0]; exact ⟨by simp [gi], h1, h2, h3⟩
    | succ i =>
      rw [pl_cons, ends_cons]
      exact ⟨by have := (ih i (by simpa using hi)).1; rw [← this]; simp [gi], (ih i (by simpa using hi)).2⟩
theorem PF.sum {r : RS} {k : Nat} {xs : List Int} {c : Int} (h : PF r k xs c) : psum r xs xs.length = c := by
  induction h with
  | nil => rfl
  | @cons k to xs c h1 h2 h3 h4 ih =>
    rw [← ih]
    unfold psum
    rw [List.length_cons, List.range_succ_eq_map, List.map_cons, List.map_map, List.sum_cons, pl_zero, h4.ends0]
    congr 2
    exact List.map_congr_left fun i _ => by simp only [Function.comp, Nat.succ_eq_add_one, pl_cons, ends_cons]
theorem PF.plan {r : RS} {xs : List Int} {c : Int} (h : PF r 0 xs c) (h0 : 0 < r.cs.length) : isPlan r xs = true ∧ 0 < xs.length := by
  have hA := h.at
  rcases h.first with ⟨_, h1⟩ | ⟨h1, h2⟩
  · omega
  · refine ⟨?_, h1⟩
    have hg : gi xs 0 = 0 := by rw [(hA 0 h1).1, h2]; rfl
    have hO : outB xs 0 ((r.cs.length : Int) - 1) = false := out_no fun k hk => inB_yes (by have := (hA k hk).1; omega) (by have := hA k hk; omega)
    have hS : asc xs xs.length = true := by
      unfold asc
      rw [List.all_eq_true]
      intro i hi
      have hi' : i < xs.length := by simpa using hi
      rcases Nat.eq_zero_or_pos i with h0 | h0
      · subst h0; rfl
      · have q1 := hA (i - 1) (by omega)
        have q2 := hA i hi'
        have q3 : ends r xs (i - 1) = pl xs i := by unfold ends; rw [show i - 1 + 1 = i from by omega, if_pos hi']
        have q4 : gi xs (i - 1) < gi xs i := by omega
        unfold gi at q4
        rw [decide_eq_true q4, Bool.or_true]
    unfold isPlan okPlan
    have hF : allFit r xs xs.length = true := by
      unfold allFit
      rw [List.all_eq_true]
      intro i hi
      exact (hA i (by simpa using hi)).2.2.2
    have hN : (xs.length == 0) = false := by rw [beq_eq_false_iff_ne]; omega
    rw [rises_split, hO, hS, hg, hF, hN]
    rfl
theorem PF.of_plan {r : RS} {xs : List Int} (h : isPlan r xs = true) : PF r 0 xs (psum r xs xs.length) := by
  unfold isPlan okPlan at h
  simp only [Bool.and_eq_true, rises_split, Bool.not_eq_true'] at h
  obtain ⟨⟨⟨⟨h1, h2⟩, h3⟩, h4⟩, h5⟩ := h
  have hlen : 0 < xs.length := by
    rcases Nat.eq_zero_or_pos xs.length with h | h
    · rw [h] at h3; simp at h3
    · exact h
  have key : ∀ d i, i + d = xs.length → PF r (if i < xs.length then pl xs i else r.cs.length) (xs.drop i) (psum r xs xs.length - psum r xs i) := by
    intro d
    induction d with
    | zero =>
      intro i hi
      rw [if_neg (by omega), List.drop_of_length_le (by omega), show i = xs.length from by omega, Int.sub_self]
      exact .nil
    | succ d ih =>
      intro i hi
      have hlt : i < xs.length := by omega
      have ih1 := ih (i + 1) (by omega)
      have hb := pl_bd h1 hlt
      have hl := pl_le h1 hlt (fun q => asc_at h2 q)
      have hf : fits r (pl xs i) (ends r xs i) = true := by
        unfold allFit at h5
        rw [List.all_eq_true] at h5
        exact h5 i (by simpa using hlt)
      rw [if_pos hlt, List.drop_eq_getElem_cons hlt, show xs[i] = (pl xs i : Int) from by rw [← hb.1]; unfold gi; rw [List.getD_eq_getElem?_getD, List.getElem?_eq_getElem hlt]; rfl,
        show psum r xs xs.length - psum r xs i = cost r (pl xs i) (ends r xs i) + (psum r xs xs.length - psum r xs (i + 1)) from by rw [psum_succ]; omega]
      exact .cons hl.2.2 hl.2.1 hf (by
        have e : ends r xs i = if i + 1 < xs.length then pl xs (i + 1) else r.cs.length := rfl
        rw [e]; exact ih1)
  have := key xs.length 0 (by omega)
  rw [if_pos hlen, List.drop_zero, show psum r xs 0 = 0 from rfl, Int.sub_zero] at this
  have h6 : pl xs 0 = 0 := by
    have : gi xs 0 = 0 := by simpa using h4
    unfold pl; rw [this]; rfl
  rwa [h6] at this

theorem hgt_split (r : RS) {a b : Nat} (c : Nat) (h : a ≤ b) (hb : b ≤ c) : hgt r a c = hgt r a b + hgt r b c := by
  obtain ⟨d, rfl⟩ : ∃ d, c = b + d := ⟨c - b, by omega⟩
  clear hb
  induction d with
  | zero => simp [hgt_self]
  | succ d ih => rw [← Nat.add_assoc, hgt_succ r (show a ≤ b + d by omega), hgt_succ r (show b ≤ b + d by omega), ih]; omega
theorem hgt_mono (r : RS) (hO : outB r.cs 30 200 = false) {a b c : Nat} (h : a ≤ b) (hb : b ≤ c) (hc : c ≤ r.cs.length) : hgt r b c ≤ hgt r a c := by
  have h1 := hgt_split r c h hb
  have h2 := hgt_bd r hO a b h (by omega)
  omega
/-- In a lift from p on: no fewer than the fewest. -/
theorem few_lift {r : RS} (hO : outB r.cs 30 200 = false) {i p : Nat} : ∀ d, p + d ≤ r.cs.length → fits r p (p + d) = true → ((few r p).1 < i ∨ (few r p).1 = i ∧ p ≤ (few r p).2) → ((few r (p + d)).1 < i ∨ (few r (p + d)).1 = i ∧ p ≤ (few r (p + d)).2) := by
  intro d
  induction d with
  | zero => intro _ _ h; exact h
  | succ d ih =>
    intro h1 h2 h3
    unfold fits at h2 ih
    rw [decide_eq_true_eq] at h2
    have hm : hgt r p (p + d) ≤ r.reach := by
      have := hgt_succ r (show p ≤ p + d by omega)
      have := in_of_out hO (k := p + d) (by omega)
      rw [Nat.add_assoc] at *
      omega
    have h4 := ih (by omega) (decide_eq_true hm) h3
    have h5 := few_le r (p + d)
    by_cases hn : r.reach < hgt r (few r (p + d)).2 (p + d + 1)
    · rw [← Nat.add_assoc, few_new hn]
      dsimp only
      rcases h4 with h4 | ⟨h4, h6⟩
      · by_cases h7 : (few r (p + d)).1 + 1 = i
        · exact .inr ⟨h7, by omega⟩
        · exact .inl (by omega)
      · have := hgt_mono r hO h6 (show (few r (p + d)).2 ≤ p + d + 1 by omega) (by omega)
        rw [Nat.add_assoc] at *
        omega
    · rw [← Nat.add_assoc, few_old hn]; exact h4
theorem PF.few {r : RS} (hO : outB r.cs 30 200 = false) {k : Nat} {xs : List Int} {c : Int} (h : PF r k xs c) : ∀ i, (few r k).1 ≤ i → (few r r.cs.length).1 ≤ i + xs.length := by
  induction h with
  | nil => intro i hi; simpa using hi
  | @cons k to xs c h1 h2 h3 h4 ih =>
    intro i hi
    have := few_lift hO (i := i + 1) (p := k) (to - k) (by omega) (by rw [show k + (to - k) = to from by omega]; exact h3) (.inl (by omega))
    rw [show k + (to - k) = to from by omega] at this
    have := ih (i + 1) (by omega)
    rw [List.length_cons]; omega
theorem few_plan {r : RS} (hv : vRise r = true) {xs : List Int} {c : Int} (h : PF r 0 xs c) : (few r r.cs.length).1 ≤ xs.length := by
  obtain ⟨g1, g2, g3, g4, g5⟩ := vRise_iff.1 hv
  generalize hk : 0 = k0 at h
  cases h with
  | nil => omega
  | @cons k to xs c h1 h2 h3 h4 =>
    subst hk
    have := few_lift g1 (i := 1) (p := 0) to (by omega) (by rw [Nat.zero_add]; exact h3) (.inr ⟨rfl, Nat.zero_le _⟩)
    rw [Nat.zero_add] at this
    have := h4.few g1 1 (by omega)
    rw [List.length_cons]; omega

end Go.Proofs.YtibbdlgganmklaaDoor
