/-
  Orders by their days (plain): insertion, sums up to a day, the greatest lack.
-/
import Derived.Test.YthcckonkhbmcmaaOrders5
namespace Go.Proofs.Ythcckonkhbmcmaa
open Go.ChangeShapes Go.WideShapes Go.ChangeAt Go.RowKit Go.Sort
set_option linter.unusedVariables false

/-- The day and the open bricks of the order that an index names. -/
def dI (l : List OD) (x : Int) : Int := (gd l x.toNat).due
def oI (l : List OD) (x : Int) : Int := opn (gd l x.toNat)
/-- Where an order with day d goes among the first k. -/
def ipos (l : List OD) (xs : List Int) (d : Int) : Nat → Nat
  | 0 => 0
  | k + 1 => if d < dI l (gi xs k) then ipos l xs d k else k + 1
theorem ipos_le (l : List OD) (xs : List Int) (d : Int) (k : Nat) : ipos l xs d k ≤ k := by
  induction k with
  | zero => exact Nat.le_refl _
  | succ k ih => rw [ipos]; split <;> omega
theorem ipos_gt (l : List OD) (xs : List Int) (d : Int) : ∀ k j, ipos l xs d k ≤ j → j < k → d < dI l (gi xs j) := by
  intro k
  induction k with
  | zero => intro j _ h; omega
  | succ k ih =>
    intro j h1 h2
    rw [ipos] at h1
    split at h1
    · rename_i hd
      by_cases hj : j = k
      · subst hj; exact hd
      · exact ih j h1 (by omega)
    · omega
theorem ipos_at (l : List OD) (xs : List Int) (d : Int) : ∀ k, ipos l xs d k = 0 ∨ dI l (gi xs (ipos l xs d k - 1)) ≤ d := by
  intro k
  induction k with
  | zero => exact .inl rfl
  | succ k ih =>
    rw [ipos]
    split
    · exact ih
    · right; rw [Nat.add_sub_cancel]; omega
def ins (l : List OD) (xs : List Int) (i : Nat) : List Int := xs.take (ipos l xs (gd l i).due xs.length) ++ [(i : Int)] ++ xs.drop (ipos l xs (gd l i).due xs.length)
/-- The open ones of the first k orders, by their days. -/
def dueTo (l : List OD) : Nat → List Int
  | 0 => []
  | k + 1 => if opn (gd l k) = 0 then dueTo l k else ins l (dueTo l k) k
theorem ins_len (l : List OD) (xs : List Int) (i : Nat) : (ins l xs i).length = xs.length + 1 := by
  have := ipos_le l xs (gd l i).due xs.length
  unfold ins
  simp; omega
theorem due_len (l : List OD) (k : Nat) : (dueTo l k).length ≤ k := by
  induction k with
  | zero => exact Nat.le_refl _
  | succ k ih =>
    rw [dueTo]
    split
    · omega
    · rw [ins_len]; omega
theorem due_mem {l : List OD} {k : Nat} {x : Int} (h : x ∈ dueTo l k) : ∃ j : Nat, x = j ∧ j < k ∧ opn (gd l j) ≠ 0 := by
  induction k with
  | zero => cases h
  | succ k ih =>
    rw [dueTo] at h
    split at h
    · obtain ⟨j, h1, h2⟩ := ih h; exact ⟨j, h1, by omega, h2.2⟩
    · rename_i ho
      unfold ins at h
      rw [List.mem_append, List.mem_append] at h
      rcases h with (h | h) | h
      · obtain ⟨j, h1, h2⟩ := ih (List.mem_of_mem_take h); exact ⟨j, h1, by omega, h2.2⟩
      · rw [List.mem_singleton] at h; exact ⟨k, h, by omega, ho⟩
      · obtain ⟨j, h1, h2⟩ := ih (List.mem_of_mem_drop h); exact ⟨j, h1, by omega, h2.2⟩
theorem gi_mem {xs : List Int} {k : Nat} (h : k < xs.length) : gi xs k ∈ xs := by
  unfold gi; rw [List.getD_eq_getElem?_getD, List.getElem?_eq_getElem h]; exact List.getElem_mem h
theorem gi_eq {xs : List Int} {k : Nat} (h : k < xs.length) : gi xs k = xs[k] := by
  unfold gi; rw [List.getD_eq_getElem?_getD, List.getElem?_eq_getElem h]; rfl
theorem due_at {l : List OD} {m k : Nat} (h : k < (dueTo l m).length) : ∃ j : Nat, gi (dueTo l m) k = j ∧ j < m ∧ opn (gd l j) ≠ 0 := due_mem (gi_mem h)
/-- By their days. -/
def Srt (l : List OD) (xs : List Int) : Prop := xs.Pairwise fun a b => dI l a ≤ dI l b
theorem Srt.at {l : List OD} {xs : List Int} (h : Srt l xs) {i j : Nat} (hij : i ≤ j) (hj : j < xs.length) : dI l (gi xs i) ≤ dI l (gi xs j) := by
  by_cases he : i = j
  · subst he; exact Int.le_refl _
  · rw [gi_eq (show i < xs.length by omega), gi_eq hj]
    exact List.pairwise_iff_getElem.1 h i j (by omega) hj (by omega)
theorem ins_srt {l : List OD} {xs : List Int} (h : Srt l xs) (i : Nat) : Srt l (ins l xs i) := by
  obtain ⟨k, hk⟩ : ∃ k, ipos l xs (gd l i).due xs.length = k := ⟨_, rfl⟩
  have h1 := ipos_le l xs (gd l i).due xs.length
  have h2 := ipos_gt l xs (gd l i).due xs.length
  have h3 := ipos_at l xs (gd l i).due xs.length
  unfold ins Srt
  rw [hk] at h1 h2 h3 ⊢
  have hd : dI l (i : Int) = (gd l i).due := by unfold dI; rw [Int.toNat_natCast]
  have ht : ∀ a ∈ xs.take k, dI l a ≤ (gd l i).due := by
    intro a ha
    obtain ⟨j, hj, rfl⟩ := List.getElem_of_mem ha
    rw [List.length_take] at hj
    rw [List.getElem_take, ← gi_eq (by omega)]
    rcases h3 with h3 | h3
    · omega
    · exact Int.le_trans (h.at (show j ≤ k - 1 by omega) (by omega)) h3
  have hr : ∀ b ∈ xs.drop k, (gd l i).due ≤ dI l b := by
    intro b hb
    obtain ⟨j, hj, rfl⟩ := List.getElem_of_mem hb
    rw [List.length_drop] at hj
    rw [List.getElem_drop, ← gi_eq (by omega)]
    have := h2 (k + j) (by omega) (by omega)
    omega
  rw [List.append_assoc, List.pairwise_append, List.pairwise_append]
  refine ⟨List.Pairwise.sublist (List.take_sublist _ _) h, ⟨List.pairwise_singleton _ _, List.Pairwise.sublist (List.drop_sublist _ _) h, ?_⟩, ?_⟩
  · intro a ha b hb
    rw [List.mem_singleton] at ha
    subst ha
    rw [hd]; exact hr b hb
  · intro a ha b hb
    rw [List.mem_append, List.mem_singleton] at hb
    rcases hb with rfl | hb
    · rw [hd]; exact ht a ha
    · have := ht a ha; have := hr b hb; omega
theorem due_srt (l : List OD) (k : Nat) : Srt l (dueTo l k) := by
  induction k with
  | zero => exact List.Pairwise.nil
  | succ k ih =>
    rw [dueTo]
    split
    · exact ih
    · exact ins_srt ih k

/-- What an order adds up to a day. -/
def wI (l : List OD) (d : Int) (x : Int) : Int := if dI l x ≤ d then oI l x else 0
def SD (l : List OD) (d : Int) (xs : List Int) : Int := (xs.map (wI l d)).sum
/-- The open bricks of the first k orders that are due until a day. -/
def dU (l : List OD) (d : Int) (k : Nat) : Int := ((List.range k).map fun (i : Nat) => wI l d (i : Int)).sum
theorem dU_succ (l : List OD) (d : Int) (k : Nat) : dU l d (k + 1) = dU l d k + wI l d (k : Int) := by simp [dU, List.range_succ]
theorem SD_due (l : List OD) (d : Int) (k : Nat) : SD l d (dueTo l k) = dU l d k := by
  induction k with
  | zero => rfl
  | succ k ih =>
    rw [dU_succ, ← ih, dueTo]
    split
    · rename_i ho
      have : wI l d (k : Int) = 0 := by unfold wI oI; rw [Int.toNat_natCast, ho]; split <;> rfl
      omega
    · unfold ins SD
      rw [List.map_append, List.map_append, List.sum_append, List.sum_append, List.map_cons, List.map_nil, List.sum_cons, List.sum_nil]
      have h := congrArg List.sum (congrArg (List.map (wI l d)) (List.take_append_drop (ipos l (dueTo l k) (gd l k).due (dueTo l k).length) (dueTo l k)))
      rw [List.map_append, List.sum_append] at h
      omega
/-- The open bricks of the first k of a row of indices. -/
def pS (l : List OD) (xs : List Int) (k : Nat) : Int := ((List.range k).map fun i => oI l (gi xs i)).sum
theorem pS_succ (l : List OD) (xs : List Int) (k : Nat) : pS l xs (k + 1) = pS l xs k + oI l (gi xs k) := by simp [pS, List.range_succ]
def tS (l : List OD) (d : Int) (xs : List Int) (k : Nat) : Int := ((List.range k).map fun i => wI l d (gi xs i)).sum
theorem tS_succ (l : List OD) (d : Int) (xs : List Int) (k : Nat) : tS l d xs (k + 1) = tS l d xs k + wI l d (gi xs k) := by simp [tS, List.range_succ]
theorem tS_all (l : List OD) (d : Int) (xs : List Int) : tS l d xs xs.length = SD l d xs := by
  unfold tS SD
  congr 1
  apply List.ext_getElem?
  intro i
  by_cases hi : i < xs.length
  · simp only [List.getElem?_map, List.getElem?_range hi, Option.map_some, List.getElem?_eq_getElem hi, gi_eq hi]
  · rw [List.getElem?_eq_none (by simp; omega), List.getElem?_eq_none (by simp; omega)]
theorem pS_eq {l : List OD} {xs : List Int} (hs : Srt l xs) {d : Int} : ∀ k, k ≤ xs.length → (∀ i, i < k → dI l (gi xs i) ≤ d) → tS l d xs k = pS l xs k := by
  intro k
  induction k with
  | zero => intro _ _; rfl
  | succ k ih =>
    intro hk h
    rw [tS_succ, pS_succ, ih (by omega) (fun i hi => h i (by omega))]
    unfold wI
    rw [if_pos (h k (by omega))]
theorem tS_mono {l : List OD} {xs : List Int} {d : Int} (hn : ∀ i, i < xs.length → 0 ≤ oI l (gi xs i)) {i : Nat} : ∀ k, i ≤ k → k ≤ xs.length → tS l d xs i ≤ tS l d xs k := by
  intro k
  induction k with
  | zero => intro h _; rw [show i = 0 from by omega]; exact Int.le_refl _
  | succ k ih =>
    intro h1 h2
    by_cases hik : i = k + 1
    · rw [hik]; exact Int.le_refl _
    · have h3 := ih (by omega) (by omega)
      have h4 := hn k (by omega)
      rw [tS_succ]
      have h5 : 0 ≤ wI l d (gi xs k) := by unfold wI; split <;> omega
      omega
/-- The open bricks up to place i are at most those that are due until its day. -/
theorem pS_le {l : List OD} {xs : List Int} (hs : Srt l xs) (hn : ∀ i, i < xs.length → 0 ≤ oI l (gi xs i)) {i : Nat} (hi : i < xs.length) : pS l xs (i + 1) ≤ SD l (dI l (gi xs i)) xs := by
  rw [← pS_eq hs (d := dI l (gi xs i)) (i + 1) (by omega) (fun j hj => hs.at (by omega) hi), ← tS_all]
  exact tS_mono hn _ (by omega) (Nat.le_refl _)
/-- What is due until a day is nothing, or the open bricks up to some place of no later day. -/
theorem SD_is {l : List OD} {xs : List Int} (hs : Srt l xs) (d : Int) : SD l d xs = 0 ∨ ∃ i, i < xs.length ∧ dI l (gi xs i) ≤ d ∧ pS l xs (i + 1) = SD l d xs ∧ (∀ j, i < j → j < xs.length → d < dI l (gi xs j)) := by
  have key : ∀ k, k ≤ xs.length → (tS l d xs k = 0 ∧ ∀ j, j < k → d < dI l (gi xs j)) ∨ ∃ i, i < k ∧ dI l (gi xs i) ≤ d ∧ pS l xs (i + 1) = tS l d xs k ∧ (∀ j, i < j → j < k → d < dI l (gi xs j)) := by
    intro k
    induction k with
    | zero => intro _; exact .inl ⟨rfl, fun j hj => by omega⟩
    | succ k ih =>
      intro hk
      by_cases hd : dI l (gi xs k) ≤ d
      · refine .inr ⟨k, by omega, hd, ?_, fun j h1 h2 => by omega⟩
        rw [pS_eq hs (k + 1) hk (fun i hi => Int.le_trans (hs.at (show i ≤ k by omega) (by omega)) hd)]
      · have hw : wI l d (gi xs k) = 0 := by unfold wI; rw [if_neg hd]
        rw [tS_succ, hw, Int.add_zero]
        rcases ih (by omega) with ⟨h, h'⟩ | ⟨i, h1, h2, h3, h4⟩
        · exact .inl ⟨h, fun j hj => by
            by_cases hjk : j = k
            · subst hjk; omega
            · exact h' j (by omega)⟩
        · exact .inr ⟨i, by omega, h2, h3, fun j h5 h6 => by
            by_cases hjk : j = k
            · subst hjk; omega
            · exact h4 j h5 (by omega)⟩
  have := key xs.length (Nat.le_refl _)
  rw [tS_all] at this
  rcases this with ⟨h, _⟩ | h
  · exact .inl h
  · exact .inr h

/-- The greatest of 0 and f 0 .. f (k - 1). -/
def fmax (f : Nat → Int) : Nat → Int
  | 0 => 0
  | k + 1 => max (fmax f k) (f k)
theorem fmax_nonneg (f : Nat → Int) (k : Nat) : 0 ≤ fmax f k := by
  induction k with
  | zero => exact Int.le_refl _
  | succ k ih => rw [fmax]; omega
theorem fmax_ge (f : Nat → Int) : ∀ k i, i < k → f i ≤ fmax f k := by
  intro k
  induction k with
  | zero => intro i h; omega
  | succ k ih =>
    intro i h
    rw [fmax]
    by_cases hi : i = k
    · subst hi; omega
    · have := ih i (by omega); omega
theorem fmax_le {f : Nat → Int} {b : Int} (h0 : 0 ≤ b) : ∀ k, (∀ i, i < k → f i ≤ b) → fmax f k ≤ b := by
  intro k
  induction k with
  | zero => intro _; exact h0
  | succ k ih =>
    intro h
    have := ih (fun i hi => h i (by omega))
    have := h k (by omega)
    rw [fmax]; omega
def needS (l : List OD) (each : Int) (i : Nat) : Int := pS l (dueTo l l.length) (i + 1) - each * dI l (gi (dueTo l l.length) i)
def needI (l : List OD) (each : Int) (i : Nat) : Int := dU l (gd l i).due l.length - each * (gd l i).due
theorem due_open {l : List OD} (hv : vOrders l = true) (i : Nat) (h : i < (dueTo l l.length).length) : 0 ≤ oI l (gi (dueTo l l.length) i) := by
  obtain ⟨j, h1, h2, _⟩ := due_at h
  unfold oI
  rw [h1, Int.toNat_natCast]
  exact (opn_bd hv h2).1
theorem need_eq {l : List OD} (hv : vOrders l = true) {each : Int} (he : 0 ≤ each) : fmax (needS l each) (dueTo l l.length).length = fmax (needI l each) l.length := by
  have hs := due_srt l l.length
  apply Int.le_antisymm
  · refine fmax_le (fmax_nonneg _ _) _ fun i hi => ?_
    obtain ⟨j, h1, h2, _⟩ := due_at hi
    have h3 := pS_le hs (due_open hv) hi
    rw [SD_due] at h3
    have h4 : dI l (gi (dueTo l l.length) i) = (gd l j).due := by unfold dI; rw [h1, Int.toNat_natCast]
    have h5 := fmax_ge (needI l each) l.length j h2
    have h6 : needI l each j = dU l (gd l j).due l.length - each * (gd l j).due := rfl
    have h7 : needS l each i = pS l (dueTo l l.length) (i + 1) - each * (gd l j).due := by unfold needS; rw [h4]
    rw [h4] at h3
    omega
  · refine fmax_le (fmax_nonneg _ _) _ fun k hk => ?_
    have h6 : needI l each k = dU l (gd l k).due l.length - each * (gd l k).due := rfl
    have hd := opn_bd hv hk
    rcases SD_is hs (gd l k).due with h | ⟨i, h1, h2, h3, _⟩
    · rw [SD_due] at h
      have := fmax_nonneg (needS l each) (dueTo l l.length).length
      have := Int.mul_nonneg he hd.2.2.1
      omega
    · rw [SD_due] at h3
      have h4 := fmax_ge (needS l each) _ i h1
      have h5 := Int.mul_le_mul_of_nonneg_left h2 he
      have h7 : needS l each i = pS l (dueTo l l.length) (i + 1) - each * dI l (gi (dueTo l l.length) i) := rfl
      omega

end Go.Proofs.Ythcckonkhbmcmaa
