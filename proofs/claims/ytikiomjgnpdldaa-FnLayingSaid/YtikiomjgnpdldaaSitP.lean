/-
  FnSites' and FnLaying's plain laws: hours of days, lost days, days that are safe, plans.
-/
import Derived.Test.YtikiomjgnpdldaaDays12
import Derived.Test.YtikiomjgnpdldaaDays7
namespace Go.Proofs.Ytikiomjgnpdldaa
open Go.ChangeShapes Go.WideShapes Go.ChangeAt Go.RowKit Go.Sort
set_option linter.unusedVariables false

theorem gi_eq' {xs : List Int} {k : Nat} (h : k < xs.length) : gi xs k = xs[k] := by
  unfold gi; rw [List.getD_eq_getElem?_getD, List.getElem?_eq_getElem h]; rfl
theorem pick_mem {p : Nat → Bool} {n : Nat} {x : Int} (h : x ∈ pick p n) : ∃ d : Nat, x = d ∧ d < n ∧ p d = true := by
  unfold pick at h
  obtain ⟨d, h1, h2⟩ := List.mem_map.1 h
  rw [List.mem_filter, List.mem_range] at h1
  exact ⟨d, h2.symm, h1.1, h1.2⟩
theorem pick_at {p : Nat → Bool} {n k : Nat} (h : k < (pick p n).length) : ∃ d : Nat, gi (pick p n) k = d ∧ d < n ∧ p d = true := by
  rw [gi_eq' h]; exact pick_mem (List.getElem_mem h)
/-- How many before day k are picked. -/
def cnt (p : Nat → Bool) (k : Nat) : Nat := (pick p k).length
theorem cnt_succ (p : Nat → Bool) (k : Nat) : cnt p (k + 1) = cnt p k + (bif p k then 1 else 0) := by
  unfold cnt; rw [pick_succ, List.length_append]; cases p k <;> rfl
theorem pick_pre (p : Nat → Bool) (k : Nat) : ∀ n, k ≤ n → ∃ r, pick p n = pick p k ++ r
  | 0, h => ⟨[], by rw [show k = 0 by omega]; rfl⟩
  | n + 1, h => by
    by_cases hk : k = n + 1
    · subst hk; exact ⟨[], by rw [List.append_nil]⟩
    · obtain ⟨r, hr⟩ := pick_pre p k n (by omega)
      exact ⟨r ++ (bif p n then [(n : Int)] else []), by rw [pick_succ, hr, List.append_assoc]⟩
theorem cnt_le (p : Nat → Bool) {k n : Nat} (h : k ≤ n) : cnt p k ≤ cnt p n := by
  obtain ⟨r, hr⟩ := pick_pre p k n h
  unfold cnt; rw [hr, List.length_append]; omega
theorem cnt_at {p : Nat → Bool} {k n : Nat} (hk : k < n) (hp : p k = true) : cnt p k < cnt p n ∧ gi (pick p n) (cnt p k) = (k : Int) := by
  obtain ⟨r, hr⟩ := pick_pre p (k + 1) n hk
  rw [pick_succ, hp] at hr
  have hl : cnt p k < cnt p n := by unfold cnt; rw [hr]; simp
  refine ⟨hl, ?_⟩
  rw [gi_eq' hl]
  have : (pick p n)[cnt p k]? = some (k : Int) := by
    rw [hr]; unfold cnt
    rw [List.append_assoc, List.getElem?_append_right (Nat.le_refl _), Nat.sub_self]; rfl
  rw [List.getElem?_eq_getElem hl] at this
  exact Option.some.inj this
theorem cnt_not {p : Nat → Bool} {k n : Nat} (hk : k < n) (hp : p k = false) (hc : cnt p k < cnt p n) : gi (pick p n) (cnt p k) ≠ (k : Int) := by
  intro he
  have hx : ∀ m, k + 1 ≤ m → ∀ x ∈ (pick p m).drop (cnt p k), (k : Int) < x := by
    intro m
    induction m with
    | zero => intro h; omega
    | succ m ih =>
      intro h x hx
      by_cases hm : m = k
      · subst hm
        rw [pick_succ, hp] at hx
        simp [cnt] at hx
      · rw [pick_succ, List.drop_append_of_le_length (by have := cnt_le p (show k ≤ m by omega); unfold cnt at *; omega)] at hx
        rcases List.mem_append.1 hx with h1 | h1
        · exact ih (by omega) x h1
        · cases hpm : p m with
          | true => rw [hpm] at h1; simp at h1; omega
          | false => rw [hpm] at h1; simp at h1
  have h1 : gi (pick p n) (cnt p k) ∈ (pick p n).drop (cnt p k) := by
    rw [gi_eq' hc, List.drop_eq_getElem_cons hc]; simp
  have := hx n hk _ h1
  omega
theorem pick_sub {p q : Nat → Bool} (n : Nat) (h : ∀ d, d < n → p d = true → q d = true) : (pick p n).length ≤ (pick q n).length := by
  induction n with
  | zero => exact Nat.le_refl _
  | succ n ih =>
    have h1 := ih (fun d hd => h d (by omega))
    have h2 := h n (by omega)
    rw [pick_succ, pick_succ, List.length_append, List.length_append]
    cases hp : p n with
    | false => simp only [cond_false, List.length_nil]; omega
    | true => rw [h2 hp]; simp only [cond_true, List.length_cons, List.length_nil]; omega

section
variable {s : ByteArray} {xs : List Int}
theorem stop_le (k : Nat) : (stopTo s xs k).1 ≤ cnt (lostB s xs) k ∧ (stopTo s xs k).2 ≤ cnt (lostB s xs) k := by
  induction k with
  | zero => exact ⟨Int.le_refl _, Int.le_refl _⟩
  | succ k ih =>
    rw [cnt_succ]
    have hb := hrs_bd s xs k
    by_cases h : 0 < hrs s xs k
    · have hl : lostB s xs k = false := by unfold lostB; simp; omega
      rw [stopTo_hit h, hl]
      simp only [cond_false, maxI]
      have := stopTo_bd s xs k
      split <;> (constructor <;> omega)
    · have hl : lostB s xs k = true := by unfold lostB; simp; omega
      rw [stopTo_not h, hl]
      simp only [cond_true, maxI]
      split <;> (constructor <;> omega)
theorem hsum_first {a b : Nat} (h : a < b) : hsum s xs a b = hrs s xs a + hsum s xs (a + 1) b := by
  unfold hsum
  obtain ⟨m, hm⟩ : ∃ m, b - a = m + 1 := ⟨b - a - 1, by omega⟩
  rw [hm, show b - (a + 1) = m by omega, List.range'_succ, List.map_cons, List.sum_cons]
theorem days_none (h : vSite s xs = true) {k : Nat} (hk : k < (pick (lostB s xs) s.size).length) : mHoursOn s xs (gi (pick (lostB s xs) s.size) k) = (0, 0) := by
  obtain ⟨d, h1, h2, h3⟩ := pick_at hk
  rw [h1]
  unfold mHoursOn
  rw [h, inB_yes (show (0:Int) ≤ d by omega) (show (d:Int) ≤ (s.size : Int) - 1 by omega), Int.toNat_natCast]
  unfold lostB at h3
  rw [eq_of_beq h3]; rfl
theorem after_facts {x h : Int} {m : Int} (he : mDayAfter s xs x h = (m, 0)) : ∃ a d : Nat, x = a ∧ m = d ∧ a ≤ d ∧ d < s.size ∧ vSite s xs = true ∧ h ≤ hsum s xs a (d + 1) ∧ hsum s xs a d < h := by
  unfold mDayAfter at he
  cases hv : vSite s xs with
  | false => rw [hv] at he; simp at he
  | true =>
    cases hi : (inB x 0 s.size && inB h 1 10000) with
    | false => rw [hv, hi] at he; simp at he
    | true =>
      rw [hv, hi] at he
      simp only [Bool.and_eq_true, inB_iff] at hi
      cases hf : firstDay s xs x.toNat h with
      | none => rw [hf] at he; simp at he
      | some d =>
        rw [hf] at he
        simp only [cond_true, Prod.mk.injEq] at he
        unfold firstDay at hf
        rw [List.find?_range'_eq_some] at hf
        obtain ⟨h1, h2, h3⟩ := hf
        rw [List.mem_range'_1] at h2
        refine ⟨x.toNat, d, by omega, he.1.symm, h2.1, by omega, rfl, by simpa using h1, ?_⟩
        by_cases hd : d = x.toNat
        · rw [hd, hsum_self]; omega
        · have := h3 (d - 1) (by omega) (by omega)
          rw [show d - 1 + 1 = d by omega] at this
          simpa using this
theorem in_facts {x y n : Int} (he : mHoursIn s xs x y = (n, 0)) : ∃ a b : Nat, x = a ∧ y = b ∧ a ≤ b ∧ b ≤ s.size ∧ vSite s xs = true ∧ n = hsum s xs a b := by
  unfold mHoursIn at he
  cases hv : vSite s xs with
  | false => rw [hv] at he; simp at he
  | true =>
    cases hi : (inB x 0 s.size && inB y x s.size) with
    | false => rw [hv, hi] at he; simp at he
    | true =>
      rw [hv, hi] at he
      simp only [Bool.and_eq_true, inB_iff] at hi
      simp only [cond_true, Prod.mk.injEq] at he
      exact ⟨x.toNat, y.toNat, by omega, by omega, by omega, by omega, rfl, he.1.symm⟩
theorem in_mk (h : vSite s xs = true) {a b : Nat} (h1 : a ≤ b) (h2 : b ≤ s.size) : mHoursIn s xs (a : Int) (b : Int) = (hsum s xs a b, 0) := by
  unfold mHoursIn
  rw [h, inB_yes (show (0:Int) ≤ a by omega) (show (a:Int) ≤ s.size by omega), inB_yes (show (a:Int) ≤ b by omega) (show (b:Int) ≤ s.size by omega), Int.toNat_natCast, Int.toNat_natCast]; rfl
theorem on_mk (h : vSite s xs = true) {d : Nat} (hd : d < s.size) : mHoursOn s xs (d : Int) = (hrs s xs d, 0) := by
  unfold mHoursOn
  rw [h, inB_yes (show (0:Int) ≤ d by omega) (show (d:Int) ≤ (s.size : Int) - 1 by omega), Int.toNat_natCast]; rfl
theorem lost_facts {M : List Int} (he : mLostDays s xs = (M, 0)) : vSite s xs = true ∧ M = pick (lostB s xs) s.size := by
  unfold mLostDays at he
  cases hv : vSite s xs with
  | false => rw [hv] at he; simp at he
  | true => rw [hv] at he; simp only [cond_true, Prod.mk.injEq] at he; exact ⟨rfl, he.1.symm⟩
theorem safe_facts {c : Int} {M : List Int} (he : mSafeDays s xs c = (M, 0)) : vSite s xs = true ∧ 0 ≤ c ∧ c ≤ 28 ∧ M = pick (safeB s xs c.toNat) s.size := by
  unfold mSafeDays at he
  cases hv : vSite s xs with
  | false => rw [hv] at he; simp at he
  | true =>
    cases hi : inB c 0 28 with
    | false => rw [hv, hi] at he; simp at he
    | true =>
      rw [hv, hi] at he; simp only [cond_true, Prod.mk.injEq] at he
      have := inB_iff.1 hi
      exact ⟨rfl, this.1, this.2, he.1.symm⟩
theorem safe_mk (h : vSite s xs = true) {c : Nat} (hc : c ≤ 28) : mSafeDays s xs (c : Int) = (pick (safeB s xs c) s.size, 0) := by
  unfold mSafeDays
  rw [h, inB_yes (show (0:Int) ≤ c by omega) (show (c:Int) ≤ 28 by omega), Int.toNat_natCast]; rfl
theorem risk_mk (h : vSite s xs = true) {d c : Nat} (hd : d < s.size) (hc : c ≤ 28) : mFrostRisk s xs (d : Int) (c : Int) = (frostB s d c, 0) := by
  unfold mFrostRisk
  rw [h, inB_yes (show (0:Int) ≤ d by omega) (show (d:Int) ≤ (s.size : Int) - 1 by omega), inB_yes (show (0:Int) ≤ c by omega) (show (c:Int) ≤ 28 by omega), Int.toNat_natCast, Int.toNat_natCast]; rfl
theorem plan_facts {c b e : Int} {M : List Int} (he : mPlanLaying s xs c b e = (M, 0)) : vSite s xs = true ∧ (0 ≤ c ∧ c ≤ 28) ∧ (0 ≤ b ∧ b ≤ 1000000) ∧ (1 ≤ e ∧ e ≤ 5000) ∧ M = (layTo s xs c.toNat e b s.size).1 ∧ (layTo s xs c.toNat e b s.size).2 = 0 := by
  unfold mPlanLaying at he
  cases hv : vSite s xs with
  | false => rw [hv] at he; simp at he
  | true =>
    cases hi : (inB c 0 28 && inB b 0 1000000 && inB e 1 5000) with
    | false => rw [hv, hi] at he; simp at he
    | true =>
      rw [hv, hi] at he
      simp only [Bool.and_eq_true, inB_iff] at hi
      cases hd : decide (0 < (layTo s xs c.toNat e b s.size).2) with
      | true => rw [hd] at he; simp at he
      | false =>
        rw [hd] at he; simp only [cond_true, cond_false, Prod.mk.injEq] at he
        have h2 := layTo_bd s xs c.toNat hi.2.1 hi.2.2 hi.1.2.1 s.size
        have h3 := of_decide_eq_false hd
        exact ⟨rfl, hi.1.1, hi.1.2, hi.2, he.1.symm, by omega⟩
/-- What is laid on day k. -/
def own (s : ByteArray) (xs : List Int) (c : Nat) (e b : Int) (k : Nat) : Int := bif safeB s xs c k then minI (layTo s xs c e b k).2 (e * hrs s xs k) else 0
theorem lay_gi (c : Nat) (e b : Int) : ∀ n k, k < n → gi (layTo s xs c e b n).1 k = own s xs c e b k
  | 0, k, h => by omega
  | n + 1, k, h => by
    have hl := layTo_len s xs c e b n
    rw [layTo]
    unfold gi
    by_cases hk : k < n
    · rw [List.getD_eq_getElem?_getD, List.getElem?_append_left (by omega), ← List.getD_eq_getElem?_getD]
      exact lay_gi c e b n k hk
    · obtain rfl : k = n := by omega
      rw [List.getD_eq_getElem?_getD, List.getElem?_append_right (by omega), hl, Nat.sub_self]; rfl
theorem lay_left (c : Nat) (e b : Int) (k : Nat) : (layTo s xs c e b (k + 1)).2 = (layTo s xs c e b k).2 - own s xs c e b k := rfl
end

/-! ### Frost that comes -/
theorem byt_app (a b : ByteArray) (k : Nat) : byt (a ++ b) k = if k < a.size then byt a k else byt b (k - a.size) := by
  unfold byt
  rw [ByteArray.data_append, Array.toList_append]
  have hl : a.data.toList.length = a.size := by rw [Array.length_toList]; rfl
  rw [List.getD_eq_getElem?_getD]
  split
  · rename_i h; rw [List.getElem?_append_left (by omega), List.getD_eq_getElem?_getD]
  · rename_i h; rw [List.getElem?_append_right (by omega), hl, List.getD_eq_getElem?_getD]
theorem byt_ext (a : ByteArray) (i j k : Nat) (hj : j ≤ a.size) (hk : k < j - i) : byt (a.extract i j) k = byt a (i + k) := by
  unfold byt
  rw [ByteArray.data_extract, Array.toList_extract]
  rw [List.getD_eq_getElem?_getD, List.getD_eq_getElem?_getD]
  congr 2
  simp [List.extract, hk]
theorem swap_size {s : ByteArray} {d : Nat} (hd : d < s.size) {t : ByteArray} (ht : t.size = 1) : (swapW s d t).size = s.size := by
  unfold swapW
  simp only [ByteArray.size_append, ByteArray.size_extract]
  omega
theorem swap_byt {s : ByteArray} {d : Nat} (hd : d < s.size) {t : ByteArray} (ht : t.size = 1) {k : Nat} (hk : k < s.size) : byt (swapW s d t) k = if k = d then byt t 0 else byt s k := by
  have h1 : (s.extract 0 d).size = d := by rw [ByteArray.size_extract]; omega
  unfold swapW
  rw [byt_app, byt_app]
  rw [ByteArray.size_append, h1, ht]
  by_cases h : k < d
  · rw [if_pos (by omega), if_pos h, if_neg (by omega), byt_ext s 0 d k (by omega) (by omega), Nat.zero_add]
  · by_cases he : k = d
    · rw [if_pos (by omega), if_neg h, if_pos he, he, Nat.sub_self]
    · rw [if_neg (by omega), if_neg he, byt_ext s (d + 1) s.size _ (Nat.le_refl _) (by omega)]
      congr 1; omega
theorem lets_at {s : ByteArray} {n k : Nat} (h : lets s n = true) (hk : k < n) : letB (byt s k) = true := by
  unfold lets at h
  exact List.all_eq_true.1 h k (by simpa using hk)
theorem swap_valid {s : ByteArray} {xs : List Int} (hv : vSite s xs = true) {d : Nat} (hd : d < s.size) {t : ByteArray} (ht : t.size = 1) (hl : lets t t.size = true) : vSite (swapW s d t) xs = true := by
  unfold vSite at hv ⊢
  simp only [Bool.and_eq_true] at hv ⊢
  rw [swap_size hd ht]
  refine ⟨⟨⟨?_, hv.1.1.2⟩, hv.1.2⟩, hv.2⟩
  unfold lets
  rw [List.all_eq_true]
  intro k hk
  rw [List.mem_range] at hk
  rw [swap_byt hd ht hk]
  split
  · exact lets_at hl (by omega)
  · exact lets_at hv.1.1.1 hk
theorem change_facts {s : ByteArray} {xs : List Int} {day : Int} {t x : ByteArray} {ys : List Int} (he : mChangeWeather s xs day t = (x, ys, 0)) : ∃ d : Nat, day = d ∧ d < s.size ∧ vSite s xs = true ∧ t.size = 1 ∧ lets t t.size = true ∧ x = swapW s d t ∧ ys = xs := by
  unfold mChangeWeather at he
  cases hv : vSite s xs with
  | false => rw [hv] at he; simp at he
  | true =>
    cases hi : inB day 0 ((s.size : Int) - 1) with
    | false => rw [hv, hi] at he; simp at he
    | true =>
      cases hj : (decide (t.size = 1) && lets t t.size) with
      | false => rw [hv, hi, hj] at he; simp at he
      | true =>
        rw [hv, hi, hj] at he
        have h2 := inB_iff.1 hi
        simp only [Bool.and_eq_true, decide_eq_true_eq] at hj
        simp only [cond_true, Prod.mk.injEq] at he
        exact ⟨day.toNat, by omega, by omega, rfl, hj.1, hj.2, he.1.symm, he.2.1.symm⟩
theorem fr_mono {s x : ByteArray} {d k : Nat} (h : ∀ j, d ≤ j → j < k → byt s j = 102 → byt x j = 102) (hf : frTo s d k = true) : frTo x d k = true := by
  unfold frTo at hf ⊢
  rw [List.any_eq_true] at hf ⊢
  obtain ⟨j, h1, h2⟩ := hf
  have h3 := List.mem_range'_1.1 h1
  exact ⟨j, h1, by rw [h j (by omega) (by omega) (eq_of_beq h2)]; rfl⟩
theorem frost_safe {s : ByteArray} {xs : List Int} {d : Nat} (hd : d < s.size) {t : ByteArray} (ht : t.size = 1) (hf : byt t 0 = 102) {e c : Nat} (he : e < s.size) (h : safeB (swapW s d t) xs c e = true) : safeB s xs c e = true ∧ e ≠ d := by
  unfold safeB at h ⊢
  simp only [Bool.and_eq_true, decide_eq_true_eq, Bool.not_eq_true'] at h ⊢
  have hb := swap_byt hd ht he
  by_cases hed : e = d
  · rw [if_pos hed, hf] at hb
    exfalso
    have h1 := h.1
    unfold hrs at h1
    rw [hb] at h1
    cases hasB xs e <;> simp at h1
  · rw [if_neg hed] at hb
    refine ⟨⟨?_, ?_⟩, hed⟩
    · have h1 := h.1
      unfold hrs at h1 ⊢
      rw [hb] at h1; exact h1
    · cases hq : frostB s e c with
      | false => rfl
      | true =>
        have h2 := h.2
        unfold frostB at hq h2
        rw [swap_size hd ht] at h2
        rw [fr_mono (x := swapW s d t) (fun j h3 h4 h5 => by
          rw [swap_byt hd ht (show j < s.size by omega)]
          split
          · exact hf
          · exact h5) hq] at h2
        cases h2

end Go.Proofs.Ytikiomjgnpdldaa
