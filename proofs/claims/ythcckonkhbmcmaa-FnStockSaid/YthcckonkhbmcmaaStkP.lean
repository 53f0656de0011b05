/-
  FnStock's plain laws: the first day short, the stock that is needed, what each order gets.
-/
import Derived.Test.YthcckonkhbmcmaaRsv
import Derived.Test.YthcckonkhbmcmaaShort
namespace Go.Proofs.Ythcckonkhbmcmaa
open Go.ChangeShapes Go.WideShapes Go.ChangeAt Go.RowKit Go.Sort
set_option linter.unusedVariables false

theorem fs_pos {l : List OD} {st ea d s : Int} (h : mFirstShort l st ea = (d, s, 0)) : 1 ≤ s := by
  unfold mFirstShort at h
  cases hv : vOrders l with
  | false => rw [hv] at h; simp at h
  | true =>
    cases hi : (inB st 0 10000000 && inB ea 0 100000) with
    | false => rw [hv, hi] at h; simp at h
    | true =>
      rw [hv, hi] at h
      cases hf : fsh l st ea with
      | none => rw [hf] at h; simp at h
      | some x =>
        rw [hf] at h
        simp only [cond_true, Prod.mk.injEq] at h
        have := List.find?_some hf
        unfold shB at this
        have h2 := of_decide_eq_true this
        omega
theorem fmax_is (f : Nat → Int) (k : Nat) : fmax f k = 0 ∨ ∃ i, i < k ∧ f i = fmax f k := by
  induction k with
  | zero => exact .inl rfl
  | succ k ih =>
    rw [fmax]
    by_cases h : fmax f k ≤ f k
    · exact .inr ⟨k, by omega, by omega⟩
    · rcases ih with h1 | ⟨i, h1, h2⟩
      · exact .inl (by omega)
      · exact .inr ⟨i, by omega, by omega⟩
theorem lack_need {l : List OD} {st ea : Int} (j : Nat) : lackI l st ea (j : Int) = needI l ea j - st := by
  unfold lackI needI dI; rw [Int.toNat_natCast]; omega
theorem need_out {l : List OD} {ea n : Int} (h : mStockNeeded l ea = (n, 0)) : vOrders l = true ∧ inB ea 0 100000 = true ∧ n = fmax (needI l ea) l.length := by
  unfold mStockNeeded at h
  cases hv : vOrders l with
  | false => rw [hv] at h; simp at h
  | true =>
    cases hi : inB ea 0 100000 with
    | false => rw [hv, hi] at h; simp at h
    | true =>
      rw [hv, hi] at h
      simp only [cond_true, Prod.mk.injEq] at h
      exact ⟨rfl, rfl, h.1.symm⟩
theorem need_nn {l : List OD} {ea n : Int} (h : mStockNeeded l ea = (n, 0)) : 0 ≤ n := by
  rw [(need_out h).2.2]; exact fmax_nonneg _ _
theorem need_none {l : List OD} {ea n : Int} (h : mStockNeeded l ea = (n, 0)) (hm : n ≤ 10000000) : mFirstShort l n ea = (0, 0, 3) := by
  obtain ⟨hv, hi, he⟩ := need_out h
  have hnn := need_nn h
  have hf : fsh l n ea = none := by
    unfold fsh
    rw [List.find?_eq_none]
    intro x hx
    obtain ⟨j, rfl, hj, _⟩ := due_mem hx
    unfold shB
    rw [lack_need]
    have := fmax_ge (needI l ea) l.length j hj
    simp only [decide_eq_true_eq]
    omega
  unfold mFirstShort
  rw [hv, hi, hf, inB_yes hnn hm]; rfl
theorem need_some {l : List OD} {ea n : Int} (h : mStockNeeded l ea = (n, 0)) (hm : n ≤ 10000000) (h0 : 0 < n) : ∃ d, mFirstShort l (n - 1) ea = (d, 1, 0) := by
  obtain ⟨hv, hi, he⟩ := need_out h
  have he0 := (inB_iff.1 hi).1
  have hne := need_eq hv he0
  have hex : ∃ x ∈ dueTo l l.length, shB l (n - 1) ea x = true := by
    rcases fmax_is (needS l ea) (dueTo l l.length).length with h1 | ⟨i, h1, h2⟩
    · omega
    · refine ⟨gi (dueTo l l.length) i, gi_mem h1, ?_⟩
      have h3 := pS_le (due_srt l l.length) (due_open hv) h1
      rw [SD_due] at h3
      have h4 : needS l ea i = pS l (dueTo l l.length) (i + 1) - ea * dI l (gi (dueTo l l.length) i) := rfl
      unfold shB lackI
      rw [decide_eq_true_eq]
      omega
  cases hf : fsh l (n - 1) ea with
  | none =>
    unfold fsh at hf
    rw [List.find?_eq_none] at hf
    obtain ⟨x, hx, hs⟩ := hex
    exact absurd hs (hf x hx)
  | some x =>
    have h1 := List.find?_some hf
    have h2 := List.mem_of_find?_eq_some hf
    obtain ⟨j, rfl, hj, _⟩ := due_mem h2
    have h3 := fmax_ge (needI l ea) l.length j hj
    unfold shB at h1
    have h4 := of_decide_eq_true h1
    have h5 := lack_need (l := l) (st := n - 1) (ea := ea) j
    refine ⟨dI l j, ?_⟩
    unfold mFirstShort
    rw [hv, hi, hf, inB_yes (show (0:Int) ≤ n - 1 by omega) (show n - 1 ≤ 10000000 by omega)]
    show (dI l j, lackI l (n - 1) ea j, (0 : Int)) = (dI l j, 1, 0)
    rw [show lackI l (n - 1) ea j = 1 by omega]

theorem due_nodup (l : List OD) (k : Nat) : (dueTo l k).Nodup := by
  induction k with
  | zero => exact List.Pairwise.nil
  | succ k ih =>
    rw [dueTo]
    split
    · exact ih
    · unfold ins
      obtain ⟨m, hm⟩ : ∃ m, ipos l (dueTo l k) (gd l k).due (dueTo l k).length = m := ⟨_, rfl⟩
      rw [hm]
      have hp : ((dueTo l k).take m ++ [(k : Int)] ++ (dueTo l k).drop m).Perm ((k : Int) :: dueTo l k) := by
        have := @List.perm_middle _ (k : Int) ((dueTo l k).take m) ((dueTo l k).drop m)
        rw [List.take_append_drop] at this
        rwa [List.append_assoc]
      rw [hp.nodup_iff, List.nodup_cons]
      refine ⟨fun hk => ?_, ih⟩
      obtain ⟨j, h1, h2, _⟩ := due_mem hk
      omega
theorem due_inj {l : List OD} {m i j : Nat} (hi : i < (dueTo l m).length) (hj : j < (dueTo l m).length) (h : (gi (dueTo l m) i).toNat = (gi (dueTo l m) j).toNat) : i = j := by
  obtain ⟨a, h1, _⟩ := due_at hi
  obtain ⟨c, h2, _⟩ := due_at hj
  rw [h1, h2, Int.toNat_natCast, Int.toNat_natCast] at h
  subst h
  rw [← h2, gi_eq hi, gi_eq hj] at h1
  have := List.pairwise_iff_getElem.1 (due_nodup l m)
  rcases Nat.lt_trichotomy i j with hlt | he | hgt
  · exact absurd h1 (this i j hi hj hlt)
  · exact he
  · exact absurd h1.symm (this j i hj hi hgt)
theorem gi_set {xs : List Int} {j i : Nat} {x : Int} (hj : j < xs.length) : gi (xs.set j x) i = if i = j then x else gi xs i := by
  unfold gi
  rw [List.getD_eq_getElem?_getD, List.getD_eq_getElem?_getD, List.getElem?_set]
  by_cases h : j = i
  · rw [if_pos h, if_pos hj, if_pos h.symm]; rfl
  · rw [if_neg h, if_neg (fun e => h e.symm)]
theorem sum_set {xs : List Int} : ∀ {j : Nat} {x : Int}, j < xs.length → (xs.set j x).sum = xs.sum - gi xs j + x := by
  induction xs with
  | nil => intro j x h; simp at h
  | cons a r ih =>
    intro j x h
    cases j with
    | zero => simp only [List.set_cons_zero, List.sum_cons]; unfold gi; simp; omega
    | succ j =>
      simp only [List.set_cons_succ, List.sum_cons]
      rw [ih (by simpa using h)]
      unfold gi
      simp; omega
section
variable {l : List OD} {s : Int}
theorem rou_zero (hq : ∀ i, i < (dueTo l l.length).length → (gi (dueTo l l.length) i).toNat < l.length) : ∀ k, k ≤ (dueTo l l.length).length → ∀ j, j < l.length → (∀ i, i < k → (gi (dueTo l l.length) i).toNat ≠ j) → gi (rou l (dueTo l l.length) s k) j = 0
  | 0, _, j, hj, _ => by unfold rou gi; rw [List.getD_eq_getElem?_getD, List.getElem?_replicate, if_pos hj]; rfl
  | k + 1, hk, j, hj, h => by
    rw [rou, gi_set (by rw [rou_len]; exact hq k (by omega)), if_neg (fun e => h k (by omega) e.symm)]
    exact rou_zero hq k (by omega) j hj (fun i hi => h i (by omega))
theorem due_lt : ∀ i, i < (dueTo l l.length).length → (gi (dueTo l l.length) i).toNat < l.length := fun i hi => by
  obtain ⟨j, h1, h2, _⟩ := due_at hi
  rw [h1, Int.toNat_natCast]; exact h2
theorem rou_at : ∀ k, k ≤ (dueTo l l.length).length → ∀ i, i < k → gi (rou l (dueTo l l.length) s k) (gi (dueTo l l.length) i).toNat = min (rst l (dueTo l l.length) s i) (oI l (gi (dueTo l l.length) i))
  | 0, _, i, hi => by omega
  | k + 1, hk, i, hi => by
    rw [rou, gi_set (by rw [rou_len]; exact due_lt k (by omega))]
    by_cases h : i = k
    · subst h; rw [if_pos rfl]
    · rw [if_neg (fun e => h (due_inj (by omega) (by omega) e))]
      exact rou_at k (by omega) i (by omega)
theorem rou_sum : ∀ k, k ≤ (dueTo l l.length).length → (rou l (dueTo l l.length) s k).sum = s - rst l (dueTo l l.length) s k
  | 0, _ => by
    have h0 : ∀ n : Nat, (List.replicate n (0 : Int)).sum = 0 := fun n => by induction n with | zero => rfl | succ n ih => rw [List.replicate_succ, List.sum_cons, ih]; rfl
    rw [rou, rst, h0]; omega
  | k + 1, hk => by
    rw [rou, rst, sum_set (by rw [rou_len]; exact due_lt k (by omega)), rou_sum k (by omega), rou_zero due_lt k (by omega) _ (due_lt k (by omega)) (fun i hi e => by have := due_inj (by omega) (by omega) e; omega)]
    omega
theorem rou_bd (hv : vOrders l = true) (h0 : 0 ≤ s) (h1 : s ≤ 10000000) : ∀ k, k ≤ (dueTo l l.length).length → ∀ j, j < l.length → 0 ≤ gi (rou l (dueTo l l.length) s k) j ∧ gi (rou l (dueTo l l.length) s k) j ≤ 10000000
  | 0, _, j, hj => by
    have : gi (rou l (dueTo l l.length) s 0) j = 0 := by unfold rou gi; rw [List.getD_eq_getElem?_getD, List.getElem?_replicate, if_pos hj]; rfl
    omega
  | k + 1, hk, j, hj => by
    have ih := rou_bd hv h0 h1 k (by omega) j hj
    have hr := rst_bd hv h0 h1 k (by omega)
    have ho := due_open hv k (by omega)
    rw [rou, gi_set (by rw [rou_len]; exact due_lt k (by omega))]
    split <;> omega
end
theorem rsv_out {l : List OD} {s : Int} {M : List Int} (h : mReserveStock l s = (M, 0)) : vOrders l = true ∧ 0 ≤ s ∧ s ≤ 10000000 ∧ M = rou l (dueTo l l.length) s (dueTo l l.length).length := by
  unfold mReserveStock at h
  cases hv : vOrders l with
  | false => rw [hv] at h; simp at h
  | true =>
    cases hi : inB s 0 10000000 with
    | false => rw [hv, hi] at h; simp at h
    | true =>
      rw [hv, hi] at h
      simp only [cond_true, Prod.mk.injEq] at h
      have := inB_iff.1 hi
      exact ⟨rfl, this.1, this.2, h.1.symm⟩
theorem psum_bd' {xs : List Int} {B : Int} (hb : ∀ j, j < xs.length → 0 ≤ gi xs j ∧ gi xs j ≤ B) : ∀ k, k ≤ xs.length → 0 ≤ (xs.take k).sum ∧ (xs.take k).sum ≤ B * k
  | 0, _ => by simp
  | k + 1, hk => by
    have ih := psum_bd' hb k (by omega)
    have h1 := hb k (by omega)
    rw [take_succ_getD (by omega), List.sum_append, List.sum_cons, List.sum_nil]
    have : xs.getD k 0 = gi xs k := rfl
    have h2 : B * ((k + 1 : Nat) : Int) = B * k + B := by rw [Int.natCast_succ, Int.mul_add]; omega
    omega

theorem rst_le {l : List OD} {s : Int} (hv : vOrders l = true) (h0 : 0 ≤ s) (h1 : s ≤ 10000000) : ∀ k, k ≤ (dueTo l l.length).length → rst l (dueTo l l.length) s k ≤ s
  | 0, _ => Int.le_refl _
  | k + 1, hk => by
    have ih := rst_le hv h0 h1 k (by omega)
    have ho := due_open hv k (by omega)
    have hr := rst_bd hv h0 h1 k (by omega)
    rw [rst]
    omega

end Go.Proofs.Ythcckonkhbmcmaa
