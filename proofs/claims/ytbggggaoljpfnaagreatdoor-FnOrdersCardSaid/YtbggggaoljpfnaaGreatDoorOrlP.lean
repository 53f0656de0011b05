/-
  FnOrders' plain laws: taken and cancelled, sent and open, customers' sums, texts read back.
-/
import Derived.Test.YtbggggaoljpfnaaGreatDoorTake
import Derived.Test.YtbggggaoljpfnaaGreatDoorOrders11
import Derived.Test.YtbggggaoljpfnaaGreatDoorOrders5
import Derived.Test.YtbggggaoljpfnaaGreatDoorOrdR
import Derived.Test.YtbggggaoljpfnaaGreatDoorCust
import Derived.Test.YtbggggaoljpfnaaGreatDoorRdOP
namespace Go.Proofs.YtbggggaoljpfnaaGreatDoor
open Go.ChangeShapes Go.WideShapes Go.ChangeAt Go.RowKit Go.Sort
open Go.Lib
set_option linter.unusedVariables false

theorem v_intro {l : List OD} (hl : l.length ≤ 30) (h1 : ∀ k, k < l.length → oneO (gd l k) = true) (h2 : ∀ k, k + 1 < l.length → (gd l k).id < (gd l (k + 1)).id) : vOrders l = true := by
  unfold vOrders
  rw [decide_eq_true hl, Bool.and_true, List.all_eq_true]
  intro k hk
  have hk : k < l.length := by simpa using hk
  cases k with
  | zero => rw [okAt_zero]; exact h1 0 hk
  | succ k => rw [okAt_succ, h1 _ hk, decide_eq_true (h2 k hk)]; rfl

/-! ### Taken and cancelled -/
theorem gd_ins {l : List OD} {x : OD} {k : Nat} (hk : k ≤ l.length) (j : Nat) : gd (l.take k ++ x :: l.drop k) j = if j < k then gd l j else if j = k then x else gd l (j - 1) := by
  have ht : (l.take k).length = k := by rw [List.length_take]; omega
  unfold gd
  rw [List.getD_eq_getElem?_getD]
  by_cases h1 : j < k
  · rw [if_pos h1, List.getElem?_append_left (by omega), List.getElem?_take_of_lt h1, List.getD_eq_getElem?_getD]
  · rw [if_neg h1, List.getElem?_append_right (by omega), ht]
    by_cases h2 : j = k
    · rw [if_pos h2, h2, Nat.sub_self]; rfl
    · rw [if_neg h2]
      obtain ⟨d, rfl⟩ : ∃ d, j = k + 1 + d := ⟨j - (k + 1), by omega⟩
      rw [show k + 1 + d - k = d + 1 by omega, List.getElem?_cons_succ, List.getElem?_drop, List.getD_eq_getElem?_getD]
      congr 2
      rw [show k + 1 + d - 1 = k + d by omega]
theorem take_out {l x : List OD} {o : OD} (h : mTakeOrder l o = (x, 0)) : vOrders l = true ∧ oneO o = true ∧ known l o.id = false ∧ l.length ≠ 30 ∧ x = l.take (lb l o.id) ++ o :: l.drop (lb l o.id) := by
  unfold mTakeOrder at h
  cases hv : vOrders l with
  | false => rw [hv] at h; simp at h
  | true =>
    cases ho : oneO o with
    | false => rw [hv, ho] at h; simp at h
    | true =>
      cases hk : known l o.id with
      | true => rw [hv, ho, hk] at h; simp at h
      | false =>
        by_cases hn : l.length = 30
        · rw [hv, ho, hk, decide_eq_true hn] at h; simp at h
        · rw [hv, ho, hk, decide_eq_false hn] at h
          simp only [cond_true, cond_false, Prod.mk.injEq] at h
          exact ⟨rfl, rfl, rfl, hn, h.1.symm⟩
theorem take_valid {l x : List OD} {o : OD} (h : mTakeOrder l o = (x, 0)) : vOrders x = true ∧ lb x o.id = lb l o.id ∧ known x o.id = true ∧ gd x (lb l o.id) = o := by
  obtain ⟨hv, ho, hk, hn, rfl⟩ := take_out h
  obtain ⟨h1, h2, h3⟩ := lb_spec hv o.id
  have h4 : ∀ j, lb l o.id ≤ j → j < l.length → o.id < (gd l j).id := by
    intro j hj hjl
    have h5 := h3 j hj hjl
    rcases Int.lt_or_eq_of_le h5 with h6 | h6
    · exact h6
    · exfalso
      have := (fnd_hit hv hjl h6.symm).2
      rw [hk] at this
      cases this
  have hlen : (l.take (lb l o.id) ++ o :: l.drop (lb l o.id)).length = l.length + 1 := by
    rw [List.length_append, List.length_cons, List.length_take, List.length_drop]; omega
  have hl30 := v_len hv
  have hvx : vOrders (l.take (lb l o.id) ++ o :: l.drop (lb l o.id)) = true := by
    refine v_intro (by omega) ?_ ?_
    · intro j hj
      rw [gd_ins h1]
      split
      · exact v_one hv (by omega)
      · split
        · exact ho
        · exact v_one hv (by omega)
    · intro j hj
      rw [gd_ins h1, gd_ins h1]
      by_cases a : j + 1 < lb l o.id
      · rw [if_pos a, if_pos (by omega)]
        exact v_asc hv (by omega)
      · rw [if_neg a]
        by_cases b : j + 1 = lb l o.id
        · rw [if_pos b, if_pos (by omega)]
          exact h2 j (by omega)
        · rw [if_neg b, if_neg (by omega)]
          by_cases c : j = lb l o.id
          · rw [if_pos c]
            exact h4 _ (by omega) (by omega)
          · rw [if_neg c, Nat.add_sub_cancel]
            obtain ⟨d, rfl⟩ : ∃ d, j = d + 1 := ⟨j - 1, by omega⟩
            rw [Nat.add_sub_cancel]
            exact v_asc hv (by omega)
  have hg : gd (l.take (lb l o.id) ++ o :: l.drop (lb l o.id)) (lb l o.id) = o := by
    rw [gd_ins h1, if_neg (by omega), if_pos rfl]
  obtain ⟨e1, e2⟩ := fnd_hit (id := o.id) hvx (k := lb l o.id) (by omega) (by rw [hg])
  exact ⟨hvx, e1, e2, hg⟩
theorem take_cancel {l x : List OD} {o : OD} (h : mTakeOrder l o = (x, 0)) (hs : ¬ 0 < o.sent) : mCancelOrder x o.id = (l, 0) := by
  obtain ⟨h1, h2, h3, h4⟩ := take_valid h
  obtain ⟨hv, ho, hk, hn, hx⟩ := take_out h
  have hle := (lb_spec hv o.id).1
  unfold mCancelOrder
  rw [h1, h3, h2, h4, decide_eq_false hs]
  simp only [cond_true, cond_false, Prod.mk.injEq, and_true]
  have ht : (l.take (lb l o.id)).length = lb l o.id := by rw [List.length_take]; omega
  rw [hx]
  conv => rhs; rw [← List.take_append_drop (lb l o.id) l]
  congr 1
  · rw [List.take_append_of_le_length (by omega), List.take_of_length_le (by omega)]
  · rw [List.drop_append, ht, List.drop_of_length_le (by omega), Nat.add_sub_cancel_left]
    rfl

/-! ### Sent and open -/
theorem send_out {l y : List OD} {id n : Int} (h : mSendBricks l id n = (y, 0)) : vOrders l = true ∧ (1 ≤ n ∧ n ≤ 1000000) ∧ lb l id < l.length ∧ n ≤ opn (gd l (lb l id)) ∧ y = l.set (lb l id) (sentO (gd l (lb l id)) n) := by
  unfold mSendBricks at h
  cases hv : vOrders l with
  | false => rw [hv] at h; simp at h
  | true =>
    cases ho : inB n 1 1000000 with
    | false => rw [hv, ho] at h; simp at h
    | true =>
      cases hk : known l id with
      | false => rw [hv, ho, hk] at h; simp at h
      | true =>
        by_cases hn : opn (gd l (lb l id)) < n
        · rw [hv, ho, hk, decide_eq_true hn] at h; simp at h
        · rw [hv, ho, hk, decide_eq_false hn] at h
          simp only [cond_true, cond_false, Prod.mk.injEq] at h
          unfold known at hk
          simp only [Bool.and_eq_true, decide_eq_true_eq] at hk
          exact ⟨rfl, inB_iff.1 ho, hk.1, by omega, h.1.symm⟩
theorem osum_set {l : List OD} {k : Nat} {o : OD} (hk : k < l.length) : ∀ m, osum (l.set k o) m = osum l m + if k < m then opn o - opn (gd l k) else 0
  | 0 => by rw [if_neg (by omega)]; simp [osum]
  | m + 1 => by
    rw [osum_succ, osum_succ, osum_set hk m, gd_set hk]
    by_cases h1 : k < m
    · rw [if_pos h1, if_pos (show k < m + 1 by omega), if_neg (show ¬ m = k by omega)]; omega
    · by_cases h2 : m = k
      · rw [if_neg h1, if_pos (show k < m + 1 by omega), if_pos h2, h2]; omega
      · rw [if_neg h1, if_neg (show ¬ k < m + 1 by omega), if_neg h2]; omega
theorem send_open {l y : List OD} {id n : Int} (h : mSendBricks l id n = (y, 0)) : ∃ a b : Int, mOpenBricks l = (a, 0) ∧ mOpenBricks y = (b, 0) ∧ a - b = n ∧ 0 ≤ a ∧ a ≤ 30000000 ∧ 0 ≤ b ∧ b ≤ 30000000 := by
  obtain ⟨hv, hn, hk, hle, hy⟩ := send_out h
  have hlen : y.length = l.length := by rw [hy, List.length_set]
  have hl := v_len hv
  have hvy : vOrders y = true := by
    refine v_intro (by omega) ?_ ?_
    · intro j hj
      rw [hy, gd_set hk]
      split
      · obtain ⟨g1, g2, g3, g4, g5⟩ := oneO_iff.1 (v_one hv hk)
        unfold opn at hle
        refine oneO_iff.2 ⟨g1, g2, g3, g4, ?_⟩
        show 0 ≤ (gd l (lb l id)).sent + n ∧ (gd l (lb l id)).sent + n ≤ (gd l (lb l id)).br
        omega
      · exact v_one hv (by omega)
    · intro j hj
      have h1 := v_asc hv (k := j) (by omega)
      rw [hy, gd_set hk, gd_set hk]
      by_cases a : j = lb l id
      · rw [if_pos a, if_neg (by omega), ← a]; exact h1
      · rw [if_neg a]
        by_cases b : j + 1 = lb l id
        · rw [if_pos b, ← b]; exact h1
        · rw [if_neg b]; exact h1
  have b1 := osum_bd hv l.length (Nat.le_refl _)
  have b2 := osum_bd hvy y.length (Nat.le_refl _)
  have hs := osum_set (o := sentO (gd l (lb l id)) n) hk l.length
  rw [← hy, if_pos hk] at hs
  have e : opn (sentO (gd l (lb l id)) n) = opn (gd l (lb l id)) - n := by
    show (gd l (lb l id)).br - ((gd l (lb l id)).sent + n) = (gd l (lb l id)).br - (gd l (lb l id)).sent - n
    omega
  rw [hlen] at b2
  refine ⟨osum l l.length, osum y l.length, ?_, ?_, by omega, by omega, by omega, by omega, by omega⟩
  · unfold mOpenBricks; rw [hv]; rfl
  · unfold mOpenBricks; rw [hvy, hlen]; rfl

/-! ### Customers' sums -/
theorem sum_set : ∀ {xs : List Int} {k : Nat} (x : Int), k < xs.length → (xs.set k (xs.getD k 0 + x)).sum = xs.sum + x
  | [], _, _, h => by simp at h
  | a :: r, 0, x, _ => by simp; omega
  | a :: r, k + 1, x, h => by
    have ih := sum_set (xs := r) (k := k) x (by simpa using h)
    rw [List.set_cons_succ, List.sum_cons, List.sum_cons, List.getD_cons_succ, ih]; omega
/-- All bricks of the first k orders. -/
def bsum (l : List OD) (k : Nat) : Int := ((l.take k).map (·.br)).sum
theorem bsum_succ {l : List OD} {k : Nat} (hk : k < l.length) : bsum l (k + 1) = bsum l k + (gd l k).br := by
  unfold bsum; rw [take_gd hk, List.map_append, List.sum_append]; simp
theorem cu_sum {l : List OD} (hv : vOrders l = true) : ∀ k, k ≤ l.length → (cuK l k).2.sum = bsum l k
  | 0, _ => by simp [cuK, bsum]
  | k + 1, hk => by
    have ih := cu_sum hv k (by omega)
    have ho := (cuOk_K hv (k := k) (by omega)).1
    rw [cuK_succ (by omega), bsum_succ (by omega), ← ih]
    unfold cuStep
    split
    · rename_i h
      exact sum_set _ (by omega)
    · show (_ ++ [_]).sum = _
      rw [List.sum_append]; simp
theorem bsum_bd {l : List OD} (hv : vOrders l = true) : ∀ k, k ≤ l.length → 0 ≤ bsum l k ∧ bsum l k ≤ 1000000 * (k : Int)
  | 0, _ => by simp [bsum]
  | k + 1, hk => by
    have ih := bsum_bd hv k (by omega)
    obtain ⟨_, _, g3, _⟩ := oneO_iff.1 (v_one hv (show k < l.length by omega))
    rw [bsum_succ (by omega)]
    omega
theorem cust_out {l : List OD} {L : List ByteArray} {M : List Int} (h : mCustomersOf l = (L, M, 0)) : vOrders l = true ∧ M.sum = bsum l l.length ∧ ∀ k, k ≤ M.length → 0 ≤ (M.take k).sum ∧ (M.take k).sum ≤ 1000000000000000 := by
  unfold mCustomersOf at h
  cases hv : vOrders l with
  | false => rw [hv] at h; simp at h
  | true =>
    rw [hv] at h
    simp only [cond_true, Prod.mk.injEq] at h
    obtain ⟨_, h2, _⟩ := h
    have hl := v_len hv
    obtain ⟨o1, o2, _, o4⟩ := cuOk_K hv (Nat.le_refl l.length)
    rw [h2] at o1 o4
    refine ⟨rfl, by rw [← h2]; exact cu_sum hv _ (Nat.le_refl _), ?_⟩
    have key : ∀ k, k ≤ M.length → 0 ≤ (M.take k).sum ∧ (M.take k).sum ≤ 30000000 * (k : Int) := by
      intro k
      induction k with
      | zero => intro _; simp
      | succ k ih =>
        intro hk
        have := ih (by omega)
        have h5 := o4 _ (List.getElem_mem (show k < M.length by omega))
        rw [List.take_succ_eq_append_getElem (by omega), List.sum_append, List.sum_cons, List.sum_nil]
        omega
    intro k hk
    have := key k hk
    omega

/-! ### Texts read back -/
theorem rdO_odb {o : OD} (h : oneO o = true) : rdO (odb o) = some o := by
  have hw : spb 32 (odb o) = [bsq (35 :: itoa o.id), o.cu, bsq (itoa o.sent ++ 47 :: itoa o.br), dueB, bsq (itoa o.due)] := by
    unfold spb
    rw [odb_list, odb_words o h]
    simp only [List.map_cons, List.map_nil, bsq_of]
    rfl
  obtain ⟨g1, g2, g3, g4, g5⟩ := oneO_iff.1 h
  have e0 : gd (spb 32 (odb o)) 0 = bsq (35 :: itoa o.id) := by rw [hw]; rfl
  have e1 : gd (spb 32 (odb o)) 1 = o.cu := by rw [hw]; rfl
  have e2 : gd (spb 32 (odb o)) 2 = bsq (itoa o.sent ++ 47 :: itoa o.br) := by rw [hw]; rfl
  have e3 : gd (spb 32 (odb o)) 3 = dueB := by rw [hw]; rfl
  have e4 : gd (spb 32 (odb o)) 4 = bsq (itoa o.due) := by rw [hw]; rfl
  have hv : spb 47 (gd (spb 32 (odb o)) 2) = [bsq (itoa o.sent), bsq (itoa o.br)] := by
    rw [e2]; unfold spb; rw [bsq_list, itoa_split47]; rfl
  have f0 : gd (spb 47 (gd (spb 32 (odb o)) 2)) 0 = bsq (itoa o.sent) := by rw [hv]; rfl
  have f1 : gd (spb 47 (gd (spb 32 (odb o)) 2)) 1 = bsq (itoa o.br) := by rw [hv]; rfl
  have rd : ∀ n : Int, -1000000000000000000 < n → n < 1000000000000000000 → rdb (bsq (itoa n)) = true ∧ rdv (bsq (itoa n)) = n := by
    intro n h0 h1
    unfold rdb rdv
    rw [bsq_list, rdec_itoa n h0 h1]
    exact ⟨rfl, rfl⟩
  have hx : (bsq (35 :: itoa o.id)).extract 1 (bsq (35 :: itoa o.id)).size = bsq (itoa o.id) := by
    rw [ext_end]; rfl
  have hpos : 0 < (itoa o.id).length := by
    have hr := rdec_itoa o.id (by omega) (by omega)
    rcases Nat.eq_zero_or_pos (itoa o.id).length with h | h
    · rw [List.length_eq_zero_iff.1 h] at hr; cases hr
    · exact h
  have hW : oW (spb 32 (odb o)) (spb 47 (gd (spb 32 (odb o)) 2)) = o := by
    unfold oW
    rw [f0, f1, e0, e1, e4, hx, (rd _ (by omega) (by omega)).2, (rd _ (by omega) (by omega)).2, (rd _ (by omega) (by omega)).2, (rd _ (by omega) (by omega)).2]
  have hsz : 2 ≤ (gd (spb 32 (odb o)) 0).size := by
    rw [e0, bsq_size]
    simp only [List.length_cons]; omega
  refine (rdO_yes (by rw [hw]; rfl) e3 hsz (by rw [e0]; rfl) ?_).trans (congrArg some hW)
  unfold okW
  rw [hW, h, f0, f1, e0, e4, hx, (rd _ (by omega) (by omega)).1, (rd _ (by omega) (by omega)).1, (rd _ (by omega) (by omega)).1, (rd _ (by omega) (by omega)).1, hv]
  rfl
theorem text_back (o : OD) : (mOrderText o = ⟨#[]⟩ ∧ rdOb (mOrderText o) = false) ∨ (mOrderText o ≠ ⟨#[]⟩ ∧ rdOb (mOrderText o) = true ∧ rdOv (mOrderText o) = o) := by
  unfold mOrderText
  cases h : oneO o with
  | false => left; exact ⟨rfl, rfl⟩
  | true =>
    right
    obtain ⟨h1, h2⟩ := rdO_is (rdO_odb h)
    refine ⟨?_, h2, h1⟩
    simp only [cond_true]
    intro he
    have : (odb o).data.toList = [] := by rw [he]
    rw [odb_list] at this
    unfold odL at this
    cases this
end Go.Proofs.YtbggggaoljpfnaaGreatDoor
