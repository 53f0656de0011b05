/-
  Orders: the program's ordersByDue.
-/
import Derived.Test.YthcckonkhbmcmaaSrtC
import Derived.Test.YthcckonkhbmcmaaOrders7
import Derived.Sort.OwnSortedInts
namespace Go.Proofs.Ythcckonkhbmcmaa
open Go.ChangeShapes Go.WideShapes Go.ChangeAt Go.RowKit Go.Sort
set_option linter.unusedVariables false
set_option maxRecDepth 100000

/-! ### The row as ints -/
def vF {N : Nat} (i : Fin (N + 1)) : Int := ((i.val : Nat) : Int)
def vL {N : Nat} (X : Array (Fin (N + 1))) : List Int := X.toList.map vF
theorem vL_len {N : Nat} (X : Array (Fin (N + 1))) : (vL X).length = X.size := by simp [vL]
theorem vL_get {N : Nat} (X : Array (Fin (N + 1))) {j : Nat} (hj : j < X.size) : (vL X)[j]? = some (vF X[j]!) := by
  unfold vL
  rw [List.getElem?_map, List.getElem?_eq_getElem (by simpa using hj), getElem!_pos X j hj]
  simp
theorem putRow_vL {N : Nat} (w : World) (g : Nat) (Y : Array (Fin (N + 1))) : putRow eF w g 0 Y = putRow (Value.int .i64) w g 0 (vL Y).toArray := by
  unfold putRow
  congr 1
  funext c
  unfold putCells
  congr 1
  funext k x
  have hs : (vL Y).toArray.size = Y.size := by simp [vL]
  rw [hs]
  by_cases h : 0 ≤ k ∧ k < 0 + Y.size
  · rw [if_pos h, if_pos h, Nat.sub_zero]
    have hk : k < Y.size := by omega
    rw [getElem!_pos (vL Y).toArray k (by rw [hs]; exact hk)]
    have := vL_get Y hk
    rw [List.getElem?_eq_getElem (by rw [vL_len]; exact hk)] at this
    injection this with this
    show _ = Value.int .i64 ((vL Y)[k]'(by rw [vL_len]; exact hk))
    rw [this]; rfl
  · rw [if_neg h, if_neg h]
theorem wX_vL {N : Nat} (w : World) (g m : Nat) (Y : Array (Fin (N + 1))) : WX w g Y m = grow (putRow (Value.int .i64) (Sort.ahead w m) g 0 (vL Y).toArray) #[] := by
  rw [grow_empty, putRow_ahead, ← putRow_vL]; rfl
theorem oI_block {w : World} {base g k cap : Nat} {xs : List Int} (h : OI w base (.slice (some ⟨g, 0, none⟩) k cap) xs) : ∃ cur, base ≤ g ∧ w.heap[g]? = some (.cells cur 2 (0, 0)) ∧ k = xs.length ∧ k ≤ cap ∧ cap ≤ maxLen ∧ cur.size = cap * 1 ∧ cur.toList.take xs.length = xs.map (Value.int .i64) := by
  rcases h.2 with ⟨hv, h1⟩ | ⟨g', cap', cur, hv, hg, hh, hn, hm, hs, ht⟩
  · cases hv
  · injection hv with q1 q2 q3
    injection q1 with q1
    injection q1 with q1
    subst q1 q2 q3
    refine ⟨cur, hg, hh, rfl, hn, hm, hs, ?_⟩
    rw [Nat.mul_one] at ht
    exact ht
theorem oI_holds {N : Nat} {w : World} {base g k cap : Nat} {X : Array (Fin (N + 1))} (h : OI w base (.slice (some ⟨g, 0, none⟩) k cap) (vL X)) : Holds eF w g 0 X := by
  obtain ⟨cur, _, hh, hk, _, _, _, ht⟩ := (oI_block h)
  have hH := holds_of_blockI hh ht
  intro j hj
  have := hH j (by simpa [vL] using hj)
  have hq := vL_get X hj
  rw [getElem!_pos (vL X).toArray j (by simpa [vL] using hj)] at this
  rw [List.getElem?_eq_getElem (by rw [vL_len]; exact hj)] at hq
  injection hq with hq
  refine ⟨?_, this.2⟩
  rw [this.1]
  show some (Value.int .i64 ((vL X)[j]'(by rw [vL_len]; exact hj))) = _
  rw [hq]; rfl
theorem oI_sorted {N : Nat} {w : World} {base g k cap m : Nat} {X Y : Array (Fin (N + 1))} (h : OI w base (.slice (some ⟨g, 0, none⟩) k cap) (vL X)) (hs : Y.size = X.size) :
    OI (WX w g Y m) base (.slice (some ⟨g, 0, none⟩) k cap) (vL Y) ∧ Chg (fun j => j = g) w (WX w g Y m) := by
  obtain ⟨cur, hg, hh, hk, h1, h2, h3, ht⟩ := (oI_block h)
  have hl : (vL Y).length = (vL X).length := by rw [vL_len, vL_len, hs]
  have ho := ownsRow_sortedI (os := #[]) (n := m) hl hg hh (by rw [← hk]; exact h1) h2 h3
  have hgr := grownBy_sortedI (w := w) (g := g) (n := m) (os := #[]) (vL Y).toArray
  rw [← wX_vL] at ho hgr
  refine ⟨?_, (Chg.of_grown hgr).mono fun j hj => by injection hj with hj; exact hj.symm⟩
  unfold OI
  rw [hl, hk]
  exact ho

/-! ### The open orders, in their order and by their days -/
def oXs (l : List OD) (k : Nat) : List Nat := (List.range k).filter fun i => decide (opn (gd l i) ≠ 0)
theorem oXs_succ (l : List OD) (k : Nat) : oXs l (k + 1) = if opn (gd l k) = 0 then oXs l k else oXs l k ++ [k] := by
  unfold oXs
  rw [List.range_succ, List.filter_append]
  by_cases h : opn (gd l k) = 0
  · rw [if_pos h]; simp [h]
  · rw [if_neg h]; simp [h]
theorem oXs_mem {l : List OD} {k i : Nat} (h : i ∈ oXs l k) : i < k ∧ opn (gd l i) ≠ 0 := by
  unfold oXs at h
  rw [List.mem_filter] at h
  exact ⟨by simpa using h.1, by simpa using h.2⟩
theorem oXs_len (l : List OD) (k : Nat) : (oXs l k).length = (dueTo l k).length := by
  induction k with
  | zero => rfl
  | succ k ih =>
    rw [oXs_succ, dueTo]
    split
    · exact ih
    · rw [List.length_append, ins_len, ih]; rfl
theorem oXs_asc (l : List OD) (k : Nat) : (oXs l k).Pairwise (· < ·) := by
  unfold oXs
  exact List.Pairwise.sublist List.filter_sublist List.pairwise_lt_range
/-- By the day, then by the index. -/
def rI (l : List OD) (x y : Int) : Prop := dI l x < dI l y ∨ (dI l x = dI l y ∧ x < y)
theorem due_str (l : List OD) (k : Nat) : (dueTo l k).Pairwise (rI l) := by
  induction k with
  | zero => exact List.Pairwise.nil
  | succ k ih =>
    rw [dueTo]
    split
    · exact ih
    · obtain ⟨p, hp⟩ : ∃ p, ipos l (dueTo l k) (gd l k).due (dueTo l k).length = p := ⟨_, rfl⟩
      have h1 := ipos_le l (dueTo l k) (gd l k).due (dueTo l k).length
      have h2 := ipos_gt l (dueTo l k) (gd l k).due (dueTo l k).length
      have h3 := ipos_at l (dueTo l k) (gd l k).due (dueTo l k).length
      have hs := due_srt l k
      unfold ins
      rw [hp] at h1 h2 h3 ⊢
      have hd : dI l (k : Int) = (gd l k).due := by unfold dI; rw [Int.toNat_natCast]
      have ht : ∀ a ∈ (dueTo l k).take p, rI l a (k : Int) := by
        intro a ha
        have ham := due_mem (List.mem_of_mem_take ha)
        obtain ⟨j, hj, rfl⟩ := List.getElem_of_mem ha
        rw [List.length_take] at hj
        rw [List.getElem_take, ← gi_eq (by omega)] at ham ⊢
        obtain ⟨j', e1, e2, _⟩ := ham
        unfold rI
        rw [hd]
        have : dI l (gi (dueTo l k) j) ≤ (gd l k).due := by
          rcases h3 with h3 | h3
          · omega
          · exact Int.le_trans (hs.at (show j ≤ p - 1 by omega) (by omega)) h3
        omega
      have hr : ∀ b ∈ (dueTo l k).drop p, rI l (k : Int) b := by
        intro b hb
        obtain ⟨j, hj, rfl⟩ := List.getElem_of_mem hb
        rw [List.length_drop] at hj
        rw [List.getElem_drop, ← gi_eq (by omega)]
        have := h2 (p + j) (by omega) (by omega)
        unfold rI
        omega
      have hpw : ((dueTo l k).take p ++ (dueTo l k).drop p).Pairwise (rI l) := by rw [List.take_append_drop]; exact ih
      rw [List.pairwise_append] at hpw
      rw [List.append_assoc, List.pairwise_append, List.pairwise_append]
      refine ⟨hpw.1, ⟨List.pairwise_singleton _ _, hpw.2.1, ?_⟩, ?_⟩
      · intro a ha b hb
        rw [List.mem_singleton] at ha
        subst ha
        exact hr b hb
      · intro a ha b hb
        rw [List.mem_append, List.mem_singleton] at hb
        rcases hb with rfl | hb
        · exact ht a ha
        · exact hpw.2.2 a ha b hb
theorem due_has {l : List OD} {k j : Nat} (hj : j < k) (ho : opn (gd l j) ≠ 0) : (j : Int) ∈ dueTo l k := by
  induction k with
  | zero => omega
  | succ k ih =>
    rw [dueTo]
    by_cases hjk : j = k
    · subst hjk
      rw [if_neg ho]
      unfold ins; simp
    · have := ih (by omega)
      split
      · exact this
      · unfold ins
        have h2 : (j : Int) ∈ (dueTo l k).take (ipos l (dueTo l k) (gd l k).due (dueTo l k).length) ++ (dueTo l k).drop (ipos l (dueTo l k) (gd l k).due (dueTo l k).length) := by rw [List.take_append_drop]; exact this
        simp only [List.mem_append] at h2 ⊢
        rcases h2 with h2 | h2
        · exact Or.inl (Or.inl h2)
        · exact Or.inr h2
/-- The row ahead of the sort. -/
def oXa (l : List OD) (N : Nat) : Array (Fin (N + 1)) := ((oXs l l.length).map fun i => Fin.ofNat (N + 1) i).toArray
theorem oXa_size (l : List OD) (N : Nat) : (oXa l N).size = (oXs l l.length).length := by simp [oXa]
theorem oXa_get {l : List OD} {N : Nat} (hl : l.length = N + 1) {p : Nat} (hp : p < (oXs l l.length).length) : ((oXa l N)[p]!).val = (oXs l l.length)[p] := by
  have hlt := (oXs_mem (List.getElem_mem hp)).1
  rw [getElem!_pos (oXa l N) p (by rw [oXa_size]; exact hp)]
  unfold oXa
  simp only [List.getElem_toArray, List.getElem_map, Fin.ofNat]
  exact Nat.mod_eq_of_lt (by omega)
theorem oXa_vL {l : List OD} {N : Nat} (hl : l.length = N + 1) : vL (oXa l N) = (oXs l l.length).map Int.ofNat := by
  apply List.ext_getElem?
  intro p
  by_cases hp : p < (oXs l l.length).length
  · rw [vL_get _ (by rw [oXa_size]; exact hp), List.getElem?_map, List.getElem?_eq_getElem hp]
    unfold vF
    rw [oXa_get hl hp]; rfl
  · rw [List.getElem?_eq_none (by rw [vL_len, oXa_size]; omega), List.getElem?_eq_none (by simp; omega)]
theorem oXa_asc {l : List OD} {N : Nat} (hl : l.length = N + 1) : ∀ p q, p < q → q < (oXa l N).size → kI (oXa l N)[p]! < kI (oXa l N)[q]! := by
  intro p q hpq hq
  rw [oXa_size] at hq
  show ((oXa l N)[p]!).val < ((oXa l N)[q]!).val
  rw [oXa_get hl (by omega), oXa_get hl hq]
  exact List.pairwise_iff_getElem.1 (oXs_asc l l.length) p q (by omega) hq hpq
theorem fin_due {l : List OD} {N : Nat} (hl : l.length = N + 1) {Y : Array (Fin (N + 1))} (h : FinK l (oXa l N) Y) : vL Y = dueTo l l.length := by
  have hsz : Y.size = (oXs l l.length).length := by rw [h.size, oXa_size]
  refine srt_one (R := rI l) (fun x y z h1 h2 => by unfold rI at *; omega) (fun x hx => by unfold rI at hx; omega) (dueTo l l.length) (vL Y) (due_str l l.length) ?_ ?_ (by rw [vL_len, hsz, oXs_len])
  · rw [List.pairwise_iff_getElem]
    intro i j hi hj hij
    rw [vL_len] at hi hj
    have e1 := vL_get Y hi
    have e2 := vL_get Y hj
    rw [List.getElem?_eq_getElem (by rw [vL_len]; exact hi)] at e1
    rw [List.getElem?_eq_getElem (by rw [vL_len]; exact hj)] at e2
    injection e1 with e1
    injection e2 with e2
    rw [e1, e2]
    have := h.srt i j (Nat.zero_le _) hij (by rw [oXa_size, ← hsz]; exact hj)
    unfold ltK kD at this
    unfold rI dI vF
    rw [Int.toNat_natCast, Int.toNat_natCast]
    rcases this with h1 | ⟨h1, h2⟩
    · exact Or.inl h1
    · exact Or.inr ⟨h1, by have : (Y[i]!).val < (Y[j]!).val := h2; omega⟩
  · intro y hy
    obtain ⟨p, hp, rfl⟩ := List.getElem_of_mem hy
    rw [vL_len] at hp
    have e1 := vL_get Y hp
    rw [List.getElem?_eq_getElem (by rw [vL_len]; exact hp)] at e1
    injection e1 with e1
    rw [e1]
    obtain ⟨q, hq, e2⟩ := h.mem p (by rw [oXa_size, ← hsz]; exact hp)
    rw [oXa_size] at hq
    rw [e2]
    unfold vF
    rw [oXa_get hl hq]
    obtain ⟨h1, h2⟩ := oXs_mem (List.getElem_mem hq)
    exact due_has h1 h2
end Go.Proofs.Ythcckonkhbmcmaa
