/-
  Logs, plain, second part: what the functions answer of a made log.
-/
import Derived.Test.YtiedojkoogfokaaDoorLgsP
import Derived.Test.YtiedojkoogfokaaDoorLog12
import Derived.Test.YtiedojkoogfokaaDoorLog13
import Derived.Test.YtiedojkoogfokaaDoorLog14
import Derived.Test.YtiedojkoogfokaaDoorLog15
namespace Go.Proofs.YtiedojkoogfokaaDoor
open Go.ChangeShapes Go.WideShapes Go.ChangeAt Go.RowKit Go.Sort
open Go.Lib
set_option linter.unusedVariables false

theorem oK_sz {es : List EN} (hv : es.all vEn = true) (h7 : es.length ≤ 7) {k : Nat} (hk : k ≤ es.length) : (oK es k).size ≤ 420 := by
  have := oL_len hv k hk
  rw [oL_size] at this
  omega
theorem lg_made {es : List EN} (hv : es.all vEn = true) (hd : dK es es.length = true) (h7 : es.length ≤ 7) {n : Nat} (hn : n ≤ es.length) :
    lgC (oK es n) = 0 ∧ lgE (oK es n) = es.take n ∧ lgS (oK es n) = sK es n := by
  have h1 := oK_sz hv h7 hn
  have h2 : rdLog (oK es n).data.toList = (es.take n, sK es n, (oL es n).length) := rd_made hv hd hn
  have h3 : lgC (oK es n) = 0 := by
    unfold lgC
    rw [if_neg (by omega), if_pos (by rw [h2, oL_size])]
  obtain ⟨h4, h5, _⟩ := lg_yes h3
  exact ⟨h3, by rw [h4, h2], by rw [h5, h2]⟩
theorem made_log {es : List EN} (hv : es.all vEn = true) (hd : dK es es.length = true) (h7 : es.length ≤ 7) : mLogOf es = (oK es es.length, 0) := by
  have h1 := oK_sz hv h7 (Nat.le_refl _)
  unfold mLogOf
  rw [hv, hd, if_neg (by omega)]
  rfl
theorem day_made {es : List EN} (hv : es.all vEn = true) (hd : dK es es.length = true) {k : Nat} (hk : k < es.length) : lday (es.take k) ≤ (gd es k).day := by
  rw [lday_take (by omega)]
  split
  · exact (vEn_iff.1 (all_at hv hk)).1.1
  · have := dK_at hd (j := k - 1) (by omega)
    rwa [show k - 1 + 1 = k by omega] at this
theorem add_made {es : List EN} (hv : es.all vEn = true) (hd : dK es es.length = true) (h7 : es.length ≤ 7) {k : Nat} (hk : k < es.length) : mAddEntry (oK es k) (gd es k) = (oK es (k + 1), 0) := by
  obtain ⟨h1, h2, h3⟩ := lg_made hv hd h7 (show k ≤ es.length by omega)
  have h4 := oK_sz hv h7 (show k + 1 ≤ es.length by omega)
  have h5 := day_made hv hd hk
  unfold mAddEntry mAdded
  rw [if_pos h1, h2, h3, all_at hv hk, if_neg (by omega)]
  rw [oK_succ, sK_succ hk, ByteArray.size_append] at h4
  rw [if_neg (by omega), oK_succ, sK_succ hk]
  rfl
theorem toList_cut (s : ByteArray) (c : Nat) : (s.extract 0 c).data.toList = s.data.toList.take c := by
  rw [ByteArray.data_extract, Array.toList_extract]
  simp
theorem size_cut {s : ByteArray} {c : Nat} (h : c ≤ s.size) : (s.extract 0 c).size = c := by rw [ByteArray.size_extract]; omega
theorem cut_facts {s : ByteArray} {c : Nat} (hc : c ≤ s.size) (hs : s.size ≤ 4000) : ∃ m : Nat, m ≤ c ∧ mRecover (s.extract 0 c) = (s.extract 0 m, (c : Int) - m, 0) ∧ mCheckLog (s.extract 0 c) = ((m : Int), 0) ∧ lgC (s.extract 0 m) = 0 ∧ (lgE (s.extract 0 m)).length ≤ (rdLog s.data.toList).1.length := by
  have ht := size_cut hc
  have hm2 : (rdLog (s.extract 0 c).data.toList).2.2 ≤ c := by
    have := (rdLog_le (s.extract 0 c)).2.1
    omega
  generalize hmm : (rdLog (s.extract 0 c).data.toList).2.2 = m at *
  have hx : (s.extract 0 c).extract 0 m = s.extract 0 m := by rw [ByteArray.extract_extract]; congr 1; omega
  have hk : rdLog (s.extract 0 m).data.toList = rdLog (s.extract 0 c).data.toList := by
    rw [← hx, toList_cut, ← hmm]
    exact rdLog_kept _
  have hz : (s.extract 0 m).size = m := size_cut (by omega)
  have h0 : lgC (s.extract 0 m) = 0 := by
    unfold lgC
    rw [if_neg (by omega), if_pos (by rw [hk, hmm, hz])]
  refine ⟨m, hm2, ?_, ?_, h0, ?_⟩
  · unfold mRecover
    rw [if_neg (by omega), hmm, hx, ht]
  · unfold mCheckLog
    rw [if_neg (by omega), hmm]
  · rw [(lg_yes h0).1, hk, toList_cut]
    exact rdLog_cut _ _
theorem ba_nil (s : ByteArray) : s = s ++ ⟨#[]⟩ := by ext1; rw [ByteArray.data_append]; simp
theorem oK_pre (es : List EN) (k : Nat) : ∀ n, k ≤ n → ∃ R, oK es n = oK es k ++ R
  | 0, h => ⟨⟨#[]⟩, by obtain rfl : k = 0 := by omega
                       exact ba_nil _⟩
  | n + 1, h => by
    by_cases hk : k = n + 1
    · exact ⟨⟨#[]⟩, by subst hk; exact ba_nil _⟩
    · obtain ⟨R, hR⟩ := oK_pre es k n (by omega)
      exact ⟨R ++ lnb (sK es (n + 1)) (gd es n), by rw [oK_succ, hR, ByteArray.append_assoc]⟩
theorem oK_cut (es : List EN) {k n : Nat} (h : k ≤ n) : (oK es n).extract 0 (oK es k).size = oK es k := by
  obtain ⟨R, hR⟩ := oK_pre es k n h
  rw [hR]
  exact ByteArray.extract_append_eq_left rfl
end Go.Proofs.YtiedojkoogfokaaDoor

/-
  Logs, plain, third part: sums over all different names.
-/
namespace Go.Proofs.YtiedojkoogfokaaDoor
open Go.ChangeShapes Go.WideShapes Go.ChangeAt Go.RowKit Go.Sort
open Go.Lib
set_option linter.unusedVariables false

/-- The sum of the values of the entries that count, and how many count. -/
def sumB (es : List EN) (p : EN → Bool) : Int := (es.map fun e => bif p e then e.val else 0).sum
def cntB (es : List EN) (p : EN → Bool) : Int := (es.map fun e => bif p e then (1:Int) else 0).sum
theorem sumB_cons (e : EN) (r : List EN) (p : EN → Bool) : sumB (e :: r) p = (bif p e then e.val else 0) + sumB r p := by unfold sumB; rw [List.map_cons, List.sum_cons]
theorem cntB_cons (e : EN) (r : List EN) (p : EN → Bool) : cntB (e :: r) p = (bif p e then 1 else 0) + cntB r p := by unfold cntB; rw [List.map_cons, List.sum_cons]
theorem sumB_or {p q u : EN → Bool} (h : ∀ e, p e = true → q e = false) (hu : ∀ e, u e = (p e || q e)) : ∀ es, sumB es u = sumB es p + sumB es q
  | [] => rfl
  | e :: r => by
    have ih := sumB_or h hu r
    rw [sumB_cons, sumB_cons, sumB_cons, ih, hu]
    cases hp : p e with
    | true => rw [h e hp]; simp; omega
    | false => cases q e <;> simp <;> omega
theorem cntB_or {p q u : EN → Bool} (h : ∀ e, p e = true → q e = false) (hu : ∀ e, u e = (p e || q e)) : ∀ es, cntB es u = cntB es p + cntB es q
  | [] => rfl
  | e :: r => by
    have ih := cntB_or h hu r
    rw [cntB_cons, cntB_cons, cntB_cons, ih, hu]
    cases hp : p e with
    | true => rw [h e hp]; simp; omega
    | false => cases q e <;> simp <;> omega
theorem sumB_bd (p : EN → Bool) : ∀ {es : List EN}, es.all vEn = true → -(1000000 * (es.length : Int)) ≤ sumB es p ∧ sumB es p ≤ 1000000 * (es.length : Int)
  | [], _ => by simp [sumB]
  | e :: r, h => by
    rw [List.all_cons, Bool.and_eq_true] at h
    have ih := sumB_bd p h.2
    have hb := (vEn_iff.1 h.1).2.2
    rw [sumB_cons]
    simp only [List.length_cons]
    cases p e with
    | true => simp only [cond_true]; omega
    | false => simp only [cond_false]; omega
theorem cntB_bd (p : EN → Bool) : ∀ (es : List EN), 0 ≤ cntB es p ∧ cntB es p ≤ (es.length : Int)
  | [] => by simp [cntB]
  | e :: r => by
    have ih := cntB_bd p r
    rw [cntB_cons]
    simp only [List.length_cons]
    cases p e with
    | true => simp only [cond_true]; omega
    | false => simp only [cond_false]; omega
theorem sumB_all {p : EN → Bool} : ∀ {es : List EN}, (∀ e ∈ es, p e = true) → sumB es p = (es.map (·.val)).sum
  | [], _ => rfl
  | e :: r, h => by
    rw [sumB_cons, sumB_all (fun x hx => h x (List.mem_cons_of_mem _ hx)), h e List.mem_cons_self]
    simp
theorem cntB_all {p : EN → Bool} : ∀ {es : List EN}, (∀ e ∈ es, p e = true) → cntB es p = es.length
  | [], _ => rfl
  | e :: r, h => by
    rw [cntB_cons, cntB_all (fun x hx => h x (List.mem_cons_of_mem _ hx)), h e List.mem_cons_self]
    simp only [List.length_cons, cond_true]; omega
theorem sumB_cong {p q : EN → Bool} : ∀ {es : List EN}, (∀ e ∈ es, p e = q e) → sumB es p = sumB es q
  | [], _ => rfl
  | e :: r, h => by
    rw [sumB_cons, sumB_cons, sumB_cong (fun x hx => h x (List.mem_cons_of_mem _ hx)), h e List.mem_cons_self]
theorem sumB_filter (p : EN → Bool) : ∀ es : List EN, ((es.filter p).map (·.val)).sum = sumB es p
  | [] => rfl
  | e :: r => by
    rw [sumB_cons, ← sumB_filter p r, List.filter_cons]
    cases p e with
    | true => simp
    | false => simp
theorem cntB_filter (p : EN → Bool) : ∀ es : List EN, ((es.filter p).length : Int) = cntB es p
  | [] => rfl
  | e :: r => by
    rw [cntB_cons, ← cntB_filter p r, List.filter_cons]
    cases p e with
    | true => simp; omega
    | false => simp

theorem hasS_iff {l : List ByteArray} {x : ByteArray} : hasS l x = true ↔ x ∈ l := by unfold hasS; simp
theorem namK_ok (es : List EN) : ∀ k, k ≤ es.length → (namK es k).Nodup ∧ (∀ e ∈ es.take k, e.what ∈ namK es k) ∧ (∀ x ∈ namK es k, ∃ e ∈ es.take k, e.what = x) ∧ (namK es k).length ≤ k
  | 0, _ => by simp [namK]
  | k + 1, hk => by
    obtain ⟨h1, h2, h3, h4⟩ := namK_ok es k (by omega)
    rw [namK_succ (by omega), take_gd (show k < es.length by omega)]
    cases hh : hasS (namK es k) (gd es k).what with
    | true =>
      simp only [cond_true]
      refine ⟨h1, ?_, ?_, by omega⟩
      · intro e he
        rcases List.mem_append.1 he with he | he
        · exact h2 e he
        · rw [List.mem_singleton] at he
          subst he
          exact hasS_iff.1 hh
      · intro x hx
        obtain ⟨e, he, hx⟩ := h3 x hx
        exact ⟨e, List.mem_append_left _ he, hx⟩
    | false =>
      simp only [cond_false]
      have hn : (gd es k).what ∉ namK es k := fun h => by rw [hasS_iff.2 h] at hh; cases hh
      refine ⟨?_, ?_, ?_, by rw [List.length_append]; simp; omega⟩
      · rw [List.nodup_append]
        refine ⟨h1, by simp, ?_⟩
        intro a ha b hb
        rw [List.mem_singleton] at hb
        subst hb
        rintro rfl
        exact hn ha
      · intro e he
        rcases List.mem_append.1 he with he | he
        · exact List.mem_append_left _ (h2 e he)
        · rw [List.mem_singleton] at he
          subst he
          exact List.mem_append_right _ (by simp)
      · intro x hx
        rcases List.mem_append.1 hx with hx | hx
        · obtain ⟨e, he, hx⟩ := h3 x hx
          exact ⟨e, List.mem_append_left _ he, hx⟩
        · rw [List.mem_singleton] at hx
          exact ⟨gd es k, List.mem_append_right _ (by simp), hx.symm⟩
/-- All different names. -/
def namA (es : List EN) : List ByteArray := namK es es.length
theorem namA_ok (es : List EN) : (namA es).Nodup ∧ (∀ e ∈ es, e.what ∈ namA es) ∧ (∀ x ∈ namA es, ∃ e ∈ es, e.what = x) ∧ (namA es).length ≤ es.length := by
  have h := namK_ok es es.length (Nat.le_refl _)
  rw [List.take_length] at h
  exact h
theorem namA_nil (es : List EN) : (namA es).length = 0 ↔ es.length = 0 := by
  obtain ⟨_, h2, _, h4⟩ := namA_ok es
  constructor
  · intro h
    cases es with
    | nil => rfl
    | cons e r =>
      have := h2 e List.mem_cons_self
      rw [List.eq_nil_of_length_eq_zero h] at this
      cases this
  · intro h; omega
/-- The entries whose name is among the first k. -/
def inA (es : List EN) (k : Nat) (e : EN) : Bool := hasS ((namA es).take k) e.what
def smA (es : List EN) (k : Nat) : Int := sumB es (inA es k)
def cnA (es : List EN) (k : Nat) : Int := cntB es (inA es k)
theorem smA_zero (es : List EN) : smA es 0 = 0 := by
  unfold smA inA
  have : ∀ es : List EN, sumB es (fun e => hasS ([] : List ByteArray) e.what) = 0 := by
    intro es
    induction es with
    | nil => rfl
    | cons e r ih => rw [sumB_cons, ih]; rfl
  exact this es
theorem cnA_zero (es : List EN) : cnA es 0 = 0 := by
  unfold cnA inA
  have : ∀ es : List EN, cntB es (fun e => hasS ([] : List ByteArray) e.what) = 0 := by
    intro es
    induction es with
    | nil => rfl
    | cons e r ih => rw [cntB_cons, ih]; rfl
  exact this es
theorem nodup_new {l : List ByteArray} (h : l.Nodup) {k : Nat} (hk : k < l.length) : gd l k ∉ l.take k := by
  rw [gd_eq hk]
  intro hm
  obtain ⟨j, hj, hje⟩ := List.mem_iff_getElem.1 hm
  rw [List.length_take] at hj
  rw [List.getElem_take] at hje
  exact List.pairwise_iff_getElem.1 h j k (by omega) hk (by omega) hje
theorem inA_succ {es : List EN} {k : Nat} (hk : k < (namA es).length) (e : EN) : inA es (k + 1) e = (inA es k e || decide (e.what = gd (namA es) k)) := by
  unfold inA
  rw [hasS_succ hk]
  congr 1
  exact decide_eq_decide.2 ⟨fun h => h.symm, fun h => h.symm⟩
theorem inA_apart {es : List EN} {k : Nat} (hk : k < (namA es).length) (e : EN) (h : inA es k e = true) : decide (e.what = gd (namA es) k) = false := by
  refine decide_eq_false fun h2 => ?_
  unfold inA at h
  rw [hasS_iff, h2] at h
  exact nodup_new (namA_ok es).1 hk h
theorem smA_end (es : List EN) : smA es (namA es).length = (es.map (·.val)).sum := by
  refine sumB_all fun e he => ?_
  unfold inA
  rw [List.take_length]
  exact hasS_iff.2 ((namA_ok es).2.1 e he)
theorem cnA_end (es : List EN) : cnA es (namA es).length = es.length := by
  refine cntB_all fun e he => ?_
  unfold inA
  rw [List.take_length]
  exact hasS_iff.2 ((namA_ok es).2.1 e he)
/-- What the functions answer of the k-th name. -/
theorem sums_at {es : List EN} (hv : es.all vEn = true) (hd : dK es es.length = true) (h7 : es.length ≤ 7) {k : Nat} (hk : k < (namA es).length) :
    ∃ (vs : List Int), isN (gd (namA es) k) = true ∧ mSumOfWhat (oK es es.length) (gd (namA es) k) 0 100000 = (vs.sum, 0) ∧ mValuesOf (oK es es.length) (gd (namA es) k) = (vs, 0) ∧ 0 < vs.length ∧ vs.length ≤ 7 ∧ (∀ x ∈ vs, -1000000 ≤ x ∧ x ≤ 1000000) ∧ smA es (k + 1) = smA es k + vs.sum ∧ cnA es (k + 1) = cnA es k + vs.length := by
  obtain ⟨k1, k2, _⟩ := lg_made hv hd h7 (Nat.le_refl es.length)
  rw [List.take_length] at k2
  have hmem : gd (namA es) k ∈ namA es := by rw [gd_eq hk]; exact List.getElem_mem hk
  obtain ⟨e, he, hew⟩ := (namA_ok es).2.2.1 _ hmem
  have hve := List.all_eq_true.1 hv
  have hN : isN (gd (namA es) k) = true := by rw [← hew]; exact (vEn_iff.1 (hve e he)).2.1
  have hW : whC (oK es es.length) (gd (namA es) k) = 0 := by rw [whC_yes k1, hN]; rfl
  have hS : sowC (oK es es.length) (gd (namA es) k) 0 100000 = 0 := by
    unfold sowC
    rw [hW, if_pos rfl]
    rfl
  have hval : valK es (gd (namA es) k) es.length = (es.filter fun e => decide (e.what = gd (namA es) k)).map (·.val) := by
    unfold valK
    rw [List.take_length]
  refine ⟨valK es (gd (namA es) k) es.length, hN, ?_, ?_, ?_, ?_, ?_, ?_, ?_⟩
  · rw [sm_ok hS, k2]
    congr 1
    rw [hval, sumB_filter]
    unfold sumK
    rw [List.take_length]
    refine sumB_cong fun e he => ?_
    unfold cntE
    have := (vEn_iff.1 (hve e he)).1
    have hi : inB e.day 0 100000 = true := by unfold inB; simp; omega
    rw [hi, Bool.and_true]
  · unfold mValuesOf
    rw [hW, if_pos rfl, k2]
  · rw [hval, List.length_map]
    exact List.length_pos_of_mem (List.mem_filter.2 ⟨he, decide_eq_true hew⟩)
  · exact Nat.le_trans (valK_len _ _ _) h7
  · intro x hx
    rw [hval] at hx
    obtain ⟨e, he, rfl⟩ := List.mem_map.1 hx
    exact (vEn_iff.1 (hve e ((List.mem_filter.1 he).1))).2.2
  · rw [hval, sumB_filter]
    exact sumB_or (fun e h => inA_apart hk e h) (fun e => inA_succ hk e) es
  · rw [hval, List.length_map, cntB_filter]
    exact cntB_or (fun e h => inA_apart hk e h) (fun e => inA_succ hk e) es
theorem names_made {es : List EN} (hv : es.all vEn = true) (hd : dK es es.length = true) (h7 : es.length ≤ 7) : mNamesIn (oK es es.length) = (namA es, 0) := by
  obtain ⟨k1, k2, _⟩ := lg_made hv hd h7 (Nat.le_refl es.length)
  rw [List.take_length] at k2
  unfold mNamesIn
  rw [if_pos k1, k2]
  rfl
theorem sum_takes {vs : List Int} (h : ∀ x ∈ vs, -1000000 ≤ x ∧ x ≤ 1000000) : ∀ k, k ≤ vs.length → -(1000000 * (k : Int)) ≤ (vs.take k).sum ∧ (vs.take k).sum ≤ 1000000 * (k : Int)
  | 0, _ => by simp
  | k + 1, hk => by
    have ih := sum_takes h k (by omega)
    rw [List.take_succ_eq_append_getElem (by omega), List.sum_append]
    have := h _ (List.getElem_mem (show k < vs.length by omega))
    simp only [List.sum_cons, List.sum_nil]
    omega
end Go.Proofs.YtiedojkoogfokaaDoor
