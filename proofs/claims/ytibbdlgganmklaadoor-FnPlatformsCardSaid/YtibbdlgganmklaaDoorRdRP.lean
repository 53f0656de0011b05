/-
  Lifts, plain: what is read of the text of a wall. No program's step in this text.
-/
import Derived.Test.YtibbdlgganmklaaDoorRisT
import Derived.Test.YtibbdlgganmklaaDoorSplit
import Derived.Test.YtibbdlgganmklaaDoorNum
import Derived.Lib.IndexMore
namespace Go.Proofs.YtibbdlgganmklaaDoor
open Go.Lib
set_option linter.unusedVariables false

theorem jnL_app (b : UInt8) : ∀ (p q : List (List UInt8)), p ≠ [] → jnL b (p ++ q) = jnL b p ++ q.flatMap fun x => b :: x
  | [], _, h => absurd rfl h
  | [l], [], _ => by simp [jnL]
  | [l], m :: t, _ => by
    show jnL b (l :: m :: t) = _
    rw [jnL_cons _ _ (by simp)]
    have ih := jnL_app b [m] t (by simp)
    rw [List.singleton_append] at ih
    rw [ih]
    simp [jnL]
  | l :: m :: t, q, _ => by
    have ih := jnL_app b (m :: t) q (by simp)
    show jnL b (l :: (m :: t ++ q)) = _
    rw [jnL_cons _ _ (by simp), jnL_cons _ _ (by simp), ih]
    simp
theorem csL_flat (xs : List Int) : csL xs = (xs.map itoa).flatMap fun x => 32 :: x := by unfold csL; rw [List.flatMap_map]

def w_reach : List UInt8 := [114, 101, 97, 99, 104]
def w_setup : List UInt8 := [115, 101, 116, 117, 112]
def w_easy : List UInt8 := [101, 97, 115, 121]
/-- The bytes ahead of the colon. -/
def hdL (r : RS) : List UInt8 := jnL 32 [w_reach, itoa r.reach, w_setup, itoa r.setup, w_easy, itoa r.easy]
theorem hdB_list (r : RS) : (hdB r).data.toList = hdL r := by
  unfold hdB hdL
  simp only [ByteArray.data_append, Array.toList_append, itb_list, jnL, w_reach, w_setup, w_easy]
  simp
/-- The bytes of a wall's text. -/
def rsL (r : RS) : List UInt8 := hdL r ++ 58 :: csL r.cs
theorem rsb_list (r : RS) : (rsb r).data.toList = rsL r := by
  unfold rsb rsK rsL
  rw [List.take_length]
  simp only [ByteArray.data_append, Array.toList_append, hdB_list, bsq_list]
  simp
theorem rsL_words (r : RS) : rsL r = jnL 32 ([w_reach, itoa r.reach, w_setup, itoa r.setup, w_easy, itoa r.easy ++ [58]] ++ r.cs.map itoa) := by
  rw [jnL_app _ _ _ (by simp), ← csL_flat]
  unfold rsL hdL
  simp [jnL]
theorem itoa_no58 (n : Int) : (58 : UInt8) ∉ itoa n := itoa_no n (by decide) (Or.inr (by decide))
theorem rsL_split (r : RS) : splL 32 (rsL r) = [w_reach, itoa r.reach, w_setup, itoa r.setup, w_easy, itoa r.easy ++ [58]] ++ r.cs.map itoa := by
  rw [rsL_words]
  refine spl_jn 32 _ (by simp) (fun x hx => ?_)
  rcases List.mem_append.1 hx with hx | hx
  · simp only [List.mem_cons, List.not_mem_nil, or_false] at hx
    rcases hx with rfl | rfl | rfl | rfl | rfl | rfl
    · decide
    · exact itoa_no32 _
    · decide
    · exact itoa_no32 _
    · decide
    · simp only [List.mem_append, List.mem_cons, List.not_mem_nil, or_false, not_or]; exact ⟨itoa_no32 _, by decide⟩
  · obtain ⟨y, _, rfl⟩ := List.mem_map.1 hx
    exact itoa_no32 _

/-! ### The reference's reading -/
def b_reach : ByteArray := ⟨#[114, 101, 97, 99, 104]⟩
def b_setup : ByteArray := ⟨#[115, 101, 116, 117, 112]⟩
def b_easy : ByteArray := ⟨#[101, 97, 115, 121]⟩
/-- The wall that the words name. -/
def rW (l : List ByteArray) : RS := ⟨(l.drop 6).map rdv, rdv (gd l 1), rdv (gd l 3), rdv ((gd l 5).extract 0 ((gd l 5).size - 1))⟩
def okH (l : List ByteArray) : Bool := decide (6 ≤ l.length) && decide (l.length ≤ 46) && decide (gd l 0 = b_reach) && decide (gd l 2 = b_setup) && decide (gd l 4 = b_easy) && decide (1 ≤ (gd l 5).size) && decide (byt (gd l 5) ((gd l 5).size - 1) = 58)
def okN (l : List ByteArray) : Bool := rdb (gd l 1) && rdb (gd l 3) && rdb ((gd l 5).extract 0 ((gd l 5).size - 1)) && vRise (rW l)
/-- The wall of a text. -/
def rdR (s : ByteArray) : Option RS := if okH (spb 32 s) = true ∧ ((spb 32 s).drop 6).all rdb = true ∧ okN (spb 32 s) = true then some (rW (spb 32 s)) else none
def rdRv (s : ByteArray) : RS := (rdR s).getD ⟨[], 0, 0, 0⟩
def rdRb (s : ByteArray) : Bool := (rdR s).isSome
theorem rdR_no {s : ByteArray} (h : rdR s = none) : rdRv s = ⟨[], 0, 0, 0⟩ ∧ rdRb s = false := by unfold rdRv rdRb; rw [h]; exact ⟨rfl, rfl⟩
theorem rdR_is {s : ByteArray} {o : RS} (h : rdR s = some o) : rdRv s = o ∧ rdRb s = true := by unfold rdRv rdRb; rw [h]; exact ⟨rfl, rfl⟩
theorem rdR_head {s : ByteArray} (h : okH (spb 32 s) = false) : rdR s = none := by unfold rdR; rw [if_neg (fun e => by rw [h] at e; exact absurd e.1 (by decide))]
theorem rdR_nums {s : ByteArray} (h : ((spb 32 s).drop 6).all rdb = false) : rdR s = none := by unfold rdR; rw [if_neg (fun e => by rw [h] at e; exact absurd e.2.1 (by decide))]
theorem rdR_ok {s : ByteArray} (h : okN (spb 32 s) = false) : rdR s = none := by unfold rdR; rw [if_neg (fun e => by rw [h] at e; exact absurd e.2.2 (by decide))]
theorem rdR_yes {s : ByteArray} (h1 : okH (spb 32 s) = true) (h2 : ((spb 32 s).drop 6).all rdb = true) (h3 : okN (spb 32 s) = true) : rdR s = some (rW (spb 32 s)) := by unfold rdR; rw [if_pos ⟨h1, h2, h3⟩]
theorem rdb_list {x : ByteArray} (h : rdb x = true) : x.data.toList = itoa (rdv x) := by
  cases hr : rdec x.data.toList with
  | none => rw [(rd_none hr).2] at h; cases h
  | some v => rw [(rd_some hr).1]; exact rdec_itoa_eq hr
theorem rdv_itoa {n : Int} (h0 : -1000000000000000000 < n) (h1 : n < 1000000000000000000) : rdv (bsq (itoa n)) = n ∧ rdb (bsq (itoa n)) = true := rd_some (rdec_itoa n h0 h1)
theorem six {α : Type} (l : List α) (h : 6 ≤ l.length) : ∃ a b c d e f t, l = [a, b, c, d, e, f] ++ t := by
  match l, h with
  | a :: b :: c :: d :: e :: f :: t, _ => exact ⟨a, b, c, d, e, f, t, rfl⟩
theorem map_itoa_back : ∀ (t : List ByteArray), t.all rdb = true → t.map (·.data.toList) = (t.map rdv).map itoa
  | [], _ => rfl
  | x :: t, h => by
    simp only [List.all_cons, Bool.and_eq_true] at h
    simp only [List.map_cons]
    rw [rdb_list h.1, map_itoa_back t h.2]
theorem rdR_some {s : ByteArray} {r : RS} (h : rdR s = some r) : vRise r = true ∧ s = rsb r := by
  unfold rdR at h
  split at h
  · rename_i hc
    obtain ⟨hh, hn, ho⟩ := hc
    injection h with h
    subst h
    unfold okN at ho
    unfold okH at hh
    simp only [Bool.and_eq_true, decide_eq_true_eq] at ho hh
    obtain ⟨⟨⟨n1, n3⟩, n5⟩, hv⟩ := ho
    refine ⟨hv, ba_ext ?_⟩
    rw [rsb_list, rsL_words]
    obtain ⟨⟨⟨⟨⟨⟨h6, _⟩, c0⟩, c2⟩, c4⟩, z5⟩, y5⟩ := hh
    have hj := jn_spl 32 s.data.toList
    obtain ⟨l, hl⟩ : ∃ l, spb 32 s = l := ⟨_, rfl⟩
    have hsl : splL 32 s.data.toList = l.map (·.data.toList) := by
      rw [← hl]; unfold spb; rw [List.map_map]
      conv => lhs; rw [← List.map_id (splL 32 s.data.toList)]
      rfl
    rw [hsl] at hj
    rw [hl] at n1 n3 n5 hv h6 c0 c2 c4 z5 y5 hn ⊢
    obtain ⟨a, b, c, d, e, f, t, rfl⟩ := six l h6
    have ht := map_itoa_back t hn
    rw [← hj, List.map_append, ht]
    have r0 : a = b_reach := c0
    have r2 : c = b_setup := c2
    have r4 : e = b_easy := c4
    have r1 : b.data.toList = itoa (rdv b) := rdb_list n1
    have r3 : d.data.toList = itoa (rdv d) := rdb_list n3
    have r5 : (f.extract 0 (f.size - 1)).data.toList = itoa (rdv (f.extract 0 (f.size - 1))) := rdb_list n5
    have z5' : 1 ≤ f.size := z5
    have y5' : byt f (f.size - 1) = 58 := y5
    have r6 : f.data.toList = itoa (rdv (f.extract 0 (f.size - 1))) ++ [58] := by
      rw [← r5]
      have e1 : f.data.toList = f.data.toList.take (f.size - 1) ++ f.data.toList.drop (f.size - 1) := (List.take_append_drop _ _).symm
      have e2 : (f.extract 0 (f.size - 1)).data.toList = f.data.toList.take (f.size - 1) := by
        rw [ext_bsq f (Nat.zero_le _), bsq_list]; simp
      rw [e2]
      conv => lhs; rw [e1]
      congr 1
      have hlen := size_toList f
      unfold byt at y5'
      rw [List.getD_eq_getElem?_getD, List.getElem?_eq_getElem (by omega)] at y5'
      rw [List.drop_eq_getElem_cons (by omega), List.drop_of_length_le (by omega)]
      congr 1
      exact UInt8.toNat_inj.1 (by show _ = 58; have := y5'; simp only [Option.getD_some] at this; omega)
    have q1 : (rW ([a, b, c, d, e, f] ++ t)).reach = rdv b := rfl
    have q2 : (rW ([a, b, c, d, e, f] ++ t)).setup = rdv d := rfl
    have q3 : (rW ([a, b, c, d, e, f] ++ t)).easy = rdv (f.extract 0 (f.size - 1)) := rfl
    have q4 : (rW ([a, b, c, d, e, f] ++ t)).cs = t.map rdv := rfl
    rw [q1, q2, q3, q4]
    simp only [List.map_cons, List.map_nil]
    rw [r0, r1, r2, r3, r4, r6]
    rfl
  · cases h
theorem rsb_spb (r : RS) : spb 32 (rsb r) = [b_reach, bsq (itoa r.reach), b_setup, bsq (itoa r.setup), b_easy, bsq (itoa r.easy ++ [58])] ++ (r.cs.map itoa).map bsq := by
  unfold spb
  rw [rsb_list, rsL_split, List.map_append]
  rfl
theorem nums_back (xs : List Int) (h : ∀ k, k < xs.length → -1000000000000000000 < gi xs k ∧ gi xs k < 1000000000000000000) : ((xs.map itoa).map bsq).map rdv = xs ∧ ((xs.map itoa).map bsq).all rdb = true := by
  constructor
  · rw [List.map_map, List.map_map]
    conv => rhs; rw [← List.map_id xs]
    refine List.map_congr_left fun x hx => ?_
    obtain ⟨i, hi, rfl⟩ := List.getElem_of_mem hx
    have := h i hi
    unfold gi at this
    rw [List.getD_eq_getElem?_getD, List.getElem?_eq_getElem hi] at this
    exact (rdv_itoa this.1 this.2).1
  · rw [List.all_eq_true]
    intro y hy
    obtain ⟨z, hz, rfl⟩ := List.mem_map.1 hy
    obtain ⟨x, hx, rfl⟩ := List.mem_map.1 hz
    obtain ⟨i, hi, rfl⟩ := List.getElem_of_mem hx
    have := h i hi
    unfold gi at this
    rw [List.getD_eq_getElem?_getD, List.getElem?_eq_getElem hi] at this
    exact (rdv_itoa this.1 this.2).2
theorem vRise_nums {r : RS} (h : vRise r = true) : ∀ k, k < r.cs.length → -1000000000000000000 < gi r.cs k ∧ gi r.cs k < 1000000000000000000 := fun k hk => by
  have := in_of_out (vRise_iff.1 h).1 hk; omega
theorem rdR_mk {r : RS} (h : vRise r = true) : rdR (rsb r) = some r := by
  have hv := vRise_iff.1 h
  have hsp := rsb_spb r
  have hnb := nums_back r.cs (vRise_nums h)
  have n1 := rdv_itoa (n := r.reach) (by omega) (by omega)
  have n3 := rdv_itoa (n := r.setup) (by omega) (by omega)
  have n5 := rdv_itoa (n := r.easy) (by omega) (by omega)
  have x5 : (bsq (itoa r.easy ++ [58])).extract 0 ((bsq (itoa r.easy ++ [58])).size - 1) = bsq (itoa r.easy) := by
    rw [ext_bsq _ (Nat.zero_le _), bsq_list, bsq_size]; simp
  have hrw : rW (spb 32 (rsb r)) = r := by
    rw [hsp]
    show RS.mk (((r.cs.map itoa).map bsq).map rdv) (rdv (bsq (itoa r.reach))) (rdv (bsq (itoa r.setup))) (rdv ((bsq (itoa r.easy ++ [58])).extract 0 ((bsq (itoa r.easy ++ [58])).size - 1))) = r
    rw [x5, hnb.1, n1.1, n3.1, n5.1]
  refine (rdR_yes ?_ ?_ ?_).trans (by rw [hrw])
  · rw [hsp]
    unfold okH
    simp only [Bool.and_eq_true, decide_eq_true_eq]
    refine ⟨⟨⟨⟨⟨⟨by simp, by simp; omega⟩, rfl⟩, rfl⟩, rfl⟩, ?_⟩, ?_⟩
    · show 1 ≤ (bsq (itoa r.easy ++ [58])).size
      rw [bsq_size]; simp
    · show byt (bsq (itoa r.easy ++ [58])) ((bsq (itoa r.easy ++ [58])).size - 1) = 58
      unfold byt
      rw [bsq_list, bsq_size]
      simp
  · rw [hsp]
    show ((r.cs.map itoa).map bsq).all rdb = true
    exact hnb.2
  · unfold okN
    rw [hrw, hsp, h]
    show (rdb (bsq (itoa r.reach)) && rdb (bsq (itoa r.setup)) && rdb ((bsq (itoa r.easy ++ [58])).extract 0 ((bsq (itoa r.easy ++ [58])).size - 1)) && true) = true
    rw [x5, n1.2, n3.2, n5.2]; rfl

/-! ### The program's reading -/
theorem index_two (t : List UInt8) : ∀ (h : List UInt8), (58 : UInt8) ∉ h → index (h ++ 58 :: 32 :: t) [58, 32] = h.length
  | [], _ => by
    rw [List.nil_append, index]
    simp [List.isPrefixOf]
  | c :: r, hn => by
    simp only [List.mem_cons, not_or] at hn
    have ih := index_two t r hn.2
    rw [List.cons_append, index]
    have e : ([58, 32] : List UInt8).isPrefixOf (c :: (r ++ 58 :: 32 :: t)) = false := by
      simp [List.isPrefixOf]
      intro e; exact absurd e hn.1
    rw [e, ih]
    have e2 : (((r.length : Nat) : Int) == -1) = false := by rw [beq_eq_false_iff_ne]; omega
    simp [e2]
theorem cut_two (t h : List UInt8) (hn : (58 : UInt8) ∉ h) : cut (h ++ 58 :: 32 :: t) [58, 32] = (h, t, true) := by
  unfold cut
  rw [index_two t h hn]
  simp
theorem hdL_no58 (r : RS) : (58 : UInt8) ∉ hdL r := by
  unfold hdL
  simp only [jnL, List.mem_append, List.mem_cons, not_or]
  exact ⟨by decide, by decide, itoa_no58 _, by decide, by decide, by decide, itoa_no58 _, by decide, by decide, by decide, itoa_no58 _⟩
theorem hdL_split (r : RS) : splL 32 (hdL r) = [w_reach, itoa r.reach, w_setup, itoa r.setup, w_easy, itoa r.easy] := by
  unfold hdL
  refine spl_jn 32 _ (by simp) (fun x hx => ?_)
  simp only [List.mem_cons, List.not_mem_nil, or_false] at hx
  rcases hx with rfl | rfl | rfl | rfl | rfl | rfl
  · decide
  · exact itoa_no32 _
  · decide
  · exact itoa_no32 _
  · decide
  · exact itoa_no32 _
theorem rsL_cut {r : RS} (h : vRise r = true) : cut (rsL r) [58, 32] = (hdL r, jnL 32 (r.cs.map itoa), true) := by
  have h1 := (vRise_iff.1 h).2.1
  unfold rsL
  rw [csL_join r.cs (by intro e; rw [e] at h1; simp at h1)]
  exact cut_two _ _ (hdL_no58 r)
/-- The head and the rest of a text. -/
def hdT (s : ByteArray) : ByteArray := bsq (cut s.data.toList [58, 32]).1
def rsT (s : ByteArray) : ByteArray := bsq (cut s.data.toList [58, 32]).2.1
/-- The wall that the program makes. -/
def rP (s : ByteArray) : RS := ⟨(spb 32 (rsT s)).map rdv, rdv (gd (spb 32 (hdT s)) 1), rdv (gd (spb 32 (hdT s)) 3), rdv (gd (spb 32 (hdT s)) 5)⟩
theorem rdR_all {s : ByteArray} {r : RS} (h : rdR s = some r) : (spb 32 (hdT s)).length = 6 ∧ (spb 32 (rsT s)).all rdb = true ∧ rdb (gd (spb 32 (hdT s)) 1) = true ∧ rdb (gd (spb 32 (hdT s)) 3) = true ∧ rdb (gd (spb 32 (hdT s)) 5) = true ∧ rP s = r ∧ mRiseText r = s := by
  obtain ⟨hv, rfl⟩ := rdR_some h
  have hvv := vRise_iff.1 hv
  have hnb := nums_back r.cs (vRise_nums hv)
  have n1 := rdv_itoa (n := r.reach) (by omega) (by omega)
  have n3 := rdv_itoa (n := r.setup) (by omega) (by omega)
  have n5 := rdv_itoa (n := r.easy) (by omega) (by omega)
  have hh : spb 32 (hdT (rsb r)) = [b_reach, bsq (itoa r.reach), b_setup, bsq (itoa r.setup), b_easy, bsq (itoa r.easy)] := by
    unfold spb hdT
    rw [rsb_list, rsL_cut hv, bsq_list, hdL_split]; rfl
  have hr : spb 32 (rsT (rsb r)) = (r.cs.map itoa).map bsq := by
    unfold spb rsT
    rw [rsb_list, rsL_cut hv, bsq_list, spl_jn 32 _ (by intro e; rw [List.map_eq_nil_iff] at e; rw [e] at hvv; simp at hvv) (fun x hx => by
      obtain ⟨y, _, rfl⟩ := List.mem_map.1 hx
      exact itoa_no32 _)]
  unfold rP
  rw [hh, hr]
  refine ⟨rfl, hnb.2, n1.2, n3.2, n5.2, ?_, by unfold mRiseText; rw [hv]; rfl⟩
  show RS.mk (((r.cs.map itoa).map bsq).map rdv) (rdv (bsq (itoa r.reach))) (rdv (bsq (itoa r.setup))) (rdv (bsq (itoa r.easy))) = r
  rw [hnb.1, n1.1, n3.1, n5.1]
theorem rdR_back {s : ByteArray} (h6 : (spb 32 (hdT s)).length = 6) {r : RS} (h : mRiseText r = s) : rdR s = some r := by
  cases hv : vRise r with
  | false =>
    unfold mRiseText at h
    rw [hv] at h
    have e : s = ⟨#[]⟩ := h.symm
    rw [e] at h6
    exact absurd h6 (by decide)
  | true =>
    unfold mRiseText at h
    rw [hv] at h
    have e : rsb r = s := h
    rw [← e]
    exact rdR_mk hv
end Go.Proofs.YtibbdlgganmklaaDoor
