/-
  Parts of the proof: RfP, LyP, PrP, Fmt2, Lay1.
-/
import Derived.Test.YtfgopboddkhckaaGreatDoorKa1
import Derived.Test.YtfgopboddkhckaaGreatDoorKa4
import Derived.Test.YtfgopboddkhckaaGreatDoorKa5
import Derived.Test.YtfgopboddkhckaaGreatDoorKa6
import Derived.LoopN
import Derived.BigQuiet
namespace Go.Proofs.YtfgopboddkhckaaGreatDoor
open Go.ChangeShapes Go.WideShapes Go.ChangeAt Go.RowKit Go.Sort Go.Joins
set_option linter.unusedVariables false

/-- The format of the words. -/
def rfF (p q : List ByteArray) : FM := ⟨rdv (gd q 0), rdv (gd q 1), rdv (gd q 2), rdv (gd p 1)⟩
def rfOk (p q : List ByteArray) : Bool := rdb (gd q 0) && rdb (gd q 1) && rdb (gd q 2) && rdb (gd p 1) && vF (rfF p q)
def mRF (s : ByteArray) : Option FM :=
  if (spb 43 s).length = 2 then
    if (spb 120 (gd (spb 43 s) 0)).length = 3 then
      if rfOk (spb 43 s) (spb 120 (gd (spb 43 s) 0)) = true then some (rfF (spb 43 s) (spb 120 (gd (spb 43 s) 0))) else none
    else none
  else none
def rfV (s : ByteArray) : FM := match mRF s with | some f => f | none => ⟨0, 0, 0, 0⟩
def rfB (s : ByteArray) : Bool := (mRF s).isSome
theorem rf_none {s : ByteArray} (h : mRF s = none) : rfV s = ⟨0, 0, 0, 0⟩ ∧ rfB s = false := by unfold rfV rfB; rw [h]; exact ⟨rfl, rfl⟩
theorem rf_some {s : ByteArray} {f : FM} (h : mRF s = some f) : rfV s = f ∧ rfB s = true := by unfold rfV rfB; rw [h]; exact ⟨rfl, rfl⟩
theorem fmT_list (f : FM) : (fmT f).data.toList = (Lib.itoa f.l ++ 120 :: (Lib.itoa f.w ++ 120 :: Lib.itoa f.h)) ++ 43 :: Lib.itoa f.j := by
  unfold fmT
  simp [ByteArray.data_append, itb]
theorem spb_of {b : UInt8} {s : ByteArray} {p : List (List UInt8)} (h : s.data.toList = jnL b p) (hp : p ≠ []) (hn : ∀ x ∈ p, b ∉ x) : spb b s = p.map bsq := by
  unfold spb; rw [h, spl_jn b p hp hn]
theorem fm_no {c : UInt8} (n : Int) (h : c = 43 ∨ c = 120) : c ∉ Lib.itoa n := by
  rcases h with rfl | rfl
  · exact itoa_no n (by decide) (.inl (by decide))
  · exact itoa_no n (by decide) (.inr (by decide))
theorem vF_small {f : FM} (h : vF f = true) : (-1000000000000000000 < f.l ∧ f.l < 1000000000000000000) ∧ (-1000000000000000000 < f.w ∧ f.w < 1000000000000000000) ∧ (-1000000000000000000 < f.h ∧ f.h < 1000000000000000000) ∧ (-1000000000000000000 < f.j ∧ f.j < 1000000000000000000) := by
  have := vF_bd h; omega
theorem rd_itb {n : Int} (h : -1000000000000000000 < n ∧ n < 1000000000000000000) : rdv (bsq (Lib.itoa n)) = n ∧ rdb (bsq (Lib.itoa n)) = true :=
  rd_some (s := bsq (Lib.itoa n)) (by rw [bsq_list]; exact rdec_itoa n h.1 h.2)
/-- The parts of a format's text. -/
theorem fmT_p (f : FM) : spb 43 (fmT f) = [bsq (Lib.itoa f.l ++ 120 :: (Lib.itoa f.w ++ 120 :: Lib.itoa f.h)), bsq (Lib.itoa f.j)] := by
  refine spb_of (p := [Lib.itoa f.l ++ 120 :: (Lib.itoa f.w ++ 120 :: Lib.itoa f.h), Lib.itoa f.j]) ?_ (by simp) ?_
  · rw [fmT_list, jnL_cons _ _ (by simp)]; rfl
  · intro x hx
    simp only [List.mem_cons, List.not_mem_nil, or_false] at hx
    rcases hx with rfl | rfl
    · simp only [List.mem_append, List.mem_cons, not_or]
      exact ⟨fm_no _ (.inl rfl), by decide, fm_no _ (.inl rfl), by decide, fm_no _ (.inl rfl)⟩
    · exact fm_no _ (.inl rfl)
theorem fmT_q (f : FM) : spb 120 (bsq (Lib.itoa f.l ++ 120 :: (Lib.itoa f.w ++ 120 :: Lib.itoa f.h))) = [bsq (Lib.itoa f.l), bsq (Lib.itoa f.w), bsq (Lib.itoa f.h)] := by
  refine spb_of (p := [Lib.itoa f.l, Lib.itoa f.w, Lib.itoa f.h]) ?_ (by simp) ?_
  · rw [bsq_list, jnL_cons _ _ (by simp), jnL_cons _ _ (by simp)]; rfl
  · intro x hx
    simp only [List.mem_cons, List.not_mem_nil, or_false] at hx
    rcases hx with rfl | rfl | rfl <;> exact fm_no _ (.inr rfl)
theorem mRF_made {f : FM} (h : vF f = true) : mRF (fmT f) = some f := by
  obtain ⟨h1, h2, h3, h4⟩ := vF_small h
  unfold mRF
  rw [fmT_p, if_pos (by rfl)]
  rw [show gd [bsq (Lib.itoa f.l ++ 120 :: (Lib.itoa f.w ++ 120 :: Lib.itoa f.h)), bsq (Lib.itoa f.j)] 0 = bsq (Lib.itoa f.l ++ 120 :: (Lib.itoa f.w ++ 120 :: Lib.itoa f.h)) from rfl, fmT_q, if_pos (by rfl)]
  have hf : rfF [bsq (Lib.itoa f.l ++ 120 :: (Lib.itoa f.w ++ 120 :: Lib.itoa f.h)), bsq (Lib.itoa f.j)] [bsq (Lib.itoa f.l), bsq (Lib.itoa f.w), bsq (Lib.itoa f.h)] = f := by
    show (⟨rdv (bsq (Lib.itoa f.l)), rdv (bsq (Lib.itoa f.w)), rdv (bsq (Lib.itoa f.h)), rdv (bsq (Lib.itoa f.j))⟩ : FM) = f
    rw [(rd_itb h1).1, (rd_itb h2).1, (rd_itb h3).1, (rd_itb h4).1]
  rw [hf, if_pos]
  unfold rfOk
  rw [hf, h]
  show (rdb (bsq (Lib.itoa f.l)) && rdb (bsq (Lib.itoa f.w)) && rdb (bsq (Lib.itoa f.h)) && rdb (bsq (Lib.itoa f.j)) && true) = true
  rw [(rd_itb h1).2, (rd_itb h2).2, (rd_itb h3).2, (rd_itb h4).2]
  rfl
theorem rdb_itoa {s : ByteArray} (h : rdb s = true) : s.data.toList = Lib.itoa (rdv s) := by
  unfold rdb at h
  unfold rdv
  cases hv : rdec s.data.toList with
  | none => rw [hv] at h; cases h
  | some v => exact rdec_itoa_eq hv
theorem spb_map (b : UInt8) (s : ByteArray) : (spb b s).map (·.data.toList) = splL b s.data.toList := by
  unfold spb; rw [List.map_map]
  conv => rhs; rw [← List.map_id (splL b s.data.toList)]
  exact List.map_congr_left fun x _ => rfl
theorem spb_join (b : UInt8) (s : ByteArray) : jnL b ((spb b s).map (·.data.toList)) = s.data.toList := by rw [spb_map, jn_spl]
theorem len2 {p : List ByteArray} (h : p.length = 2) : p = [gd p 0, gd p 1] := by
  match p, h with
  | [a, b], _ => rfl
theorem len3 {p : List ByteArray} (h : p.length = 3) : p = [gd p 0, gd p 1, gd p 2] := by
  match p, h with
  | [a, b, c], _ => rfl
theorem mRF_some {s : ByteArray} {f : FM} (h : mRF s = some f) : vF f = true ∧ s = fmT f := by
  unfold mRF at h
  split at h
  · rename_i h2
    split at h
    · rename_i h3
      split at h
      · rename_i hok
        injection h with h
        have hv : vF f = true := by
          unfold rfOk at hok
          simp only [Bool.and_eq_true] at hok
          rw [← h]; exact hok.2
        refine ⟨hv, ba_ext ?_⟩
        unfold rfOk at hok
        simp only [Bool.and_eq_true] at hok
        obtain ⟨⟨⟨⟨k0, k1⟩, k2⟩, k3⟩, _⟩ := hok
        have j1 := spb_join 43 s
        have j2 := spb_join 120 (gd (spb 43 s) 0)
        rw [len3 h3] at j2
        rw [len2 h2] at j1
        simp only [List.map_cons, List.map_nil] at j1 j2
        rw [jnL_cons _ _ (by simp)] at j1
        rw [jnL_cons _ _ (by simp), jnL_cons _ _ (by simp)] at j2
        rw [fmT_list, ← h, ← j1, ← j2]
        show _ = (Lib.itoa (rdv _) ++ 120 :: (Lib.itoa (rdv _) ++ 120 :: Lib.itoa (rdv _))) ++ 43 :: Lib.itoa (rdv _)
        rw [← rdb_itoa k0, ← rdb_itoa k1, ← rdb_itoa k2, ← rdb_itoa k3]
        rfl
      · cases h
    · cases h
  · cases h
/-! ### The program's words -/
def cutA (s : ByteArray) : ByteArray := bsq (Lib.cut s.data.toList [43]).1
def cutD (s : ByteArray) : ByteArray := bsq (Lib.cut s.data.toList [43]).2.1
def icF (s : ByteArray) : FM := ⟨gi ((spb 120 (cutA s)).map rdv) 0, gi ((spb 120 (cutA s)).map rdv) 1, gi ((spb 120 (cutA s)).map rdv) 2, rdv (cutD s)⟩
/-- A format's text; of one that is not valid, none. -/
def mFT (f : FM) : ByteArray := bif vF f then fmT f else ⟨#[]⟩
theorem cut_fm {f : FM} : cutA (fmT f) = bsq (Lib.itoa f.l ++ 120 :: (Lib.itoa f.w ++ 120 :: Lib.itoa f.h)) ∧ cutD (fmT f) = bsq (Lib.itoa f.j) := by
  have hn : (43 : UInt8) ∉ Lib.itoa f.l ++ 120 :: (Lib.itoa f.w ++ 120 :: Lib.itoa f.h) := by
    simp only [List.mem_append, List.mem_cons, not_or]
    exact ⟨fm_no _ (.inl rfl), by decide, fm_no _ (.inl rfl), by decide, fm_no _ (.inl rfl)⟩
  unfold cutA cutD
  rw [fmT_list]
  generalize Lib.itoa f.l ++ 120 :: (Lib.itoa f.w ++ 120 :: Lib.itoa f.h) = a at *
  generalize Lib.itoa f.j = d
  have e2 : (43 : UInt8) ∉ (a ++ 43 :: d).take a.length := by rw [List.take_left]; exact hn
  have e3 : (a ++ 43 :: d)[a.length]? = some 43 := by rw [List.getElem?_append_right (Nat.le_refl _)]; simp
  rcases index_one_cases 43 (a ++ 43 :: d) with ⟨h1, h2⟩ | ⟨i, h1, h2, h3⟩
  · exact absurd (List.mem_of_getElem? e3) h2
  · have hi : i = a.length := by
      rcases Nat.lt_trichotomy i a.length with q | q | q
      · exact absurd (List.mem_of_getElem? (by rw [List.getElem?_take_of_lt q]; exact h3)) e2
      · exact q
      · exact absurd (List.mem_of_getElem? (by rw [List.getElem?_take_of_lt q]; exact e3)) h2
    subst hi
    unfold Lib.cut
    rw [h1]
    simp
theorem rf_prog_no (s : ByteArray) (h : rdNs 120 (cutA s) 3 = false ∨ rdb (cutD s) = false) : mRF s = none := by
  cases hm : mRF s with
  | none => rfl
  | some f =>
    obtain ⟨hv, rfl⟩ := mRF_some hm
    obtain ⟨h1, h2, h3, h4⟩ := vF_small hv
    exfalso
    rw [cut_fm.1, cut_fm.2] at h
    rcases h with h | h
    · unfold rdNs at h
      rw [fmT_q] at h
      simp only [List.length_cons, List.length_nil, List.all_cons, List.all_nil, (rd_itb h1).2, (rd_itb h2).2, (rd_itb h3).2] at h
      simp at h
    · rw [(rd_itb h4).2] at h; cases h
theorem rf_prog (s : ByteArray) (h : rdNs 120 (cutA s) 3 = true) (h2 : rdb (cutD s) = true) : mRF s = if mFT (icF s) = s then some (icF s) else none := by
  have hc : ∀ f, vF f = true → s = fmT f → icF s = f := fun f hv hs => by
    obtain ⟨h1, h2, h3, h4⟩ := vF_small hv
    unfold icF
    rw [hs, cut_fm.1, cut_fm.2, fmT_q]
    show (⟨rdv (bsq (Lib.itoa f.l)), rdv (bsq (Lib.itoa f.w)), rdv (bsq (Lib.itoa f.h)), rdv (bsq (Lib.itoa f.j))⟩ : FM) = f
    rw [(rd_itb h1).1, (rd_itb h2).1, (rd_itb h3).1, (rd_itb h4).1]
  have hne : s ≠ ⟨#[]⟩ := by
    rintro rfl
    exact absurd h (by decide +kernel)
  cases hm : mRF s with
  | some f =>
    obtain ⟨hv, hs⟩ := mRF_some hm
    rw [hc f hv hs, if_pos]
    unfold mFT
    rw [hv, cond_true, ← hs]
  | none =>
    rw [if_neg]
    intro hq
    unfold mFT at hq
    cases hv : vF (icF s) with
    | false => rw [hv, cond_false] at hq; exact hne hq.symm
    | true =>
      rw [hv, cond_true] at hq
      have := mRF_made hv
      rw [hq, hm] at this
      cases this
end Go.Proofs.YtfgopboddkhckaaGreatDoor
namespace Go.Proofs.YtfgopboddkhckaaGreatDoor
open Go.ChangeShapes Go.WideShapes Go.ChangeAt Go.RowKit Go.Sort Go.Joins
set_option linter.unusedVariables false

/-- The i-th letter of a course that is not ended. -/
def ltr (c : CO) (i : Nat) : Int := if i < c.lead.size then byt c.lead i else byt c.cyc ((i - c.lead.size) % c.cyc.size)
/-- The quarters of the first i letters. -/
def atK (c : CO) : Nat → Int
  | 0 => 0
  | i + 1 => atK c i + qC (ltr c i)
theorem onl_at {p : Int → Bool} {s : ByteArray} {n i : Nat} (h : onl p s n = true) (hi : i < n) : p (byt s i) = true := by
  unfold onl at h
  exact List.all_eq_true.1 h i (by simpa using hi)
theorem qC_of_pc {y : Int} (h : pcC y = true) : 1 ≤ qC y := by
  have h1 := qC_pc y
  rw [h] at h1
  have h2 := qC_bd y
  have : qC y ≠ 0 := by simpa using h1
  omega
theorem pc_of_wh {y : Int} (h : whC y = true) : pcC y = true := by
  unfold whC at h
  unfold pcC
  simp only [Bool.or_eq_true] at h ⊢
  rcases h with h | h <;> simp [h]
theorem vC_parts {c : CO} (h : vC c = true) : c.lead.size ≤ 6 ∧ onl pcC c.lead c.lead.size = true ∧ 1 ≤ c.cyc.size ∧ c.cyc.size ≤ 8 ∧ onl whC c.cyc c.cyc.size = true := by
  unfold vC at h
  simp only [Bool.and_eq_true, decide_eq_true_eq] at h
  have h2 := inB_iff.1 h.1.2
  exact ⟨h.1.1.1, h.1.1.2, by omega, by omega, h.2⟩
theorem ltr_pc {c : CO} (h : vC c = true) (i : Nat) : pcC (ltr c i) = true := by
  obtain ⟨h1, h2, h3, h4, h5⟩ := vC_parts h
  unfold ltr
  split
  · rename_i hi
    exact onl_at h2 hi
  · exact pc_of_wh (onl_at h5 (Nat.mod_lt _ (by omega)))
theorem ltr_q {c : CO} (h : vC c = true) (i : Nat) : 1 ≤ qC (ltr c i) ∧ qC (ltr c i) ≤ 4 := ⟨qC_of_pc (ltr_pc h i), (qC_bd _).2⟩
theorem ltr_bd (c : CO) (i : Nat) : 0 ≤ ltr c i ∧ ltr c i ≤ 255 := by
  unfold ltr
  split <;> exact byt_bd _ _
theorem atK_bd {c : CO} (h : vC c = true) (i : Nat) : (i : Int) ≤ atK c i ∧ atK c i ≤ 4 * i := by
  induction i with
  | zero => exact ⟨Int.le_refl _, by simp [atK]⟩
  | succ i ih => have := ltr_q h i; unfold atK; omega
/-- How many whole letters a course with a length has. -/
def layN (c : CO) (L : Int) : Nat → Nat → Nat
  | 0, i => i
  | f + 1, i => if L < atK c (i + 1) then i else layN c L f (i + 1)
def lenN (c : CO) (L : Int) : Nat := layN c L 201 0
/-- The last piece, cut. -/
def lastC (r : Int) : List UInt8 := if r = 1 then [67] else if r = 2 then [66] else if r = 3 then [84] else []
def layL (c : CO) (n : Nat) : List UInt8 := (List.range n).map fun i => (ltr c i).toNat.toUInt8
theorem layL_succ (c : CO) (n : Nat) : layL c (n + 1) = layL c n ++ [(ltr c n).toNat.toUInt8] := by simp [layL, List.range_succ]
theorem layL_len (c : CO) (n : Nat) : (layL c n).length = n := by simp [layL]
def layT (c : CO) (L : Int) : ByteArray := ⟨(layL c (lenN c L) ++ lastC (L - atK c (lenN c L))).toArray⟩
/-- Where a search for the end stands. -/
def LayAt (c : CO) (L : Int) (k : Nat) : Prop := k ≤ 200 ∧ atK c k ≤ L ∧ layN c L (201 - k) k = lenN c L
theorem LayAt.zero {c : CO} {L : Int} (h : 0 ≤ L) : LayAt c L 0 := ⟨by omega, by simpa [atK] using h, rfl⟩
theorem LayAt.next {c : CO} {L : Int} {k : Nat} (hv : vC c = true) (h : LayAt c L k) (hL : L ≤ 200) (hn : ¬ L < atK c (k + 1)) : LayAt c L (k + 1) := by
  obtain ⟨h1, h2, h3⟩ := h
  have h4 := atK_bd hv (k + 1)
  refine ⟨by omega, by omega, ?_⟩
  rw [← h3, show 201 - k = (201 - (k + 1)) + 1 from by omega]
  rw [layN, if_neg hn]
theorem LayAt.stop {c : CO} {L : Int} {k : Nat} (h : LayAt c L k) (hn : L < atK c (k + 1)) : lenN c L = k := by
  obtain ⟨h1, h2, h3⟩ := h
  rw [← h3, show 201 - k = (200 - k) + 1 from by omega, layN, if_pos hn]
end Go.Proofs.YtfgopboddkhckaaGreatDoor
namespace Go.Proofs.YtfgopboddkhckaaGreatDoor
set_option linter.unusedVariables false

/-- A pair of (the rests of) two courses: cut pieces, pieces, both texts. -/
structure PV where
  c : Nat
  p : Nat
  lo : List UInt8
  hi : List UInt8
deriving DecidableEq
def PV.zero : PV := ⟨0, 0, [], []⟩
instance : Inhabited PV := ⟨PV.zero⟩

/-- Texts in the order of their bytes. -/
def tlt : List UInt8 → List UInt8 → Bool
  | _, [] => false
  | [], _ :: _ => true
  | a :: x, b :: y => decide (a < b) || (decide (a = b) && tlt x y)
theorem tlt_irrefl : ∀ x, tlt x x = false
  | [] => rfl
  | a :: x => by simp [tlt, tlt_irrefl x]
theorem u8_lt {a b : UInt8} : a < b ↔ a.toNat < b.toNat := UInt8.lt_iff_toNat_lt
theorem u8_eq {a b : UInt8} : a = b ↔ a.toNat = b.toNat := ⟨fun h => by rw [h], fun h => UInt8.toNat_inj.1 h⟩
theorem tlt_trans : ∀ {x y z : List UInt8}, tlt x y = true → tlt y z = true → tlt x z = true
  | _, _, [], _, h2 => by cases ‹List UInt8› <;> simp [tlt] at h2
  | [], _, _ :: _, _, _ => rfl
  | a :: x, [], c :: z, h1, _ => by simp [tlt] at h1
  | a :: x, b :: y, c :: z, h1, h2 => by
    simp only [tlt, Bool.or_eq_true, Bool.and_eq_true, decide_eq_true_eq, u8_lt, u8_eq] at h1 h2 ⊢
    rcases h1 with h1 | ⟨h1, h1'⟩ <;> rcases h2 with h2 | ⟨h2, h2'⟩
    · left; omega
    · left; omega
    · left; omega
    · right; exact ⟨by omega, tlt_trans h1' h2'⟩
theorem tlt_tri : ∀ (x y : List UInt8), tlt x y = false → tlt y x = false → x = y
  | [], [], _, _ => rfl
  | [], _ :: _, h, _ => by simp [tlt] at h
  | _ :: _, [], _, h => by simp [tlt] at h
  | a :: x, b :: y, h1, h2 => by
    simp only [tlt, Bool.or_eq_false_iff, Bool.and_eq_false_iff, decide_eq_false_iff_not, u8_lt, u8_eq] at h1 h2
    have hab : a = b := by rw [u8_eq]; omega
    subst hab
    rw [tlt_tri x y (by rcases h1.2 with h | h; exact absurd rfl h; exact h) (by rcases h2.2 with h | h; exact absurd rfl h; exact h)]

/-- Is a pair better than another one? -/
def plt (x y : PV) : Prop := x.c < y.c ∨ (x.c = y.c ∧ (x.p < y.p ∨ (x.p = y.p ∧ (tlt x.lo y.lo = true ∨ (x.lo = y.lo ∧ tlt x.hi y.hi = true)))))
instance (x y : PV) : Decidable (plt x y) := by unfold plt; infer_instance
theorem plt_trans {x y z : PV} (h : plt x y) (k : plt y z) : plt x z := by
  unfold plt at *
  rcases h with h | ⟨h1, h | ⟨h2, h | ⟨h3, h⟩⟩⟩ <;> rcases k with k | ⟨k1, k | ⟨k2, k | ⟨k3, k⟩⟩⟩
  all_goals first
    | (left; omega)
    | (right; exact ⟨by omega, .inl (by omega)⟩)
    | exact .inr ⟨by omega, .inr ⟨by omega, .inl (tlt_trans h k)⟩⟩
    | exact .inr ⟨by omega, .inr ⟨by omega, .inl (k3 ▸ h)⟩⟩
    | exact .inr ⟨by omega, .inr ⟨by omega, .inl (h3 ▸ k)⟩⟩
    | exact .inr ⟨by omega, .inr ⟨by omega, .inr ⟨h3.trans k3, tlt_trans h k⟩⟩⟩
theorem plt_tri {x y : PV} (h : ¬ plt x y) (k : ¬ plt y x) : x = y := by
  obtain ⟨c, p, l, t⟩ := x
  obtain ⟨c', p', l', t'⟩ := y
  unfold plt at *
  simp only at h k
  obtain rfl : c = c' := by omega
  obtain rfl : p = p' := by
    rcases Nat.lt_trichotomy p p' with q | q | q
    · exact absurd (.inr ⟨rfl, .inl q⟩) h
    · exact q
    · exact absurd (.inr ⟨rfl, .inl q⟩) k
  have h1 : tlt l l' = false := by
    cases hh : tlt l l' with
    | false => rfl
    | true => exact absurd (.inr ⟨rfl, .inr ⟨rfl, .inl hh⟩⟩) h
  have h2 : tlt l' l = false := by
    cases hh : tlt l' l with
    | false => rfl
    | true => exact absurd (.inr ⟨rfl, .inr ⟨rfl, .inl hh⟩⟩) k
  obtain rfl := tlt_tri _ _ h1 h2
  have h3 : tlt t t' = false := by
    cases hh : tlt t t' with
    | false => rfl
    | true => exact absurd (.inr ⟨rfl, .inr ⟨rfl, .inr ⟨rfl, hh⟩⟩⟩) h
  have h4 : tlt t' t = false := by
    cases hh : tlt t' t with
    | false => rfl
    | true => exact absurd (.inr ⟨rfl, .inr ⟨rfl, .inr ⟨rfl, hh⟩⟩⟩) k
  rw [tlt_tri _ _ h3 h4]
theorem not_plt_trans {x y z : PV} (h : ¬ plt y x) (k : ¬ plt z y) : ¬ plt z x := by
  intro q
  by_cases e : plt x y
  · exact k (plt_trans q e)
  · have := plt_tri e h
    subst this
    exact k q

/-- The better one of what was found so far and one more. -/
def pick (acc : Option PV) (x : Option PV) : Option PV :=
  match x with
  | none => acc
  | some v => match acc with
    | none => some v
    | some a => if plt v a then some v else some a
/-- r is the least of S; none: S is empty. -/
def Least (S : PV → Prop) (r : Option PV) : Prop :=
  match r with
  | none => ∀ x, ¬ S x
  | some v => S v ∧ ∀ x, S x → ¬ plt x v
theorem Least.congr {S T : PV → Prop} {r : Option PV} (h : Least S r) (e : ∀ v, S v ↔ T v) : Least T r := by
  rw [← show S = T from funext fun v => propext (e v)]; exact h
theorem Least.none' : Least (fun _ => False) none := fun _ h => h
theorem Least.pick {S T : PV → Prop} {r s : Option PV} (h : Least S r) (k : Least T s) : Least (fun v => S v ∨ T v) (pick r s) := by
  cases s with
  | none =>
    exact h.congr fun v => ⟨.inl, fun q => q.elim id fun t => absurd t (k v)⟩
  | some v => cases r with
    | none => exact Least.congr (S := T) k fun u => ⟨.inr, fun q => q.elim (fun t => absurd t (h u)) id⟩
    | some a =>
      show Least _ (if plt v a then some v else some a)
      by_cases e : plt v a
      · rw [if_pos e]
        refine ⟨.inr k.1, fun x hx => ?_⟩
        rcases hx with hx | hx
        · exact fun q => h.2 x hx (plt_trans q e)
        · exact k.2 x hx
      · rw [if_neg e]
        refine ⟨.inl h.1, fun x hx => ?_⟩
        rcases hx with hx | hx
        · exact h.2 x hx
        · exact not_plt_trans e (k.2 x hx)
theorem Least.map {S : PV → Prop} {r : Option PV} (h : Least S r) (f : PV → PV) (hf : ∀ x y, plt (f x) (f y) → plt x y) : Least (fun v => ∃ u, S u ∧ v = f u) (r.map f) := by
  cases r with
  | none => exact fun x ⟨u, hu, _⟩ => h u hu
  | some v => exact ⟨⟨v, h.1, rfl⟩, fun x ⟨u, hu, e⟩ => by rw [e]; exact fun q => h.2 u hu (hf _ _ q)⟩

/-- The letter of a piece with so many quarters, and is it cut? -/
def let8 (q : Nat) : UInt8 := if q = 1 then 67 else if q = 2 then 72 else if q = 3 then 84 else 83
def cut8 (q : Nat) : Nat := if q = 1 then 1 else if q = 3 then 1 else 0
def preLo (q : Nat) (v : PV) : PV := ⟨v.c + cut8 q, v.p + 1, let8 q :: v.lo, v.hi⟩
def preHi (q : Nat) (v : PV) : PV := ⟨v.c + cut8 q, v.p + 1, v.lo, let8 q :: v.hi⟩
/-- Two places that do not clash. -/
def far (L P e f : Nat) : Prop := e = 0 ∨ f = 0 ∨ L ≤ e ∨ L ≤ f ∨ e + P ≤ f ∨ f + P ≤ e
instance (L P e f : Nat) : Decidable (far L P e f) := by unfold far; infer_instance
def txt (x : List Nat) : List UInt8 := x.map let8
def cutsL (x : List Nat) : Nat := (x.map cut8).sum
def val (x y : List Nat) : PV := ⟨cutsL x + cutsL y, x.length + y.length, txt x, txt y⟩
/-- May pieces end, or go on, behind a state of the program's search? -/
def may (L P at_ low high : Nat) (a b : Bool) : Bool :=
  if (!a && decide (at_ + 1 - low > 3)) || (!b && decide (at_ + 1 - high > 3)) then false
  else if at_ + 1 = L then a && b
  else !(a && b) && !(a && (decide (0 < high) && decide (at_ + 1 - high < P))) && !(b && (decide (0 < low) && decide (at_ + 1 - low < P)))
/-- One state on. -/
def pre (nx low high : Nat) (a b : Bool) (v : PV) : PV :=
  let v1 := if a then preLo (nx - low) v else v
  if b then preHi (nx - high) v1 else v1
/-- What the program finds from a state on; n quarters are left. -/
def pB (L P : Nat) : Nat → Nat → Nat → Nat → Option PV
  | 0, _, _, _ => some PV.zero
  | n + 1, at_, low, high =>
    [(false, false), (true, false), (false, true), (true, true)].foldl (fun acc (c : Bool × Bool) =>
      pick acc (if may L P at_ low high c.1 c.2 = true then (pB L P n (at_ + 1) (if c.1 then at_ + 1 else low) (if c.2 then at_ + 1 else high)).map (pre (at_ + 1) low high c.1 c.2) else none)) none
end Go.Proofs.YtfgopboddkhckaaGreatDoor
namespace Go.Proofs.YtfgopboddkhckaaGreatDoor
open Go.ChangeShapes Go.WideShapes Go.ChangeAt Go.RowKit Go.Sort Go.Joins
set_option linter.unusedVariables false
set_option maxRecDepth 100000

/-- The greatest common divisor with 4. -/
def g4 (a : Int) : Int := if a % 4 = 0 then 4 else if a % 4 = 2 then 2 else 1
theorem tmod4 {a : Int} (h : 0 ≤ a) : Int.tmod a 4 = a % 4 := Int.tmod_eq_emod_of_nonneg h
set_option maxHeartbeats 1600000 in
theorem impl_gcd4 (a : Int) (h0 : 0 ≤ a) (h1 : a ≤ 1000000) (w : World) : Calls Tryz.prog 216 #[.int .i64 a, .int .i64 4] w (Ret (.int .i64 (g4 a)) w) := by
  have ht := tmod4 h0
  have HG : Hid (g4 a = if a % 4 = 0 then 4 else if a % 4 = 2 then 2 else 1) := Lib.hid rfl
  rcases (show a % 4 = 0 ∨ a % 4 = 1 ∨ a % 4 = 2 ∨ a % 4 = 3 by omega) with hr | hr | hr | hr
  all_goals
    rw [hr] at ht HG
    clear hr
    go_enter Tryz.func216, Tryz.ntmps216
    go_wp2_with fail
    refine wp_loop_rounds 6 ?_
    repeat (rw [rounds_succ]; go_wp2_with fail; (try (go_quiet (fail); (try rename Nat => n1); go_wp2_with fail)))
    go_ret
    refine ⟨ret_int (by rw [HG.out]; rfl), ?_⟩
    repeat (first | exact ext_refl _ | refine ext_drewN ?_ _ | refine ext_drew ?_)
theorem g4_cases (a : Int) : g4 a = 1 ∨ g4 a = 2 ∨ g4 a = 4 := by unfold g4; split <;> (try split) <;> simp
theorem tdiv_bd {a g : Int} (h0 : 0 ≤ a) (h1 : a ≤ 1000000) (hg : 1 ≤ g) : 0 ≤ Int.tdiv a g ∧ Int.tdiv a g ≤ 1000000 := by
  rw [Int.tdiv_eq_ediv_of_nonneg h0]
  have h2 := Int.ediv_nonneg h0 (show 0 ≤ g by omega)
  have h3 := Int.ediv_le_self g h0
  omega
set_option maxHeartbeats 1600000 in
theorem impl_lowest4 (a : Int) (h0 : 0 ≤ a) (h1 : a ≤ 1000000) (w : World) : Calls Tryz.prog 165 #[.int .i64 a, .int .i64 4] w (Ret (.agg #[.int .i64 (Int.tdiv a (g4 a)), .int .i64 (Int.tdiv 4 (g4 a))]) w) := by
  have HC := Lib.hid (fun w => impl_gcd4 a h0 h1 w)
  have hg := g4_cases a
  obtain ⟨g, hgg⟩ : ∃ g, g4 a = g := ⟨_, rfl⟩
  rw [hgg] at HC hg ⊢
  clear hgg
  have hb1 := tdiv_bd h0 h1 (show 1 ≤ g by omega)
  have hb2 := tdiv_bd (a := 4) (g := g) (by omega) (by omega) (by omega)
  have hg0 : ¬ g = 0 := by omega
  have hg1 : (g == 0) = false := beq_eq_false_iff_ne.2 hg0
  go_enter Tryz.func165, Tryz.ntmps165
  go_wp2_with fail
  skip
  refine (show Calls _ _ _ _ _ from HC.out _).mono ?_
  rintro e w1 ⟨rfl, hb⟩
  have r0 := cell_keep (p := ⟨w.heap.size, 0, none⟩) (v := .int .i64 0) (by simp [go_sem]) hb
  have r1 := cell_keep (p := ⟨w.heap.size, 1, none⟩) (v := .int .i64 0) (by simp [go_sem]) hb
  have rz : ∀ j, w1.frozen? ⟨w.heap.size, j, none⟩ = false := fun j => by rw [(bcell hb).2 _ _ (by simp)]; simp [go_sem]
  have HB := Lib.hid (ext_trans (ext_alloc1 _ _) hb)
  clear hb
  go_wp2_with fail
  go_region
  all_goals
    go_wp2_with fail
    refine bodyPost_ret (v := .agg #[.int .i64 (Int.tdiv a g), .int .i64 (Int.tdiv 4 g)]) (by simp [results, Tryz.results165, go_sem, r0, r1]) rfl ⟨rfl, ?_⟩
    exact ext_drew (ext_set (ext_set HB.out (Nat.le_refl _) _) (Nat.le_refl _) _)
def mNum (f : FM) (n : Int) : Int := n * (f.l + f.j) - 4 * f.j
def mLen (f : FM) (n : Int) : Int × Int × Int := if fmC f n 1 200 = 0 then (Int.tdiv (mNum f n) (g4 (mNum f n)), Int.tdiv 4 (g4 (mNum f n)), 0) else (0, 0, fmC f n 1 200)
set_option maxHeartbeats 1600000 in
theorem impl_LengthOf (f : FM) (n : Int) (w : World) :
    Calls Tryz.prog 96 #[.agg #[.int .i64 f.l, .int .i64 f.w, .int .i64 f.h, .int .i64 f.j], .int .i64 n] w (Ret (.tuple #[.agg #[.int .i64 (mLen f n).1, .int .i64 (mLen f n).2.1], .int .i64 (mLen f n).2.2]) w) := by
  have HM : Hid (mLen f n = if fmC f n 1 200 = 0 then (Int.tdiv (mNum f n) (g4 (mNum f n)), Int.tdiv 4 (g4 (mNum f n)), 0) else (0, 0, fmC f n 1 200)) := Lib.hid rfl
  have HC := Lib.hid (fun w => impl_fmC f n 1 200 w)
  obtain ⟨z, hz⟩ : ∃ z, fmC f n 1 200 = z := ⟨_, rfl⟩
  by_cases hz0 : z = 0
  · rw [hz0] at hz
    obtain ⟨h1, h2, h3⟩ := fmC_ok hz
    obtain ⟨b1, b2, _, _, _, _, b3, b4, _⟩ := vF_bd h1
    rw [hz, if_pos rfl] at HM
    rw [hz] at HC
    have HN : Hid (mNum f n = n * (f.l + f.j) - 4 * f.j) := Lib.hid rfl
    clear hz hz0 h1
    obtain ⟨l, hw, h, j⟩ := f
    dsimp only at *
    have hp : 100 + j ≤ n * (l + j) ∧ n * (l + j) ≤ 104000 := by
      have k1 : 1 * (l + j) ≤ n * (l + j) := Int.mul_le_mul_of_nonneg_right (by omega) (by omega)
      have k2 : n * (l + j) ≤ 200 * 520 := Int.mul_le_mul (by omega) (by omega) (by omega) (by omega)
      omega
    have HL := Lib.hid (fun w => impl_lowest4 (n * (l + j) - 4 * j) (by omega) (by omega) w)
    go_enter Tryz.func96, Tryz.ntmps96
    go_wp2_with fail
    refine (show Calls _ _ _ _ _ from HC.out _).mono ?_
    rintro e w1 ⟨rfl, hb⟩
    have k0 := cell_keep (p := ⟨w.heap.size, 0, none⟩) (v := .int .i64 l) (by simp [go_sem]) hb
    have k3 := cell_keep (p := ⟨w.heap.size, 3, none⟩) (v := .int .i64 j) (by simp [go_sem]) hb
    have r0 := cell_keep (p := ⟨w.heap.size + 1, 0, none⟩) (v := .int .i64 0) (by simp [go_sem]) hb
    have r1 := cell_keep (p := ⟨w.heap.size + 1, 1, none⟩) (v := .int .i64 0) (by simp [go_sem]) hb
    have rz : ∀ i, w1.frozen? ⟨w.heap.size + 1, i, none⟩ = false := fun i => by rw [(bcell hb).2 _ _ (by simp)]; simp [go_sem]
    have HB := Lib.hid (ext_trans (ext_alloc (ext_alloc1 w _) _) hb)
    clear hb
    go_wp2_with fail
    have hrl := block_lt_of_cell r0
    refine (show Calls _ _ _ _ _ from HL.out _).mono ?_
    rintro e w2 ⟨rfl, hb⟩
    replace r0 := cell_keep r0 hb
    replace r1 := cell_keep r1 hb
    have rz2 : ∀ i, w2.frozen? ⟨w.heap.size + 1, i, none⟩ = false := fun i => by rw [(bcell hb).2 _ _ hrl]; exact rz i
    have HB2 := Lib.hid (ext_trans HB.out hb)
    clear hb k0 k3
    have HM2 : Hid (mLen ⟨l, hw, h, j⟩ n = (Int.tdiv (n * (l + j) - 4 * j) (g4 (n * (l + j) - 4 * j)), Int.tdiv 4 (g4 (n * (l + j) - 4 * j)), 0)) := Lib.hid HM.out
    clear HM
    generalize Int.tdiv 4 (g4 (n * (l + j) - 4 * j)) = q2 at *
    generalize Int.tdiv (n * (l + j) - 4 * j) (g4 (n * (l + j) - 4 * j)) = q1 at *
    go_wp2_with fail
    refine bodyPost_ret (v := .tuple #[.agg #[.int .i64 q1, .int .i64 q2], .int .i64 0]) (by simp [results, Tryz.results96, go_sem, r0, r1]) rfl ⟨by rw [HM2.out], ?_⟩
    exact ext_set (ext_set HB2.out (Nat.le_succ _) _) (Nat.le_succ _) _
  · rw [hz, if_neg hz0] at HM
    rw [hz] at HC
    have e1 : (z == 0) = false := beq_eq_false_iff_ne.2 hz0
    have e2 : (z != 0) = true := bne_iff_ne.2 hz0
    clear hz
    go_enter Tryz.func96, Tryz.ntmps96
    go_wp2_with fail
    refine (show Calls _ _ _ _ _ from HC.out _).mono ?_
    rintro e w1 ⟨rfl, hb⟩
    have r0 := cell_keep (p := ⟨w.heap.size + 1, 0, none⟩) (v := .int .i64 0) (by simp [go_sem]) hb
    have r1 := cell_keep (p := ⟨w.heap.size + 1, 1, none⟩) (v := .int .i64 0) (by simp [go_sem]) hb
    have rz : ∀ i, w1.frozen? ⟨w.heap.size + 1, i, none⟩ = false := fun i => by rw [(bcell hb).2 _ _ (by simp)]; simp [go_sem]
    have HB := Lib.hid (ext_trans (ext_alloc (ext_alloc1 w _) _) hb)
    clear hb
    go_wp2_with fail
    refine bodyPost_ret (v := .tuple #[.agg #[.int .i64 0, .int .i64 0], .int .i64 z]) (by simp [results, Tryz.results96, go_sem, r0, r1]) rfl ⟨by rw [HM.out], ?_⟩
    repeat (first | exact HB.out | refine ext_set ?_ (Nat.le_succ _) _)
end Go.Proofs.YtfgopboddkhckaaGreatDoor
namespace Go.Proofs.YtfgopboddkhckaaGreatDoor
open Go.ChangeShapes Go.WideShapes Go.ChangeAt Go.RowKit Go.Sort Go.Joins
set_option linter.unusedVariables false
set_option maxRecDepth 100000

set_option maxHeartbeats 1600000 in
theorem impl_piece (c : CO) (i : Nat) (hv : vC c = true) (hi : i ≤ 1000) (w : World) :
    Calls Tryz.prog 209 #[.agg #[.string c.lead, .string c.cyc], .int .i64 i] w (Ret (.int .u8 (ltr c i)) w) := by
  obtain ⟨h1, _, h3, h4, _⟩ := vC_parts hv
  clear hv
  obtain ⟨a, b⟩ := c
  dsimp only at *
  have e0 : (0 : Int) ≤ i := by omega
  by_cases hlt : i < a.size
  · have e1 : (i : Int) < a.size := by omega
    have hy := byt_eq a i hlt
    have HL : Hid (ltr ⟨a, b⟩ i = byt a i) := Lib.hid (by unfold ltr; rw [if_pos hlt])
    obtain ⟨y, hyy⟩ : ∃ y, byt a i = y := ⟨_, rfl⟩
    rw [hyy] at hy HL
    clear hyy
    go_enter Tryz.func209, Tryz.ntmps209
    go_wp2_with fail
    go_ret
    exact ⟨by rw [HL.out]; rfl, ext_alloc1 _ _⟩
  · have e1 : ¬ (i : Int) < a.size := by omega
    obtain ⟨r, hr⟩ : ∃ r, (i - a.size) % b.size = r := ⟨_, rfl⟩
    have hrb : r < b.size := by rw [← hr]; exact Nat.mod_lt _ (by omega)
    have ht : ((i : Int) - (a.size : Int)).tmod (b.size : Int) = (r : Int) := by
      rw [Int.tmod_eq_emod_of_nonneg (by omega), ← hr, show (i : Int) - (a.size : Int) = ((i - a.size : Nat) : Int) by omega]
      rfl
    have hy := byt_eq b r hrb
    have HL : Hid (ltr ⟨a, b⟩ i = byt b r) := Lib.hid (by unfold ltr; rw [if_neg hlt]; show byt b ((i - a.size) % b.size) = byt b r; rw [hr])
    obtain ⟨y, hyy⟩ : ∃ y, byt b r = y := ⟨_, rfl⟩
    rw [hyy] at hy HL
    have e2 : (0 : Int) ≤ r := by omega
    have e3 : (r : Int) < b.size := by omega
    have e4 : ((b.size : Int) == 0) = false := beq_eq_false_iff_ne.2 (by omega)
    have e5 : ¬ (b.size : Int) = 0 := by omega
    clear hyy hr
    go_enter Tryz.func209, Tryz.ntmps209
    go_wp2_with fail
    go_quiet (fail)
    go_wp2_with fail
    go_ret
    exact ⟨by rw [HL.out]; rfl, ext_drewN (ext_alloc1 _ _) _⟩
set_option maxHeartbeats 1600000 in
theorem impl_course (A : Option Addr) (c : Nat) (nm : ByteArray) (cs : List CO) (k : Nat) (hk : k ≤ 1000) (h1 : 1 ≤ cs.length) (h8 : cs.length ≤ 8) (w : World) (ha : RCOS w (.slice A cs.length c) cs) :
    Calls Tryz.prog 208 #[.agg #[.string nm, .slice A cs.length c], .int .i64 k] w (Ret (.agg #[.string (gd cs (k % cs.length)).lead, .string (gd cs (k % cs.length)).cyc]) w) := by
  obtain ⟨r, hr⟩ : ∃ r, k % cs.length = r := ⟨_, rfl⟩
  have hrb : r < cs.length := by rw [← hr]; exact Nat.mod_lt _ (by omega)
  have ht : (k : Int).tmod (cs.length : Int) = (r : Int) := by rw [Int.tmod_eq_emod_of_nonneg (by omega), ← hr]; rfl
  rw [hr]
  obtain ⟨ad, rfl, hbd, hc⟩ := ha.at hrb
  obtain ⟨p0, p1⟩ := hc r hrb
  obtain ⟨o, ho⟩ : ∃ o, gd cs r = o := ⟨_, rfl⟩
  rw [ho] at p0 p1
  rw [ho]
  have hb1 := ext_alloc (ext_alloc1 w (.cells #[.string nm, .slice (some ad) cs.length c] 36)) (.cells #[.string ⟨#[]⟩, .string ⟨#[]⟩] 102)
  have q0 := cell_keep p0 (ext_drew hb1)
  have q1 := cell_keep p1 (ext_drew hb1)
  have e0 : (0 : Int) ≤ r := by omega
  have e1 : (r : Int) < cs.length := by omega
  have e2 : ((cs.length : Int) == 0) = false := beq_eq_false_iff_ne.2 (by omega)
  have e3 : ¬ (cs.length : Int) = 0 := by omega
  clear hc ho hr hb1 p0 p1
  go_enter Tryz.func208, Tryz.ntmps208
  go_wp2_with fail
  go_region
  all_goals
    go_wp2_with fail
    refine bodyPost_ret (v := .agg #[.string o.lead, .string o.cyc]) (by simp [results, Tryz.results208, go_sem]) rfl ⟨rfl, ?_⟩
    exact ext_drew (ext_alloc (ext_alloc1 w _) _)
end Go.Proofs.YtfgopboddkhckaaGreatDoor
