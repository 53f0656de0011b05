/-
  Parts of the proof: RfP, LyP, PrP.
-/
import Derived.Test.YtfgopboddkhckaaGreatDoorKw8
namespace Go.Proofs.YtfgopboddkhckaaGreatDoor
open Go.ChangeShapes Go.WideShapes Go.ChangeAt Go.RowKit Go.Sort Go.Joins
set_option linter.unusedVariables false
def rfF (p q : List ByteArray) : FM := ⟨rdv (gd q 0), rdv (gd q 1), rdv (gd q 2), rdv (gd p 1)⟩
def rfOk (p q : List ByteArray) : Bool := rdb (gd q 0) && rdb (gd q 1) && rdb (gd q 2) && rdb (gd p 1) && vF (rfF p q)
def mRF (s : ByteArray) : Option FM :=
 if (spb 43 s).length = 2 then
   if (spb 120 (gd (spb 43 s) 0)).length = 3 then
     if rfOk (spb 43 s) (spb 120 (gd (spb 43 s) 0)) = true then some (rfF (spb 43 s) (spb 120 (gd (spb 43 s) 0))) else none
   else none
 else none
def rfV (s : ByteArray) : FM := match mRF s with | some f => f | none => ⟨0, 0, 0, 0⟩
def rfB (s : ByteArray) : Bool := (mRF s).isSome
theorem rf_none {s : ByteArray} (h : mRF s = none) : rfV s = ⟨0, 0, 0, 0⟩ ∧ rfB s = false := by unfold rfV rfB; rw [h]; exact ⟨rfl, rfl⟩
theorem rf_some {s : ByteArray} {f : FM} (h : mRF s = some f) : rfV s = f ∧ rfB s = true := by unfold rfV rfB; rw [h]; exact ⟨rfl, rfl⟩
theorem fmT_list (f : FM) : (fmT f).data.toList = (Lib.itoa f.l ++ 120 :: (Lib.itoa f.w ++ 120 :: Lib.itoa f.h)) ++ 43 :: Lib.itoa f.j := by
 unfold fmT
 simp [ByteArray.data_append, itb]
theorem spb_of {b : UInt8} {s : ByteArray} {p : List (List UInt8)} (h : s.data.toList = jnL b p) (hp : p ≠ []) (hn : ∀ x ∈ p, b ∉ x) : spb b s = p.map bsq := by
 unfold spb; rw [h, spl_jn b p hp hn]
theorem fm_no {c : UInt8} (n : Int) (h : c = 43 ∨ c = 120) : c ∉ Lib.itoa n := by
 rcases h with rfl | rfl
 · exact itoa_no n (by decide) (.inl (by decide))
 · exact itoa_no n (by decide) (.inr (by decide))
theorem vF_small {f : FM} (h : vF f = true) : (-1000000000000000000 < f.l ∧ f.l < 1000000000000000000) ∧ (-1000000000000000000 < f.w ∧ f.w < 1000000000000000000) ∧ (-1000000000000000000 < f.h ∧ f.h < 1000000000000000000) ∧ (-1000000000000000000 < f.j ∧ f.j < 1000000000000000000) := by
 have := vF_bd h; omega
theorem rd_itb {n : Int} (h : -1000000000000000000 < n ∧ n < 1000000000000000000) : rdv (bsq (Lib.itoa n)) = n ∧ rdb (bsq (Lib.itoa n)) = true :=
 rd_some (s := bsq (Lib.itoa n)) (by rw [bsq_list]; exact rdec_itoa n h.1 h.2)
theorem fmT_p (f : FM) : spb 43 (fmT f) = [bsq (Lib.itoa f.l ++ 120 :: (Lib.itoa f.w ++ 120 :: Lib.itoa f.h)), bsq (Lib.itoa f.j)] := by
 refine spb_of (p := [Lib.itoa f.l ++ 120 :: (Lib.itoa f.w ++ 120 :: Lib.itoa f.h), Lib.itoa f.j]) ?_ (by simp) ?_
 · rw [fmT_list, jnL_cons _ _ (by simp)]; rfl
 · intro x hx
   simp only [List.mem_cons, List.not_mem_nil, or_false] at hx
   rcases hx with rfl | rfl
   · simp only [List.mem_append, List.mem_cons, not_or]
     exact ⟨fm_no _ (.inl rfl), by decide, fm_no _ (.inl rfl), by decide, fm_no _ (.inl rfl)⟩
   · exact fm_no _ (.inl rfl)
theorem fmT_q (f : FM) : spb 120 (bsq (Lib.itoa f.l ++ 120 :: (Lib.itoa f.w ++ 120 :: Lib.itoa f.h))) = [bsq (Lib.itoa f.l), bsq (Lib.itoa f.w), bsq (Lib.itoa f.h)] := by
 refine spb_of (p := [Lib.itoa f.l, Lib.itoa f.w, Lib.itoa f.h]) ?_ (by simp) ?_
 · rw [bsq_list, jnL_cons _ _ (by simp), jnL_cons _ _ (by simp)]; rfl
 · intro x hx
   simp only [List.mem_cons, List.not_mem_nil, or_false] at hx
   rcases hx with rfl | rfl | rfl <;> exact fm_no _ (.inr rfl)
theorem mRF_made {f : FM} (h : vF f = true) : mRF (fmT f) = some f := by
 obtain ⟨h1, h2, h3, h4⟩ := vF_small h
 unfold mRF
 rw [fmT_p, if_pos (by rfl)]
 rw [show gd [bsq (Lib.itoa f.l ++ 120 :: (Lib.itoa f.w ++ 120 :: Lib.itoa f.h)), bsq (Lib.itoa f.j)] 0 = bsq (Lib.itoa f.l ++ 120 :: (Lib.itoa f.w ++ 120 :: Lib.itoa f.h)) from rfl, fmT_q, if_pos (by rfl)]
 have hf : rfF [bsq (Lib.itoa f.l ++ 120 :: (Lib.itoa f.w ++ 120 :: Lib.itoa f.h)), bsq (Lib.itoa f.j)] [bsq (Lib.itoa f.l), bsq (Lib.itoa f.w), bsq (Lib.itoa f.h)] = f := by
   show (⟨rdv (bsq (Lib.itoa f.l)), rdv (bsq (Lib.itoa f.w)), rdv (bsq (Lib.itoa f.h)), rdv (bsq (Lib.itoa f.j))⟩ : FM) = f
   rw [(rd_itb h1).1, (rd_itb h2).1, (rd_itb h3).1, (rd_itb h4).1]
 rw [hf, if_pos]
 unfold rfOk
 rw [hf, h]
 show (rdb (bsq (Lib.itoa f.l)) && rdb (bsq (Lib.itoa f.w)) && rdb (bsq (Lib.itoa f.h)) && rdb (bsq (Lib.itoa f.j)) && true) = true
 rw [(rd_itb h1).2, (rd_itb h2).2, (rd_itb h3).2, (rd_itb h4).2]
 rfl
theorem rdb_itoa {s : ByteArray} (h : rdb s = true) : s.data.toList = Lib.itoa (rdv s) := by
 unfold rdb at h
 unfold rdv
 cases hv : rdec s.data.toList with
 | none => rw [hv] at h; cases h
 | some v => exact rdec_itoa_eq hv
theorem spb_map (b : UInt8) (s : ByteArray) : (spb b s).map (·.data.toList) = splL b s.data.toList := by
 unfold spb; rw [List.map_map]
 conv => rhs; rw [← List.map_id (splL b s.data.toList)]
 exact List.map_congr_left fun x _ => rfl
theorem spb_join (b : UInt8) (s : ByteArray) : jnL b ((spb b s).map (·.data.toList)) = s.data.toList := by rw [spb_map, jn_spl]
theorem len2 {p : List ByteArray} (h : p.length = 2) : p = [gd p 0, gd p 1] := by
 match p, h with
 | [a, b], _ => rfl
theorem len3 {p : List ByteArray} (h : p.length = 3) : p = [gd p 0, gd p 1, gd p 2] := by
 match p, h with
 | [a, b, c], _ => rfl
theorem mRF_some {s : ByteArray} {f : FM} (h : mRF s = some f) : vF f = true ∧ s = fmT f := by
 unfold mRF at h
 split at h
 · rename_i h2
   split at h
   · rename_i h3
     split at h
     · rename_i hok
       injection h with h
       have hv : vF f = true := by
         unfold rfOk at hok
         simp only [Bool.and_eq_true] at hok
         rw [← h]; exact hok.2
       refine ⟨hv, ba_ext ?_⟩
       unfold rfOk at hok
       simp only [Bool.and_eq_true] at hok
       obtain ⟨⟨⟨⟨k0, k1⟩, k2⟩, k3⟩, _⟩ := hok
       have j1 := spb_join 43 s
       have j2 := spb_join 120 (gd (spb 43 s) 0)
       rw [len3 h3] at j2
       rw [len2 h2] at j1
       simp only [List.map_cons, List.map_nil] at j1 j2
       rw [jnL_cons _ _ (by simp)] at j1
       rw [jnL_cons _ _ (by simp), jnL_cons _ _ (by simp)] at j2
       rw [fmT_list, ← h, ← j1, ← j2]
       show _ = (Lib.itoa (rdv _) ++ 120 :: (Lib.itoa (rdv _) ++ 120 :: Lib.itoa (rdv _))) ++ 43 :: Lib.itoa (rdv _)
       rw [← rdb_itoa k0, ← rdb_itoa k1, ← rdb_itoa k2, ← rdb_itoa k3]
       rfl
     · cases h
   · cases h
 · cases h
/-! ### The program's words -/
def cutA (s : ByteArray) : ByteArray := bsq (Lib.cut s.data.toList [43]).1
def cutD (s : ByteArray) : ByteArray := bsq (Lib.cut s.data.toList [43]).2.1
def icF (s : ByteArray) : FM := ⟨gi ((spb 120 (cutA s)).map rdv) 0, gi ((spb 120 (cutA s)).map rdv) 1, gi ((spb 120 (cutA s)).map rdv) 2, rdv (cutD s)⟩
def mFT (f : FM) : ByteArray := bif vF f then fmT f else ⟨#[]⟩
theorem cut_fm {f : FM} : cutA (fmT f) = bsq (Lib.itoa f.l ++ 120 :: (Lib.itoa f.w ++ 120 :: Lib.itoa f.h)) ∧ cutD (fmT f) = bsq (Lib.itoa f.j) := by
 have hn : (43 : UInt8) ∉ Lib.itoa f.l ++ 120 :: (Lib.itoa f.w ++ 120 :: Lib.itoa f.h) := by
   simp only [List.mem_append, List.mem_cons, not_or]
   exact ⟨fm_no _ (.inl rfl), by decide, fm_no _ (.inl rfl), by decide, fm_no _ (.inl rfl)⟩
 unfold cutA cutD
 rw [fmT_list]
 generalize Lib.itoa f.l ++ 120 :: (Lib.itoa f.w ++ 120 :: Lib.itoa f.h) = a at *
 generalize Lib.itoa f.j = d
 have e2 : (43 : UInt8) ∉ (a ++ 43 :: d).take a.length := by rw [List.take_left]; exact hn
 have e3 : (a ++ 43 :: d)[a.length]? = some 43 := by rw [List.getElem?_append_right (Nat.le_refl _)]; simp
 rcases index_one_cases 43 (a ++ 43 :: d) with ⟨h1, h2⟩ | ⟨i, h1, h2, h3⟩
 · exact absurd (List.mem_of_getElem? e3) h2
 · have hi : i = a.length := by
     rcases Nat.lt_trichotomy i a.length with q | q | q
     · exact absurd (List.mem_of_getElem? (by rw [List.getElem?_take_of_lt q]; exact h3)) e2
     · exact q
     · exact absurd (List.mem_of_getElem? (by rw [List.getElem?_take_of_lt q]; exact e3)) h2
   subst hi
   unfold Lib.cut
   rw [h1]
   simp
theorem rf_prog_no (s : ByteArray) (h : rdNs 120 (cutA s) 3 = false ∨ rdb (cutD s) = false) : mRF s = none := by
 cases hm : mRF s with
 | none => rfl
 | some f =>
   obtain ⟨hv, rfl⟩ := mRF_some hm
   obtain ⟨h1, h2, h3, h4⟩ := vF_small hv
   exfalso
   rw [cut_fm.1, cut_fm.2] at h
   rcases h with h | h
   · unfold rdNs at h
     rw [fmT_q] at h
     simp only [List.length_cons, List.length_nil, List.all_cons, List.all_nil, (rd_itb h1).2, (rd_itb h2).2, (rd_itb h3).2] at h
     simp at h
   · rw [(rd_itb h4).2] at h; cases h
theorem rf_prog (s : ByteArray) (h : rdNs 120 (cutA s) 3 = true) (h2 : rdb (cutD s) = true) : mRF s = if mFT (icF s) = s then some (icF s) else none := by
 have hc : ∀ f, vF f = true → s = fmT f → icF s = f := fun f hv hs => by
   obtain ⟨h1, h2, h3, h4⟩ := vF_small hv
   unfold icF
   rw [hs, cut_fm.1, cut_fm.2, fmT_q]
   show (⟨rdv (bsq (Lib.itoa f.l)), rdv (bsq (Lib.itoa f.w)), rdv (bsq (Lib.itoa f.h)), rdv (bsq (Lib.itoa f.j))⟩ : FM) = f
   rw [(rd_itb h1).1, (rd_itb h2).1, (rd_itb h3).1, (rd_itb h4).1]
 have hne : s ≠ ⟨#[]⟩ := by
   rintro rfl
   exact absurd h (by decide +kernel)
 cases hm : mRF s with
 | some f =>
   obtain ⟨hv, hs⟩ := mRF_some hm
   rw [hc f hv hs, if_pos]
   unfold mFT
   rw [hv, cond_true, ← hs]
 | none =>
   rw [if_neg]
   intro hq
   unfold mFT at hq
   cases hv : vF (icF s) with
   | false => rw [hv, cond_false] at hq; exact hne hq.symm
   | true =>
     rw [hv, cond_true] at hq
     have := mRF_made hv
     rw [hq, hm] at this
     cases this
def ltr (c : CO) (i : Nat) : Int := if i < c.lead.size then byt c.lead i else byt c.cyc ((i - c.lead.size) % c.cyc.size)
def atK (c : CO) : Nat → Int
 | 0 => 0
 | i + 1 => atK c i + qC (ltr c i)
theorem onl_at {p : Int → Bool} {s : ByteArray} {n i : Nat} (h : onl p s n = true) (hi : i < n) : p (byt s i) = true := by
 unfold onl at h
 exact List.all_eq_true.1 h i (by simpa using hi)
theorem qC_of_pc {y : Int} (h : pcC y = true) : 1 ≤ qC y := by
 have h1 := qC_pc y
 rw [h] at h1
 have h2 := qC_bd y
 have : qC y ≠ 0 := by simpa using h1
 omega
theorem pc_of_wh {y : Int} (h : whC y = true) : pcC y = true := by
 unfold whC at h
 unfold pcC
 simp only [Bool.or_eq_true] at h ⊢
 rcases h with h | h <;> simp [h]
theorem vC_parts {c : CO} (h : vC c = true) : c.lead.size ≤ 6 ∧ onl pcC c.lead c.lead.size = true ∧ 1 ≤ c.cyc.size ∧ c.cyc.size ≤ 8 ∧ onl whC c.cyc c.cyc.size = true := by
 unfold vC at h
 simp only [Bool.and_eq_true, decide_eq_true_eq] at h
 have h2 := inB_iff.1 h.1.2
 exact ⟨h.1.1.1, h.1.1.2, by omega, by omega, h.2⟩
theorem ltr_pc {c : CO} (h : vC c = true) (i : Nat) : pcC (ltr c i) = true := by
 obtain ⟨h1, h2, h3, h4, h5⟩ := vC_parts h
 unfold ltr
 split
 · rename_i hi
   exact onl_at h2 hi
 · exact pc_of_wh (onl_at h5 (Nat.mod_lt _ (by omega)))
theorem ltr_q {c : CO} (h : vC c = true) (i : Nat) : 1 ≤ qC (ltr c i) ∧ qC (ltr c i) ≤ 4 := ⟨qC_of_pc (ltr_pc h i), (qC_bd _).2⟩
theorem ltr_bd (c : CO) (i : Nat) : 0 ≤ ltr c i ∧ ltr c i ≤ 255 := by
 unfold ltr
 split <;> exact byt_bd _ _
theorem atK_bd {c : CO} (h : vC c = true) (i : Nat) : (i : Int) ≤ atK c i ∧ atK c i ≤ 4 * i := by
 induction i with
 | zero => exact ⟨Int.le_refl _, by simp [atK]⟩
 | succ i ih => have := ltr_q h i; unfold atK; omega
def layN (c : CO) (L : Int) : Nat → Nat → Nat
 | 0, i => i
 | f + 1, i => if L < atK c (i + 1) then i else layN c L f (i + 1)
def lenN (c : CO) (L : Int) : Nat := layN c L 201 0
def lastC (r : Int) : List UInt8 := if r = 1 then [67] else if r = 2 then [66] else if r = 3 then [84] else []
def layL (c : CO) (n : Nat) : List UInt8 := (List.range n).map fun i => (ltr c i).toNat.toUInt8
theorem layL_succ (c : CO) (n : Nat) : layL c (n + 1) = layL c n ++ [(ltr c n).toNat.toUInt8] := by simp [layL, List.range_succ]
theorem layL_len (c : CO) (n : Nat) : (layL c n).length = n := by simp [layL]
def layT (c : CO) (L : Int) : ByteArray := ⟨(layL c (lenN c L) ++ lastC (L - atK c (lenN c L))).toArray⟩
def LayAt (c : CO) (L : Int) (k : Nat) : Prop := k ≤ 200 ∧ atK c k ≤ L ∧ layN c L (201 - k) k = lenN c L
theorem LayAt.zero {c : CO} {L : Int} (h : 0 ≤ L) : LayAt c L 0 := ⟨by omega, by simpa [atK] using h, rfl⟩
theorem LayAt.next {c : CO} {L : Int} {k : Nat} (hv : vC c = true) (h : LayAt c L k) (hL : L ≤ 200) (hn : ¬ L < atK c (k + 1)) : LayAt c L (k + 1) := by
 obtain ⟨h1, h2, h3⟩ := h
 have h4 := atK_bd hv (k + 1)
 refine ⟨by omega, by omega, ?_⟩
 rw [← h3, show 201 - k = (201 - (k + 1)) + 1 from by omega]
 rw [layN, if_neg hn]
theorem LayAt.stop {c : CO} {L : Int} {k : Nat} (h : LayAt c L k) (hn : L < atK c (k + 1)) : lenN c L = k := by
 obtain ⟨h1, h2, h3⟩ := h
 rw [← h3, show 201 - k = (200 - k) + 1 from by omega, layN, if_pos hn]
end Go.Proofs.YtfgopboddkhckaaGreatDoor
namespace Go.Proofs.YtfgopboddkhckaaGreatDoor
set_option linter.unusedVariables false
structure PV where
  c : Nat
  p : Nat
  lo : List UInt8
  hi : List UInt8
deriving DecidableEq
def PV.zero : PV := ⟨0, 0, [], []⟩
instance : Inhabited PV := ⟨PV.zero⟩
def tlt : List UInt8 → List UInt8 → Bool
 | _, [] => false
 | [], _ :: _ => true
 | a :: x, b :: y => decide (a < b) || (decide (a = b) && tlt x y)
theorem tlt_irrefl : ∀ x, tlt x x = false
 | [] => rfl
 | a :: x => by simp [tlt, tlt_irrefl x]
theorem tlt_cons (a : UInt8) (x y : List UInt8) : tlt (a :: x) (a :: y) = tlt x y := by simp [tlt]
theorem u8_lt {a b : UInt8} : a < b ↔ a.toNat < b.toNat := UInt8.lt_iff_toNat_lt
theorem u8_eq {a b : UInt8} : a = b ↔ a.toNat = b.toNat := ⟨fun h => by rw [h], fun h => UInt8.toNat_inj.1 h⟩
theorem tlt_trans : ∀ {x y z : List UInt8}, tlt x y = true → tlt y z = true → tlt x z = true
 | _, _, [], _, h2 => by cases ‹List UInt8› <;> simp [tlt] at h2
 | [], _, _ :: _, _, _ => rfl
 | a :: x, [], c :: z, h1, _ => by simp [tlt] at h1
 | a :: x, b :: y, c :: z, h1, h2 => by
   simp only [tlt, Bool.or_eq_true, Bool.and_eq_true, decide_eq_true_eq, u8_lt, u8_eq] at h1 h2 ⊢
   rcases h1 with h1 | ⟨h1, h1'⟩ <;> rcases h2 with h2 | ⟨h2, h2'⟩
   · left; omega
   · left; omega
   · left; omega
   · right; exact ⟨by omega, tlt_trans h1' h2'⟩
theorem tlt_tri : ∀ (x y : List UInt8), tlt x y = false → tlt y x = false → x = y
 | [], [], _, _ => rfl
 | [], _ :: _, h, _ => by simp [tlt] at h
 | _ :: _, [], _, h => by simp [tlt] at h
 | a :: x, b :: y, h1, h2 => by
   simp only [tlt, Bool.or_eq_false_iff, Bool.and_eq_false_iff, decide_eq_false_iff_not, u8_lt, u8_eq] at h1 h2
   have hab : a = b := by rw [u8_eq]; omega
   subst hab
   rw [tlt_tri x y (by rcases h1.2 with h | h; exact absurd rfl h; exact h) (by rcases h2.2 with h | h; exact absurd rfl h; exact h)]
def plt (x y : PV) : Prop := x.c < y.c ∨ (x.c = y.c ∧ (x.p < y.p ∨ (x.p = y.p ∧ (tlt x.lo y.lo = true ∨ (x.lo = y.lo ∧ tlt x.hi y.hi = true)))))
instance (x y : PV) : Decidable (plt x y) := by unfold plt; infer_instance
theorem plt_irrefl (x : PV) : ¬ plt x x := by
 unfold plt
 rw [tlt_irrefl, tlt_irrefl]
 simp
theorem plt_trans {x y z : PV} (h : plt x y) (k : plt y z) : plt x z := by
 unfold plt at *
 rcases h with h | ⟨h1, h | ⟨h2, h | ⟨h3, h⟩⟩⟩ <;> rcases k with k | ⟨k1, k | ⟨k2, k | ⟨k3, k⟩⟩⟩
 all_goals first
   | (left; omega)
   | (right; exact ⟨by omega, .inl (by omega)⟩)
   | exact .inr ⟨by omega, .inr ⟨by omega, .inl (tlt_trans h k)⟩⟩
   | exact .inr ⟨by omega, .inr ⟨by omega, .inl (k3 ▸ h)⟩⟩
   | exact .inr ⟨by omega, .inr ⟨by omega, .inl (h3 ▸ k)⟩⟩
   | exact .inr ⟨by omega, .inr ⟨by omega, .inr ⟨h3.trans k3, tlt_trans h k⟩⟩⟩
theorem plt_tri {x y : PV} (h : ¬ plt x y) (k : ¬ plt y x) : x = y := by
 obtain ⟨c, p, l, t⟩ := x
 obtain ⟨c', p', l', t'⟩ := y
 unfold plt at *
 simp only at h k
 obtain rfl : c = c' := by omega
 obtain rfl : p = p' := by
   rcases Nat.lt_trichotomy p p' with q | q | q
   · exact absurd (.inr ⟨rfl, .inl q⟩) h
   · exact q
   · exact absurd (.inr ⟨rfl, .inl q⟩) k
 have h1 : tlt l l' = false := by
   cases hh : tlt l l' with
   | false => rfl
   | true => exact absurd (.inr ⟨rfl, .inr ⟨rfl, .inl hh⟩⟩) h
 have h2 : tlt l' l = false := by
   cases hh : tlt l' l with
   | false => rfl
   | true => exact absurd (.inr ⟨rfl, .inr ⟨rfl, .inl hh⟩⟩) k
 obtain rfl := tlt_tri _ _ h1 h2
 have h3 : tlt t t' = false := by
   cases hh : tlt t t' with
   | false => rfl
   | true => exact absurd (.inr ⟨rfl, .inr ⟨rfl, .inr ⟨rfl, hh⟩⟩⟩) h
 have h4 : tlt t' t = false := by
   cases hh : tlt t' t with
   | false => rfl
   | true => exact absurd (.inr ⟨rfl, .inr ⟨rfl, .inr ⟨rfl, hh⟩⟩⟩) k
 rw [tlt_tri _ _ h3 h4]
theorem not_plt_trans {x y z : PV} (h : ¬ plt y x) (k : ¬ plt z y) : ¬ plt z x := by
 intro q
 by_cases e : plt x y
 · exact k (plt_trans q e)
 · have := plt_tri e h
   subst this
   exact k q
def pick (acc : Option PV) (x : Option PV) : Option PV :=
 match x with
 | none => acc
 | some v => match acc with
   | none => some v
   | some a => if plt v a then some v else some a
def Least (S : PV → Prop) (r : Option PV) : Prop :=
 match r with
 | none => ∀ x, ¬ S x
 | some v => S v ∧ ∀ x, S x → ¬ plt x v
theorem Least.uniq {S : PV → Prop} {r s : Option PV} (h : Least S r) (k : Least S s) : r = s := by
 cases r with
 | none => cases s with
   | none => rfl
   | some v => exact absurd k.1 (h v)
 | some u => cases s with
   | none => exact absurd h.1 (k u)
   | some v => rw [plt_tri (k.2 u h.1) (h.2 v k.1)]
theorem Least.congr {S T : PV → Prop} {r : Option PV} (h : Least S r) (e : ∀ v, S v ↔ T v) : Least T r := by
 rw [← show S = T from funext fun v => propext (e v)]; exact h
theorem Least.none' : Least (fun _ => False) none := fun _ h => h
theorem Least.pick {S T : PV → Prop} {r s : Option PV} (h : Least S r) (k : Least T s) : Least (fun v => S v ∨ T v) (pick r s) := by
 cases s with
 | none =>
   exact h.congr fun v => ⟨.inl, fun q => q.elim id fun t => absurd t (k v)⟩
 | some v => cases r with
   | none => exact Least.congr (S := T) k fun u => ⟨.inr, fun q => q.elim (fun t => absurd t (h u)) id⟩
   | some a =>
     show Least _ (if plt v a then some v else some a)
     by_cases e : plt v a
     · rw [if_pos e]
       refine ⟨.inr k.1, fun x hx => ?_⟩
       rcases hx with hx | hx
       · exact fun q => h.2 x hx (plt_trans q e)
       · exact k.2 x hx
     · rw [if_neg e]
       refine ⟨.inl h.1, fun x hx => ?_⟩
       rcases hx with hx | hx
       · exact h.2 x hx
       · exact not_plt_trans e (k.2 x hx)
theorem Least.map {S : PV → Prop} {r : Option PV} (h : Least S r) (f : PV → PV) (hf : ∀ x y, plt (f x) (f y) → plt x y) : Least (fun v => ∃ u, S u ∧ v = f u) (r.map f) := by
 cases r with
 | none => exact fun x ⟨u, hu, _⟩ => h u hu
 | some v => exact ⟨⟨v, h.1, rfl⟩, fun x ⟨u, hu, e⟩ => by rw [e]; exact fun q => h.2 u hu (hf _ _ q)⟩
def let8 (q : Nat) : UInt8 := if q = 1 then 67 else if q = 2 then 72 else if q = 3 then 84 else 83
def cut8 (q : Nat) : Nat := if q = 1 then 1 else if q = 3 then 1 else 0
def preLo (q : Nat) (v : PV) : PV := ⟨v.c + cut8 q, v.p + 1, let8 q :: v.lo, v.hi⟩
def preHi (q : Nat) (v : PV) : PV := ⟨v.c + cut8 q, v.p + 1, v.lo, let8 q :: v.hi⟩
theorem preLo_lt (q : Nat) (x y : PV) (h : plt (preLo q x) (preLo q y)) : plt x y := by
 unfold plt preLo at *
 simp only [tlt_cons, List.cons.injEq, true_and] at h
 rcases h with h | ⟨h1, h | ⟨h2, h⟩⟩
 · left; omega
 · right; exact ⟨by omega, .inl (by omega)⟩
 · right; exact ⟨by omega, .inr ⟨by omega, h⟩⟩
theorem preHi_lt (q : Nat) (x y : PV) (h : plt (preHi q x) (preHi q y)) : plt x y := by
 unfold plt preHi at *
 simp only [tlt_cons] at h
 rcases h with h | ⟨h1, h | ⟨h2, h⟩⟩
 · left; omega
 · right; exact ⟨by omega, .inl (by omega)⟩
 · right; exact ⟨by omega, .inr ⟨by omega, h⟩⟩
def far (L P e f : Nat) : Prop := e = 0 ∨ f = 0 ∨ L ≤ e ∨ L ≤ f ∨ e + P ≤ f ∨ f + P ≤ e
instance (L P e f : Nat) : Decidable (far L P e f) := by unfold far; infer_instance
def ends : Nat → List Nat → List Nat
 | _, [] => []
 | a, q :: x => (a + q) :: ends (a + q) x
def good (x : List Nat) : Prop := ∀ q ∈ x, 1 ≤ q ∧ q ≤ 4
theorem good_cons {q : Nat} {x : List Nat} : good (q :: x) ↔ (1 ≤ q ∧ q ≤ 4) ∧ good x := by simp [good]
theorem ends_gt : ∀ {a : Nat} {x : List Nat}, good x → ∀ e ∈ ends a x, a < e
 | _, [], _, e, h => by simp [ends] at h
 | a, q :: x, hg, e, h => by
   have h1 := (good_cons.1 hg).1
   rcases List.mem_cons.1 h with rfl | h
   · omega
   · have := ends_gt (good_cons.1 hg).2 e h
     omega
def txt (x : List Nat) : List UInt8 := x.map let8
def cutsL (x : List Nat) : Nat := (x.map cut8).sum
def val (x y : List Nat) : PV := ⟨cutsL x + cutsL y, x.length + y.length, txt x, txt y⟩
theorem val_lo (q : Nat) (x y : List Nat) : val (q :: x) y = preLo q (val x y) := by
 unfold val preLo cutsL txt
 simp only [List.map_cons, List.sum_cons, List.length_cons, PV.mk.injEq, and_true]
 omega
theorem val_hi (q : Nat) (x y : List Nat) : val x (q :: y) = preHi q (val x y) := by
 unfold val preHi cutsL txt
 simp only [List.map_cons, List.sum_cons, List.length_cons, PV.mk.injEq, and_true]
 omega
structure Ok (L P a b : Nat) (x y : List Nat) : Prop where
 gx : good x
 gy : good y
 sx : a + x.sum = L
 sy : b + y.sum = L
 fr : ∀ e ∈ a :: ends a x, ∀ f ∈ b :: ends b y, far L P e f
def SV (L P a b : Nat) (v : PV) : Prop := ∃ x y, Ok L P a b x y ∧ v = val x y
theorem Ok.end_ {L P : Nat} {x y : List Nat} : Ok L P L L x y ↔ x = [] ∧ y = [] := by
 have nil : ∀ {x : List Nat}, good x → L + x.sum = L → x = [] := fun {x} hg hs => by
   cases x with
   | nil => rfl
   | cons q x => have := (good_cons.1 hg).1; simp at hs; omega
 constructor
 · intro h; exact ⟨nil h.gx h.sx, nil h.gy h.sy⟩
 · rintro ⟨rfl, rfl⟩
   refine ⟨by simp [good], by simp [good], by simp, by simp, fun e he f hf => ?_⟩
   simp [ends] at he hf
   subst he hf
   exact .inr (.inr (.inl (Nat.le_refl _)))
theorem least_end (L P : Nat) : Least (SV L P L L) (some PV.zero) := by
 refine ⟨⟨[], [], Ok.end_.2 ⟨rfl, rfl⟩, rfl⟩, ?_⟩
 rintro v ⟨x, y, h, rfl⟩
 obtain ⟨rfl, rfl⟩ := Ok.end_.1 h
 exact plt_irrefl _
theorem ok_lo {L P a b : Nat} (hP : 1 ≤ P) (hab : a ≤ b) (ha : a < L) (hf : far L P a b) {x y : List Nat} :
   Ok L P a b x y ↔ ∃ q x', (1 ≤ q ∧ q ≤ 4) ∧ a + q ≤ L ∧ far L P (a + q) b ∧ x = q :: x' ∧ Ok L P (a + q) b x' y := by
 constructor
 · intro h
   cases x with
   | nil => have := h.sx; simp at this; omega
   | cons q x' =>
     have hg := good_cons.1 h.gx
     have hs := h.sx
     simp only [List.sum_cons] at hs
     refine ⟨q, x', hg.1, by omega, h.fr _ (by simp [ends]) _ (by simp), rfl, ⟨hg.2, h.gy, by omega, h.sy, fun e he f hf => h.fr e ?_ f hf⟩⟩
     rw [ends]
     exact List.mem_cons_of_mem _ he
 · rintro ⟨q, x', hq, hl, hff, rfl, h⟩
   refine ⟨good_cons.2 ⟨hq, h.gx⟩, h.gy, by have := h.sx; simp only [List.sum_cons]; omega, h.sy, fun e he f hf2 => ?_⟩
   rw [ends] at he
   rcases List.mem_cons.1 he with rfl | he
   · rcases List.mem_cons.1 hf2 with rfl | hf2
     · exact hf
     · have h1 := ends_gt h.gy f hf2
       unfold far at *
       omega
   · exact h.fr e he f hf2
theorem far_comm {L P e f : Nat} : far L P e f ↔ far L P f e := by unfold far; omega
theorem Ok.swap {L P a b : Nat} {x y : List Nat} (h : Ok L P a b x y) : Ok L P b a y x := ⟨h.gy, h.gx, h.sy, h.sx, fun e he f hf => far_comm.1 (h.fr f hf e he)⟩
theorem ok_hi {L P a b : Nat} (hP : 1 ≤ P) (hab : b < a) (hb : b < L) (hf : far L P a b) {x y : List Nat} :
   Ok L P a b x y ↔ ∃ q y', (1 ≤ q ∧ q ≤ 4) ∧ b + q ≤ L ∧ far L P (b + q) a ∧ y = q :: y' ∧ Ok L P a (b + q) x y' := by
 constructor
 · intro h
   obtain ⟨q, y', h1, h2, h3, h4, h5⟩ := (ok_lo hP (by omega) hb (far_comm.1 hf)).1 h.swap
   exact ⟨q, y', h1, h2, h3, h4, h5.swap⟩
 · rintro ⟨q, y', h1, h2, h3, h4, h5⟩
   exact ((ok_lo hP (by omega) hb (far_comm.1 hf)).2 ⟨q, y', h1, h2, h3, h4, h5.swap⟩).swap
def sB (L P : Nat) : Nat → Nat → Nat → Option PV
 | 0, _, _ => none
 | n + 1, a, b =>
   if a = L ∧ b = L then some PV.zero
   else if a ≤ b then
     [4, 2, 3, 1].foldl (fun acc q => pick acc (if a + q ≤ L ∧ far L P (a + q) b then (sB L P n (a + q) b).map (preLo q) else none)) none
   else
     [4, 2, 3, 1].foldl (fun acc q => pick acc (if b + q ≤ L ∧ far L P (b + q) a then (sB L P n a (b + q)).map (preHi q) else none)) none
theorem least_if {S : PV → Prop} {r : Option PV} {c : Prop} [Decidable c] (h : c → Least S r) : Least (fun v => c ∧ S v) (if c then r else none) := by
 by_cases hc : c
 · rw [if_pos hc]; exact (h hc).congr fun v => ⟨fun q => ⟨hc, q⟩, fun q => q.2⟩
 · rw [if_neg hc]; exact fun x q => hc q.1
theorem least_fold4 {S : Nat → PV → Prop} {r : Nat → Option PV} (h : ∀ q, 1 ≤ q → q ≤ 4 → Least (S q) (r q)) : Least (fun v => ∃ q, (1 ≤ q ∧ q ≤ 4) ∧ S q v) ([4, 2, 3, 1].foldl (fun acc q => pick acc (r q)) none) := by
 show Least _ (pick (pick (pick (pick none (r 4)) (r 2)) (r 3)) (r 1))
 refine ((((Least.none'.pick (h 4 (by omega) (by omega))).pick (h 2 (by omega) (by omega))).pick (h 3 (by omega) (by omega))).pick (h 1 (by omega) (by omega))).congr fun v => ?_
 constructor
 · rintro ((((h | h) | h) | h) | h)
   · exact h.elim
   · exact ⟨4, by omega, h⟩
   · exact ⟨2, by omega, h⟩
   · exact ⟨3, by omega, h⟩
   · exact ⟨1, by omega, h⟩
 · rintro ⟨q, hq, h⟩
   rcases (show q = 4 ∨ q = 2 ∨ q = 3 ∨ q = 1 by omega) with rfl | rfl | rfl | rfl
   · exact .inl (.inl (.inl (.inr h)))
   · exact .inl (.inl (.inr h))
   · exact .inl (.inr h)
   · exact .inr h
theorem least_sB {L P : Nat} (hP : 1 ≤ P) : ∀ (n a b : Nat), a ≤ L → b ≤ L → (L - a) + (L - b) < n → far L P a b → Least (SV L P a b) (sB L P n a b)
 | 0, _, _, _, _, h, _ => by omega
 | n + 1, a, b, ha, hb, hn, hf => by
   unfold sB
   by_cases he : a = L ∧ b = L
   · rw [if_pos he]
     obtain ⟨rfl, rfl⟩ := he
     exact least_end _ _
   · rw [if_neg he]
     by_cases hab : a ≤ b
     · rw [if_pos hab]
       refine (least_fold4 (S := fun q v => (a + q ≤ L ∧ far L P (a + q) b) ∧ ∃ u, SV L P (a + q) b u ∧ v = preLo q u) fun q h1 h4 => least_if fun hc => (least_sB hP n (a + q) b hc.1 hb (by omega) hc.2).map _ (preLo_lt q)).congr fun v => ?_
       constructor
       · rintro ⟨q, hq, ⟨h1, h2⟩, u, ⟨x, y, hok, rfl⟩, rfl⟩
         exact ⟨q :: x, y, (ok_lo hP hab (by omega) hf).2 ⟨q, x, hq, h1, h2, rfl, hok⟩, (val_lo q x y).symm⟩
       · rintro ⟨x, y, hok, rfl⟩
         obtain ⟨q, x', hq, h1, h2, rfl, h3⟩ := (ok_lo hP hab (by omega) hf).1 hok
         exact ⟨q, hq, ⟨h1, h2⟩, _, ⟨x', y, h3, rfl⟩, val_lo q x' y⟩
     · rw [if_neg hab]
       refine (least_fold4 (S := fun q v => (b + q ≤ L ∧ far L P (b + q) a) ∧ ∃ u, SV L P a (b + q) u ∧ v = preHi q u) fun q h1 h4 => least_if fun hc => (least_sB hP n a (b + q) ha hc.1 (by omega) (far_comm.1 hc.2)).map _ (preHi_lt q)).congr fun v => ?_
       constructor
       · rintro ⟨q, hq, ⟨h1, h2⟩, u, ⟨x, y, hok, rfl⟩, rfl⟩
         exact ⟨x, q :: y, (ok_hi hP (by omega) (by omega) hf).2 ⟨q, y, hq, h1, h2, rfl, hok⟩, (val_hi q x y).symm⟩
       · rintro ⟨x, y, hok, rfl⟩
         obtain ⟨q, y', hq, h1, h2, rfl, h3⟩ := (ok_hi hP (by omega) (by omega) hf).1 hok
         exact ⟨q, hq, ⟨h1, h2⟩, _, ⟨x, y', h3, rfl⟩, val_hi q x y'⟩
def may (L P at_ low high : Nat) (a b : Bool) : Bool :=
 if (!a && decide (at_ + 1 - low > 3)) || (!b && decide (at_ + 1 - high > 3)) then false
 else if at_ + 1 = L then a && b
 else !(a && b) && !(a && (decide (0 < high) && decide (at_ + 1 - high < P))) && !(b && (decide (0 < low) && decide (at_ + 1 - low < P)))
def pre (nx low high : Nat) (a b : Bool) (v : PV) : PV :=
 let v1 := if a then preLo (nx - low) v else v
 if b then preHi (nx - high) v1 else v1
def pB (L P : Nat) : Nat → Nat → Nat → Nat → Option PV
 | 0, _, _, _ => some PV.zero
 | n + 1, at_, low, high =>
   [(false, false), (true, false), (false, true), (true, true)].foldl (fun acc (c : Bool × Bool) =>
     pick acc (if may L P at_ low high c.1 c.2 = true then (pB L P n (at_ + 1) (if c.1 then at_ + 1 else low) (if c.2 then at_ + 1 else high)).map (pre (at_ + 1) low high c.1 c.2) else none)) none
def Ahead (t a : Nat) (x : List Nat) : Prop := ∀ e ∈ ends a x, t < e
def SI (L P t a b : Nat) (v : PV) : Prop := ∃ x y, (Ok L P a b x y ∧ Ahead t a x ∧ Ahead t b y) ∧ v = val x y
def addQ (c : Bool) (q : Nat) (x : List Nat) : List Nat := if c then q :: x else x
theorem ends_add {c : Bool} {q a : Nat} {x : List Nat} : ends a (addQ c q x) = if c then (a + q) :: ends (a + q) x else ends a x := by cases c <;> rfl
theorem split_at {L t a : Nat} {x : List Nat} (hg : good x) (hs : a + x.sum = L) (hat : a ≤ t) (ht : t < L) (hA : Ahead t a x) :
   ∃ c x', x = addQ c (t + 1 - a) x' ∧ good x' ∧ (if c then t + 1 else a) + x'.sum = L ∧ Ahead (t + 1) (if c then t + 1 else a) x' ∧ (c = false → t + 1 - a ≤ 3) ∧ (t + 1 = L → c = true) ∧ (c = true → t + 1 - a ≤ 4) := by
 cases x with
 | nil => simp at hs; omega
 | cons q x =>
   have hq := (good_cons.1 hg).1
   have h1 : t < a + q := hA _ (by simp [ends])
   simp only [List.sum_cons] at hs
   by_cases he : a + q = t + 1
   · refine ⟨true, x, ?_, (good_cons.1 hg).2, ?_, ?_, by simp, by simp, fun _ => by omega⟩
     · show q :: x = (t + 1 - a) :: x
       rw [show t + 1 - a = q from by omega]
     · show t + 1 + x.sum = L
       omega
     · show Ahead (t + 1) (t + 1) x
       exact fun e h => ends_gt (good_cons.1 hg).2 e h
   · refine ⟨false, q :: x, rfl, hg, ?_, ?_, fun _ => by omega, fun _ => by omega, by simp⟩
     · show a + (q :: x).sum = L
       simp only [List.sum_cons]; omega
     · show Ahead (t + 1) a (q :: x)
       intro e h
       rw [ends] at h
       rcases List.mem_cons.1 h with rfl | h
       · omega
       · have := ends_gt (good_cons.1 hg).2 e h
         omega
theorem ok_step {L P t a b : Nat} (hP : 1 ≤ P) (ha : a ≤ t) (hb : b ≤ t) (ha3 : t - a ≤ 3) (hb3 : t - b ≤ 3) (ht : t < L) (hf : far L P a b) {x y : List Nat} :
   (Ok L P a b x y ∧ Ahead t a x ∧ Ahead t b y) ↔ ∃ c d x' y', may L P t a b c d = true ∧ x = addQ c (t + 1 - a) x' ∧ y = addQ d (t + 1 - b) y' ∧
     (Ok L P (if c then t + 1 else a) (if d then t + 1 else b) x' y' ∧ Ahead (t + 1) (if c then t + 1 else a) x' ∧ Ahead (t + 1) (if d then t + 1 else b) y') := by
 constructor
 · rintro ⟨h, hA, hB⟩
   obtain ⟨c, x', rfl, gx, sx, aX, c1, c2, c3⟩ := split_at h.gx h.sx ha ht hA
   obtain ⟨d, y', rfl, gy, sy, aY, d1, d2, d3⟩ := split_at h.gy h.sy hb ht hB
   refine ⟨c, d, x', y', ?_, rfl, rfl, ⟨gx, gy, sx, sy, ?_⟩, aX, aY⟩
   · unfold may
     rw [if_neg (by
       intro hh
       simp only [Bool.or_eq_true, Bool.and_eq_true, Bool.not_eq_true', decide_eq_true_eq] at hh
       rcases hh with ⟨h1, h2⟩ | ⟨h1, h2⟩
       · have := c1 h1; omega
       · have := d1 h1; omega)]
     by_cases hL : t + 1 = L
     · rw [if_pos hL, c2 hL, d2 hL]; rfl
     · rw [if_neg hL]
       have hfr := h.fr
       rw [ends_add, ends_add] at hfr
       have k1 : c = true → a + (t + 1 - a) = t + 1 := fun _ => by omega
       have k2 : d = true → b + (t + 1 - b) = t + 1 := fun _ => by omega
       cases c <;> cases d
       · simp
       · have h1 := hfr a (by simp) (t + 1) (by simp [k2 rfl])
         unfold far at h1
         simp; omega
       · have h1 := hfr (t + 1) (by simp [k1 rfl]) b (by simp)
         unfold far at h1
         simp; omega
       · have h1 := hfr (t + 1) (by simp [k1 rfl]) (t + 1) (by simp [k2 rfl])
         unfold far at h1
         omega
   · intro e he f hff
     refine h.fr e ?_ f ?_
     · rw [ends_add]
       cases c
       · exact he
       · have : a + (t + 1 - a) = t + 1 := by omega
         simp only [if_true, this]
         exact List.mem_cons_of_mem _ he
     · rw [ends_add]
       cases d
       · exact hff
       · have : b + (t + 1 - b) = t + 1 := by omega
         simp only [if_true, this]
         exact List.mem_cons_of_mem _ hff
 · rintro ⟨c, d, x', y', hm, rfl, rfl, h, hA, hB⟩
   have e1 : a + (t + 1 - a) = t + 1 := by omega
   have e2 : b + (t + 1 - b) = t + 1 := by omega
   unfold may at hm
   by_cases hq : ((!c && decide (t + 1 - a > 3)) || (!d && decide (t + 1 - b > 3))) = true
   · rw [if_pos hq] at hm; cases hm
   rw [if_neg hq] at hm
   have gx : good (addQ c (t + 1 - a) x') := by
     cases c
     · exact h.gx
     · exact good_cons.2 ⟨by omega, h.gx⟩
   have gy : good (addQ d (t + 1 - b) y') := by
     cases d
     · exact h.gy
     · exact good_cons.2 ⟨by omega, h.gy⟩
   have aX : Ahead t a (addQ c (t + 1 - a) x') := by
     intro e he
     rw [ends_add] at he
     cases c
     · have := hA e he; omega
     · simp only [if_true, e1] at he
       rcases List.mem_cons.1 he with rfl | he
       · omega
       · have := hA e he; omega
   have aY : Ahead t b (addQ d (t + 1 - b) y') := by
     intro e he
     rw [ends_add] at he
     cases d
     · have := hB e he; omega
     · simp only [if_true, e2] at he
       rcases List.mem_cons.1 he with rfl | he
       · omega
       · have := hB e he; omega
   refine ⟨⟨gx, gy, ?_, ?_, ?_⟩, aX, aY⟩
   · have := h.sx
     cases c
     · exact this
     · show a + ((t + 1 - a) :: x').sum = L
       have : t + 1 + x'.sum = L := h.sx
       simp only [List.sum_cons]; omega
   · have := h.sy
     cases d
     · exact this
     · show b + ((t + 1 - b) :: y').sum = L
       have : t + 1 + y'.sum = L := h.sy
       simp only [List.sum_cons]; omega
   · intro e he f hff
     have hfr := h.fr
     cases c <;> cases d
     · exact hfr e he f hff
     · rw [ends_add] at hff
       simp only [if_true, e2] at hff
       rcases List.mem_cons.1 hff with rfl | hff
       · rcases List.mem_cons.1 he with rfl | he
         · exact hf
         · have h1 := aX e he
           have h2 := hfr e (List.mem_cons_of_mem _ he) (t + 1) (by simp)
           by_cases hL : t + 1 = L
           · rw [if_pos hL] at hm; simp at hm
           · unfold far at *; omega
       · exact hfr e he f hff
     · rw [ends_add] at he
       simp only [if_true, e1] at he
       rcases List.mem_cons.1 he with rfl | he
       · rcases List.mem_cons.1 hff with rfl | hff
         · exact hf
         · have h1 := aY f hff
           have h2 := hfr (t + 1) (by simp) f (List.mem_cons_of_mem _ hff)
           by_cases hL : t + 1 = L
           · rw [if_pos hL] at hm; simp at hm
           · unfold far at *; omega
       · exact hfr e he f hff
     · have hL : t + 1 = L := by
         by_cases hL : t + 1 = L
         · exact hL
         · rw [if_neg hL] at hm; simp at hm
       rcases List.mem_cons.1 he with rfl | he
       · rcases List.mem_cons.1 hff with rfl | hff
         · exact hf
         · have := aY f hff
           unfold far; omega
       · have := aX e he
         unfold far; omega
theorem val_pre (t a b : Nat) (c d : Bool) (x y : List Nat) : val (addQ c (t + 1 - a) x) (addQ d (t + 1 - b) y) = pre (t + 1) a b c d (val x y) := by
 cases c <;> cases d <;> simp only [addQ, pre, if_true, val_lo, val_hi] <;> first | rfl | (unfold preLo preHi; simp only [PV.mk.injEq, and_true, true_and]; omega)
theorem pre_lt (n a b : Nat) (c d : Bool) (x y : PV) (h : plt (pre n a b c d x) (pre n a b c d y)) : plt x y := by
 unfold pre at h
 cases c <;> cases d <;> simp only [if_true] at h
 · exact h
 · exact preHi_lt _ _ _ h
 · exact preLo_lt _ _ _ h
 · exact preLo_lt _ _ _ (preHi_lt _ _ _ h)
theorem least_fold22 {S : Bool → Bool → PV → Prop} {r : Bool → Bool → Option PV} (h : ∀ c d, Least (S c d) (r c d)) : Least (fun v => ∃ c d, S c d v) ([(false, false), (true, false), (false, true), (true, true)].foldl (fun acc (c : Bool × Bool) => pick acc (r c.1 c.2)) none) := by
 show Least _ (pick (pick (pick (pick none (r false false)) (r true false)) (r false true)) (r true true))
 refine ((((Least.none'.pick (h _ _)).pick (h _ _)).pick (h _ _)).pick (h _ _)).congr fun v => ?_
 constructor
 · rintro ((((h | h) | h) | h) | h)
   · exact h.elim
   all_goals exact ⟨_, _, h⟩
 · rintro ⟨c, d, h⟩
   cases c <;> cases d
   · exact .inl (.inl (.inl (.inr h)))
   · exact .inl (.inr h)
   · exact .inl (.inl (.inr h))
   · exact .inr h
theorem least_pB {L P : Nat} (hP : 1 ≤ P) : ∀ (n t a b : Nat), t + n = L → a ≤ t → b ≤ t → t - a ≤ 3 → t - b ≤ 3 → far L P a b → (n = 0 → a = L ∧ b = L) → Least (SI L P t a b) (pB L P n t a b)
 | 0, t, a, b, ht, ha, hb, _, _, _, h0 => by
   obtain ⟨ea, eb⟩ := h0 rfl
   refine Least.congr (S := SV L P a b) ?_ fun v => ?_
   · rw [ea, eb]; exact least_end L P
   · constructor
     · rintro ⟨x, y, h, rfl⟩
       have h' := h
       rw [ea, eb] at h'
       obtain ⟨rfl, rfl⟩ := Ok.end_.1 h'
       exact ⟨[], [], ⟨h, by simp [Ahead, ends], by simp [Ahead, ends]⟩, rfl⟩
     · rintro ⟨x, y, h, rfl⟩
       exact ⟨x, y, h.1, rfl⟩
 | n + 1, t, a, b, ht, ha, hb, ha3, hb3, hf, _ => by
   unfold pB
   refine (least_fold22 (S := fun c d v => may L P t a b c d = true ∧ ∃ u, SI L P (t + 1) (if c then t + 1 else a) (if d then t + 1 else b) u ∧ v = pre (t + 1) a b c d u) fun c d => least_if fun hm => (least_pB hP n (t + 1) _ _ (by omega) ?_ ?_ ?_ ?_ ?_ ?_).map _ (pre_lt _ _ _ c d)).congr fun v => ?_
   · cases c <;> simp <;> omega
   · cases d <;> simp <;> omega
   · unfold may at hm
     cases c
     · by_cases hq : t + 1 - a > 3
       · rw [if_pos (by simp [hq])] at hm; cases hm
       · simp only [Bool.false_eq_true, if_false]; omega
     · simp
   · unfold may at hm
     cases d
     · by_cases hq : t + 1 - b > 3
       · rw [if_pos (by simp [hq])] at hm; cases hm
       · simp only [Bool.false_eq_true, if_false]; omega
     · simp
   · unfold may at hm
     by_cases hq : ((!c && decide (t + 1 - a > 3)) || (!d && decide (t + 1 - b > 3))) = true
     · rw [if_pos hq] at hm; cases hm
     rw [if_neg hq] at hm
     by_cases hL : t + 1 = L
     · rw [if_pos hL] at hm
       cases c <;> cases d <;> simp at hm
       simp only [if_true]
       unfold far; omega
     · rw [if_neg hL] at hm
       cases c <;> cases d
       · exact hf
       · simp at hm
         show far L P a (t + 1)
         unfold far; omega
       · simp at hm
         show far L P (t + 1) b
         unfold far; omega
       · simp at hm
   · intro hn0
     have hL : t + 1 = L := by omega
     unfold may at hm
     by_cases hq : ((!c && decide (t + 1 - a > 3)) || (!d && decide (t + 1 - b > 3))) = true
     · rw [if_pos hq] at hm; cases hm
     rw [if_neg hq, if_pos hL] at hm
     cases c <;> cases d <;> simp at hm
     simp [hL]
   · constructor
     · rintro ⟨c, d, hm, u, ⟨x, y, h, rfl⟩, rfl⟩
       exact ⟨_, _, (ok_step hP ha hb ha3 hb3 (by omega) hf).2 ⟨c, d, x, y, hm, rfl, rfl, h⟩, (val_pre t a b c d x y).symm⟩
     · rintro ⟨x, y, h, rfl⟩
       obtain ⟨c, d, x', y', hm, rfl, rfl, h'⟩ := (ok_step hP ha hb ha3 hb3 (by omega) hf).1 h
       exact ⟨c, d, hm, _, ⟨x', y', h', rfl⟩, val_pre t a b c d x' y'⟩
theorem pair_same {L P n : Nat} (hP : 1 ≤ P) (hL : 1 ≤ L) (hn : 2 * L < n) : pB L P L 0 0 0 = sB L P n 0 0 := by
 have h1 := least_pB (L := L) hP L 0 0 0 (by omega) (Nat.le_refl _) (Nat.le_refl _) (by omega) (by omega) (.inl rfl) (fun h => by omega)
 have h2 := least_sB (L := L) hP n 0 0 (by omega) (by omega) (by omega) (.inl rfl : far L P 0 0)
 refine Least.uniq h1 (h2.congr fun v => ?_)
 constructor
 · rintro ⟨x, y, h, rfl⟩
   exact ⟨x, y, ⟨h, fun e he => ends_gt h.gx e he, fun e he => ends_gt h.gy e he⟩, rfl⟩
 · rintro ⟨x, y, h, rfl⟩
   exact ⟨x, y, h.1, rfl⟩
end Go.Proofs.YtfgopboddkhckaaGreatDoor
