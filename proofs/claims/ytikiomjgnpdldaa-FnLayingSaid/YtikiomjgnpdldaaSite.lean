/-
  The laws' small functions on the struct Site: its size, its copy, equality, marks.
-/
import Derived.Test.YtikiomjgnpdldaaInts
import Derived.Deep.RegionHeld3
import Derived.Deep.DrawnRows
namespace Go.Proofs.Ytikiomjgnpdldaa
open Go.ChangeShapes Go.WideShapes Go.ChangeAt Go.RowKit Go.Sort

/-- v is a Site whose weather is s and whose free days read as xs. -/
def ST (w : World) (v : Value) (s : ByteArray) (xs : List Int) : Prop := ∃ A c, v = .agg #[.string s, .slice A xs.length c] ∧ RI w (.slice A xs.length c) xs
theorem ST.ext {w w' : World} {v : Value} {s : ByteArray} {xs : List Int} (h : ST w v s xs) (hb : Below w.heap.size w w') : ST w' v s xs := by
  obtain ⟨A, c, rfl, h⟩ := h; exact ⟨A, c, rfl, h.ext hb⟩
/-- .. whose free days are the call's own. -/
def OST (w : World) (base : Nat) (v : Value) (s : ByteArray) (xs : List Int) : Prop := ∃ A c, v = .agg #[.string s, .slice A xs.length c] ∧ OI w base (.slice A xs.length c) xs
theorem OST.rd {w : World} {base : Nat} {v : Value} {s : ByteArray} {xs : List Int} (h : OST w base v s xs) : ST w v s xs := by
  obtain ⟨A, c, rfl, h⟩ := h; exact ⟨A, c, rfl, h.rd⟩
theorem OST.ext {w w' : World} {base : Nat} {v : Value} {s : ByteArray} {xs : List Int} (h : OST w base v s xs) (hb : Below w.heap.size w w') : OST w' base v s xs := by
  obtain ⟨A, c, rfl, h⟩ := h; exact ⟨A, c, rfl, h.ext hb⟩
theorem OST.mono {w : World} {base base' : Nat} {v : Value} {s : ByteArray} {xs : List Int} (h : OST w base v s xs) (hb : base' ≤ base) : OST w base' v s xs := by
  obtain ⟨A, c, rfl, h⟩ := h; exact ⟨A, c, rfl, h.mono hb⟩

theorem spec_same_site (v1 v2 : Value) (s t : ByteArray) (xs ys : List Int) (w : World) (ha : ST w v1 s xs) (hb : ST w v2 t ys) :
    Calls Try.prog 24 #[v1, v2] w (Ret (.bool (decide (s = t) && decide (xs = ys))) w) := by
  obtain ⟨A, c, rfl, hf⟩ := ha
  obtain ⟨B, d, rfl, hg⟩ := hb
  have HF := Lib.hid hf; clear hf
  have HG := Lib.hid hg; clear hg
  by_cases hst : s = t
  · subst hst
    go_enter Try.func24, Try.ntmps24
    go_wp2_with (go_at_call 61; refine (same_any _ _ xs ys _ ((HF.out.alloc _).alloc _) ((HG.out.alloc _).alloc _)).mono ?_; rintro e w1 ⟨rfl, hb⟩)
    go_ret
    exact ⟨ret_bool (by simp), ext_trans (ext_alloc (ext_alloc1 w _) _) hb⟩
  · have h0 := str_ne hst
    go_enter Try.func24, Try.ntmps24
    go_wp2_with fail
    go_ret
    exact ⟨ret_bool (by simp [hst]), ext_alloc (ext_alloc1 w _) _⟩


/-- The data blocks of a Site: the block of its free days. -/
def BST (v : Value) : Nat → Prop := fun k => (v.cells.getD 1 undef).ownBlock = some k
theorem OST.ge {w : World} {base : Nat} {v : Value} {s : ByteArray} {xs : List Int} (h : OST w base v s xs) : ∀ k, BST v k → base ≤ k ∧ k < w.heap.size := by
  obtain ⟨A, c, rfl, h⟩ := h; exact h.ge
theorem OST.chg {S : Nat → Prop} {w w' : World} {base : Nat} {v : Value} {s : ByteArray} {xs : List Int} (h : OST w base v s xs) (hb : Chg S w w') (hS : ∀ k, BST v k → ¬ S k) : OST w' base v s xs := by
  obtain ⟨A, c, rfl, h⟩ := h; exact ⟨A, c, rfl, h.chg hb hS⟩

theorem sl_equal (v1 v2 : Value) (xs ys : List Int) (w : World) (ha : RI w v1 xs) (hb : RI w v2 ys) :
    Calls Try.prog 60 #[v1, v2] w (Ret (.bool (decide (xs = ys))) w) := by
  obtain ⟨A, c, rfl, hc1, hc2, HA'⟩ := ha.open_
  obtain ⟨B, d, rfl, hd1, hd2, HB'⟩ := hb.open_
  unfold maxLen at hc2 hd2
  have HA := Lib.hid HA'; clear HA' ha
  have HB := Lib.hid HB'; clear HB' hb
  generalize hn : xs.length = n at *
  generalize hm : ys.length = m at *
  have HN := Lib.hid hn; clear hn
  have HM := Lib.hid hm; clear hm
  by_cases hl : n = m
  · subst hl
    go_enter Try.func60, Try.ntmps60
    go_wp2
    go_loopw [13] (fun i wr => ∃ k q : Nat, k ≤ n ∧ i = .int .i64 k ∧ wr = w.drewN q ∧ xs.take k = ys.take k) (fun i _ => n - (intOf i).toNat)
    case atStart => exact ⟨0, 0, Nat.zero_le _, rfl, rfl, rfl⟩
    case round =>
      obtain ⟨k, q, hk, rfl, rfl, htk⟩ := hrel
      have HT := Lib.hid htk; clear htk
      by_cases hlt : k < n
      · obtain ⟨ad, rfl, hbd, hc⟩ := HA.out k (by have := HN.out; omega)
        obtain ⟨bd, rfl, hbd2, hc2⟩ := HB.out k (by have := HM.out; omega)
        replace hc := hc k (by have := HN.out; omega)
        replace hc2 := hc2 k (by have := HM.out; omega)
        have e1 : (0:Int) ≤ k := by omega
        have e2 : (k:Int) < n := by omega
        go_wp2
        go_quiet (fail)
        go_wp2
        · go_ret
          rename_i hne
          exact ⟨ret_bool (by simp [bne_get hne]), ext_drewN (ext_drewN (ext_refl w) _) _⟩
        · go_roundw
          case rel => exact ⟨k + 1, _, by omega, by go_num, rfl, eq_take (by rw [HN.out, HM.out]) (by rw [HN.out]; omega) HT.out (by rename_i he; simpa using he)⟩
          case measure => simp [intOf]; omega
      · go_wp2
        go_ret
        have hkn : k = n := by omega
        subst hkn
        refine ⟨ret_bool ?_, ext_drewN (ext_refl w) _⟩
        have := HT.out
        rw [List.take_of_length_le (by have := HN.out; omega), List.take_of_length_le (by have := HM.out; omega)] at this
        simp [this]
  · go_enter Try.func60, Try.ntmps60
    go_wp2
    go_ret
    refine ⟨ret_bool ?_, ext_refl w⟩
    have : xs ≠ ys := by rintro rfl; exact hl (HN.out.symm.trans HM.out)
    simp [this]
theorem impl_same_site (v1 v2 : Value) (s t : ByteArray) (xs ys : List Int) (w : World) (ha : ST w v1 s xs) (hb : ST w v2 t ys) :
    Calls Try.prog 23 #[v1, v2] w (Ret (.bool (decide (s = t) && decide (xs = ys))) w) := by
  obtain ⟨A, c, rfl, hf⟩ := ha
  obtain ⟨B, d, rfl, hg⟩ := hb
  have HF := Lib.hid hf; clear hf
  have HG := Lib.hid hg; clear hg
  by_cases hst : s = t
  · subst hst
    go_enter Try.func23, Try.ntmps23
    go_wp2_with (go_at_call 60; refine (sl_equal _ _ xs ys _ ((HF.out.alloc _).alloc _) ((HG.out.alloc _).alloc _)).mono ?_; rintro e w1 ⟨rfl, hb⟩)
    go_ret
    exact ⟨ret_bool (by simp), ext_trans (ext_alloc (ext_alloc1 w _) _) hb⟩
  · have h0 := str_ne hst
    go_enter Try.func23, Try.ntmps23
    go_wp2_with fail
    go_ret
    exact ⟨ret_bool (by simp [hst]), ext_alloc (ext_alloc1 w _) _⟩

def szST (s : ByteArray) (xs : List Int) (left : Int) : Int := szN (szN left s.size) xs.length
theorem szST_le (s : ByteArray) (xs : List Int) {left : Int} (h : left ≤ 1048576) : szST s xs left ≤ 1048576 ∧ -1 ≤ szST s xs left := szN_le _ _ (szN_le _ _ h).1
theorem szST_ok {s : ByteArray} {xs : List Int} {left : Int} (h : 0 ≤ szST s xs left) : 0 ≤ left ∧ (s.size : Int) ≤ left ∧ (xs.length : Int) ≤ left := by
  unfold szST at h
  have h1 := szN_ok h
  have h2 := szN_ok (szN_pos h)
  omega

def SmST (s : ByteArray) (xs : List Int) : Prop := s.size ≤ 1048576 ∧ xs.length ≤ 1048576
def LenST (s : ByteArray) (xs : List Int) : Prop := s.size ≤ maxLen ∧ xs.length ≤ maxLen
theorem ok_ST {s : ByteArray} {xs : List Int} {left : Int} (h2 : left ≤ 1048576) (h : 0 ≤ szST s xs left) : 0 ≤ left ∧ SmST s xs := by
  have := szST_ok h; unfold SmST; omega
theorem spec_SameSite (v1 : Value) (s : ByteArray) (xs : List Int) (v2 : Value) (t : ByteArray) (ys : List Int) (w : World) (ha : ST w v1 s xs) (_ : SmST s xs) (hb : ST w v2 t ys) (_ : SmST t ys) :
    Calls Try.prog 24 #[v1, v2] w (Ret (.bool (decide (s = t) && decide (xs = ys))) w) := spec_same_site v1 v2 s t xs ys w ha hb
theorem impl_SameSite (v1 : Value) (s : ByteArray) (xs : List Int) (v2 : Value) (t : ByteArray) (ys : List Int) (w : World) (ha : ST w v1 s xs) (_ : SmST s xs) (hb : ST w v2 t ys) (_ : SmST t ys) :
    Calls Try.prog 23 #[v1, v2] w (Ret (.bool (decide (s = t) && decide (xs = ys))) w) := impl_same_site v1 v2 s t xs ys w ha hb

end Go.Proofs.Ytikiomjgnpdldaa
