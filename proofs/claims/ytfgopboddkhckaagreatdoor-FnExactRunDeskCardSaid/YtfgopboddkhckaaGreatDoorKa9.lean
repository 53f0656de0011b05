/-
  Parts of the proof: ValEn, Log1, Log2, LogQ, Log4.
-/
import Derived.Test.YtfgopboddkhckaaGreatDoorKa1
import Derived.Test.YtfgopboddkhckaaGreatDoorKa2
import Derived.Test.YtfgopboddkhckaaGreatDoorKa5
import Derived.Test.YtfgopboddkhckaaGreatDoorKa6
import Derived.Test.YtfgopboddkhckaaGreatDoorKa8
import Derived.BigQuiet
import Derived.Deep.RegionHeld3
import Derived.IntWalk
namespace Go.Proofs.YtfgopboddkhckaaGreatDoor
open Go.ChangeShapes Go.WideShapes Go.ChangeAt Go.RowKit Go.Sort
set_option linter.unusedVariables false
set_option maxRecDepth 8000

theorem sm_len {o : EN} (h : SmEN o) : LenEN o := by unfold SmEN at h; unfold LenEN maxLen; omega
set_option maxHeartbeats 1600000 in
theorem impl_okEn (v : Value) (o : EN) (w : World) (hl : LenEN o) (ha : REN w v o) :
    Calls Tryz.prog 217 #[v] w (Ret (.bool (vEn o)) w) := by
  obtain rfl : v = _ := ha
  have HN := Lib.hid (fun w => impl_IsName o.what hl w)
  clear hl
  go_enter Tryz.func217, Tryz.ntmps217
  go_wp2_with fail
  refine (impl_within o.day 0 100000 _).mono ?_
  rintro e w1 ⟨rfl, rfl⟩
  cases h1 : inB o.day 0 100000 with
  | false =>
    have HX : Hid (vEn o = false) := Lib.hid (by unfold vEn; rw [h1]; rfl)
    clear h1
    go_wp2_with fail
    go_ret
    exact ⟨ret_bool HX.out.symm, ext_alloc1 _ _⟩
  | true =>
    have H1 := Lib.hid h1; clear h1
    go_wp2_with fail
    refine (show Calls _ _ _ _ _ from HN.out _).mono ?_
    rintro e w1 ⟨rfl, rfl⟩
    cases h2 : isN o.what with
    | false =>
      have HX : Hid (vEn o = false) := Lib.hid (by unfold vEn; rw [h2]; simp)
      clear h2
      go_wp2_with fail
      go_ret
      exact ⟨ret_bool HX.out.symm, ext_alloc1 _ _⟩
    | true =>
      have HX : Hid (vEn o = inB o.val (-1000000) 1000000) := Lib.hid (by unfold vEn; rw [H1.out, h2]; rfl)
      clear h2
      go_wp2_with fail
      refine (impl_within o.val (-1000000) 1000000 _).mono ?_
      rintro e w1 ⟨rfl, rfl⟩
      go_wp2_with fail
      go_ret
      exact ⟨ret_bool HX.out.symm, ext_alloc1 _ _⟩

theorem spec_day (n : Int) (w : World) : Calls Tryz.prog 225 #[.int .i64 n] w (RetP (.bool (inB n 0 100000)) w) := by
  go_enter Tryz.func225, Tryz.ntmps225
  go_wp2_with fail
  refine (spec_in n 0 100000 _).mono ?_
  rintro e w1 ⟨rfl, rfl⟩
  go_wp2_with fail
  go_ret
  exact ⟨rfl, rfl⟩
set_option maxHeartbeats 1600000 in
theorem spec_okEn (p : Addr) (o : EN) (w : World) (hl : LenEN o) (hp : PEN w p o) :
    Calls Tryz.prog 178 #[.pointer (some p)] w (RetP (.bool (vEn o)) w) := by
  obtain ⟨h0, h1, h2⟩ := hp
  have HN := Lib.hid (fun w => spec_IsName o.what hl w)
  clear hl
  go_enter Tryz.func178, Tryz.ntmps178
  go_wp2_with fail
  refine (spec_day o.day _).mono ?_
  rintro e w1 ⟨rfl, rfl⟩
  cases h1 : inB o.day 0 100000 with
  | false =>
    have HX : Hid (vEn o = false) := Lib.hid (by unfold vEn; rw [h1]; rfl)
    clear h1
    go_wp2_with fail
    go_ret
    exact ⟨ret_bool HX.out.symm, rfl⟩
  | true =>
    have H1 := Lib.hid h1; clear h1
    go_wp2_with fail
    refine (show Calls _ _ _ _ _ from HN.out _).mono ?_
    rintro e w1 ⟨rfl, rfl⟩
    cases h2 : isN o.what with
    | false =>
      have HX : Hid (vEn o = false) := Lib.hid (by unfold vEn; rw [h2]; simp)
      clear h2
      go_wp2_with fail
      go_ret
      exact ⟨ret_bool HX.out.symm, rfl⟩
    | true =>
      have HX : Hid (vEn o = inB o.val (-1000000) 1000000) := Lib.hid (by unfold vEn; rw [H1.out, h2]; rfl)
      clear h2
      go_wp2_with fail
      refine (spec_in o.val (-1000000) 1000000 _).mono ?_
      rintro e w1 ⟨rfl, rfl⟩
      go_wp2_with fail
      go_ret
      exact ⟨ret_bool HX.out.symm, rfl⟩


end Go.Proofs.YtfgopboddkhckaaGreatDoor
namespace Go.Proofs.YtfgopboddkhckaaGreatDoor
open Go.ChangeShapes Go.WideShapes Go.ChangeAt Go.RowKit Go.Sort
set_option linter.unusedVariables false
set_option maxRecDepth 8000
attribute [local go_sem ↓] Go.wp_at_zero Go.wp_at_succ

/-- The words of an entry, as a text. -/
def wrb (e : EN) : ByteArray := bsq (wrd e)
theorem wrb_size {e : EN} (h : vEn e = true) : (wrb e).size ≤ 36 := by unfold wrb; rw [bsq_size]; exact wrd_len h
theorem wrb_eq (e : EN) : itb e.day ++ ⟨#[32]⟩ ++ e.what ++ ⟨#[32]⟩ ++ itb e.val = wrb e := by
  apply ba_ext
  unfold wrb
  rw [bsq_list]
  simp [ByteArray.data_append, wrd, itb]

set_option maxHeartbeats 3200000 in
theorem impl_words (v : Value) (o : EN) (w : World) (hv : vEn o = true) (ha : REN w v o) (hL : LayF w) :
    Calls Tryz.prog 102 #[v] w (Ret (.string (wrb o)) w) := by
  obtain rfl : v = _ := ha
  have hvv := vEn_iff.1 hv
  have hb1 := itb_size o.day (by omega) (by omega)
  have hb2 := itb_size o.val (by omega) (by omega)
  have hb3 := vEn_sm hv
  have HD : Hid (∀ n w, (n = o.day ∨ n = o.val) → LayF w → Calls Tryz.prog 54 #[.int .i64 n] w (Ret (.string (itb n)) w)) := Lib.hid fun n w hn h => impl_Dec n (by rcases hn with rfl | rfl <;> omega) (by rcases hn with rfl | rfl <;> omega) w h
  have HW := Lib.hid (wrb_eq o)
  have hc1 : ¬ 9223372036854775807 < (itb o.day).size + 1 := by omega
  have hc2 : ¬ 9223372036854775807 < (itb o.day).size + 1 + o.what.size := by omega
  have hc3 : ¬ 9223372036854775807 < (itb o.day).size + 1 + o.what.size + 1 := by omega
  have hc4 : ¬ 9223372036854775807 < (itb o.day).size + 1 + o.what.size + 1 + (itb o.val).size := by omega
  have HLL : Hid (∀ T d os, LayF (grow (redrawn (w.alloc (.cells #[.int .i64 o.day, .string o.what, .int .i64 o.val] T)) d) os)) := Lib.hid fun T d os => hL.ext (ext_trans (ext_alloc1 _ _) (below_regrown _ _ _))
  clear hvv hv hb1 hb2 hb3 hL
  have hp := fun T => pEN_box w o T
  have g0 : ∀ T d os, (grow (redrawn (w.alloc (.cells #[.int .i64 o.day, .string o.what, .int .i64 o.val] T)) d) os).cell? ⟨w.heap.size, 0, none⟩ = some (.int .i64 o.day) := fun T d os => cell_regrown (hp T).1 d os
  have g1 : ∀ T d os, (grow (redrawn (w.alloc (.cells #[.int .i64 o.day, .string o.what, .int .i64 o.val] T)) d) os).cell? ⟨w.heap.size, 1, none⟩ = some (.string o.what) := fun T d os => cell_regrown (hp T).2.1 d os
  have g2 : ∀ T d os, (grow (redrawn (w.alloc (.cells #[.int .i64 o.day, .string o.what, .int .i64 o.val] T)) d) os).cell? ⟨w.heap.size, 2, none⟩ = some (.int .i64 o.val) := fun T d os => cell_regrown (hp T).2.2 d os
  clear hp
  go_enter Tryz.func102, Tryz.ntmps102
  go_wp2_with fail
  refine wp_region_quiet_below (by kernel_rfl) (by kernel_rfl) ?_
  repeat (go_big_quiet_step ((go_at_call 54; exact regrown_r (HD.out _ _ (by first | exact Or.inl rfl | exact Or.inr rfl) (HLL.out _ _ _)))))
  refine wpQuiet_nil ?_
  intro w' hw'
  obtain ⟨p, rfl⟩ := hw'
  go_wp2_with fail
  go_ret
  rw [← HW.out]
  exact ⟨rfl, ext_trans (ext_alloc1 _ _) (below_regrown _ _ _)⟩

set_option maxHeartbeats 3200000 in
theorem spec_words (p : Addr) (o : EN) (w : World) (hv : vEn o = true) (hp : PEN w p o) :
    Calls Tryz.prog 126 #[.pointer (some p)] w (Ret (.string (wrb o)) w) := by
  have hvv := vEn_iff.1 hv
  have hb1 := itb_size o.day (by omega) (by omega)
  have hb2 := itb_size o.val (by omega) (by omega)
  have hb3 := vEn_sm hv
  have HD : Hid (∀ n w, (n = o.day ∨ n = o.val) → Calls Tryz.prog 114 #[.int .i64 n] w (Ret (.string (itb n)) w)) := Lib.hid fun n w hn => spec_Dec n (by rcases hn with rfl | rfl <;> omega) (by rcases hn with rfl | rfl <;> omega) w
  have HW := Lib.hid (wrb_eq o)
  have hc1 : ¬ 9223372036854775807 < (itb o.day).size + 1 := by omega
  have hc2 : ¬ 9223372036854775807 < (itb o.day).size + 1 + o.what.size := by omega
  have hc3 : ¬ 9223372036854775807 < (itb o.day).size + 1 + o.what.size + 1 := by omega
  have hc4 : ¬ 9223372036854775807 < (itb o.day).size + 1 + o.what.size + 1 + (itb o.val).size := by omega
  clear hvv hv hb1 hb2 hb3
  have g0 := fun d os => cell_regrown hp.1 d os
  have g1 := fun d os => cell_regrown hp.2.1 d os
  have g2 := fun d os => cell_regrown hp.2.2 d os
  clear hp
  go_enter Tryz.func126, Tryz.ntmps126
  go_wp2_with fail
  refine wp_region_quiet_below (by kernel_rfl) (by kernel_rfl) ?_
  repeat (go_big_quiet_step ((go_at_call 114; exact regrown_r (HD.out _ _ (by first | exact Or.inl rfl | exact Or.inr rfl)))))
  refine wpQuiet_nil ?_
  intro w' hw'
  obtain ⟨p, rfl⟩ := hw'
  go_wp2_with fail
  go_ret
  rw [← HW.out]
  exact ⟨rfl, below_regrown _ _ _⟩
end Go.Proofs.YtfgopboddkhckaaGreatDoor
namespace Go.Proofs.YtfgopboddkhckaaGreatDoor
open Go.ChangeShapes Go.WideShapes Go.ChangeAt Go.RowKit Go.Sort
set_option linter.unusedVariables false
set_option maxRecDepth 8000
attribute [local go_sem ↓] Go.wp_at_zero Go.wp_at_succ

def stpb (b : Int) (s : ByteArray) : Int := stmp b s.data.toList
theorem stpb_bd (b : Int) (s : ByteArray) : 0 ≤ stpb b s ∧ stpb b s ≤ 65518 := stmp_bd _ _
/-- The stamp so far. -/
def stk (b : Int) (s : ByteArray) (k : Nat) : Int := stmp b (s.data.toList.take k)
theorem stk_zero (b : Int) (s : ByteArray) : stk b s 0 = (b + 29) % 65519 := rfl
theorem stk_succ (b : Int) (s : ByteArray) (k : Nat) (h : k < s.size) : stk b s (k + 1) = (37 * stk b s k + byt s k) % 65519 := by
  unfold stk
  have h' : k < s.data.toList.length := by rw [size_toList]; exact h
  rw [List.take_succ_eq_append_getElem h', stmp_snoc]
  unfold stp1 byt
  rw [List.getD_eq_getElem?_getD, List.getElem?_eq_getElem h']
  rfl
theorem stk_end (b : Int) (s : ByteArray) : stk b s s.size = stpb b s := by
  unfold stk stpb
  rw [List.take_of_length_le (by rw [size_toList]; exact Nat.le_refl _)]

set_option maxHeartbeats 800000 in
theorem spec_stamp (b : Int) (s : ByteArray) (h0 : 0 ≤ b) (h1 : b ≤ 65518) (hs : s.size ≤ maxLen) (w : World) :
    Calls Tryz.prog 181 #[.int .i64 b, .string s] w (RetP (.int .i64 (stpb b s)) w) := by
  unfold maxLen at hs
  have H0 := Lib.hid (stk_zero b s)
  have hm : Int.tmod (b + 29) 65519 = (b + 29) % 65519 := Int.tmod_eq_emod_of_nonneg (by omega)
  go_enter Tryz.func181, Tryz.ntmps181
  go_wp2_with fail
  clear hm
  go_loop [5, 6] (fun t i => ∃ (k : Nat) (u : Int), k ≤ s.size ∧ i = .int .i64 k ∧ t = .int .i64 u ∧ 0 ≤ u ∧ u ≤ 65518 ∧ Hid (stk b s k = u)) (fun _ i => s.size - (intOf i).toNat)
  case atStart => exact ⟨0, _, Nat.zero_le _, rfl, rfl, by omega, by omega, H0.out⟩
  case round =>
    obtain ⟨k, u, hk, rfl, rfl, hu0, hu1, HU⟩ := hrel
    by_cases hlt : k < s.size
    · have e1 : (0:Int) ≤ k := by omega
      have e2 : (k:Int) < s.size := by omega
      have hy := byt_eq s k hlt
      have hyb := byt_bd s k
      have HS := Lib.hid (stk_succ b s k hlt)
      obtain ⟨y, hyy⟩ : ∃ y, byt s k = y := ⟨_, rfl⟩
      rw [hyy] at hy hyb HS
      clear hyy
      have hm : Int.tmod (37 * u + y) 65519 = (37 * u + y) % 65519 := Int.tmod_eq_emod_of_nonneg (by omega)
      go_wp2_with fail
      go_round
      case rel => exact ⟨k + 1, _, by omega, by go_num, rfl, by omega, by omega, by unfold Hid; rw [HS.out, HU.out]⟩
      case measure => simp [intOf]; omega
    · obtain rfl : k = s.size := by omega
      have HE : Hid (stpb b s = u) := Lib.hid (by rw [← stk_end]; exact HU.out)
      go_wp2_with fail
      go_ret
      exact ⟨ret_int HE.out.symm, rfl⟩

/-- The line of an entry, as a text. -/
def lnb (st : Int) (e : EN) : ByteArray := bsq (linL st e)
theorem lnb_eq (st : Int) (e : EN) : wrb e ++ ⟨#[32]⟩ ++ itb st ++ ⟨#[10]⟩ = lnb st e := by
  apply ba_ext
  unfold lnb wrb
  rw [bsq_list]
  simp [ByteArray.data_append, linL, itb, bsq]
theorem lnb_size {st : Int} {e : EN} (h : vEn e = true) (h0 : 0 ≤ st) (h1 : st ≤ 65518) : (lnb st e).size ≤ 60 := by unfold lnb; rw [bsq_size]; exact linL_len h h0 h1
set_option maxHeartbeats 1600000 in
theorem spec_line (st : Int) (p : Addr) (o : EN) (w : World) (h0 : 0 ≤ st) (h1 : st ≤ 65518) (hv : vEn o = true) (hp : PEN w p o) :
    Calls Tryz.prog 180 #[.int .i64 st, .pointer (some p)] w (Ret (.string (lnb st o)) w) := by
  have hb1 := wrb_size hv
  have hb2 := itb_size st (by omega) (by omega)
  have HC1 := Lib.hid (spec_words p o w hv hp)
  have HC2 := Lib.hid (fun w => spec_Dec st (by omega) (by omega) w)
  have HE := Lib.hid (lnb_eq st o)
  have hc1 : ¬ 9223372036854775807 < (wrb o).size + 1 := by omega
  have hc2 : ¬ 9223372036854775807 < (wrb o).size + 1 + (itb st).size := by omega
  have hc3 : ¬ 9223372036854775807 < (wrb o).size + 1 + (itb st).size + 1 := by omega
  clear hb1 hb2 hv hp
  go_enter Tryz.func180, Tryz.ntmps180
  go_wp2_with fail
  refine (show Calls _ _ _ _ _ from HC1.out).mono ?_
  rintro e w1 ⟨rfl, hb1⟩
  go_wp2_with fail
  refine (show Calls _ _ _ _ _ from HC2.out _).mono ?_
  rintro e w2 ⟨rfl, hb2⟩
  go_wp2_with fail
  go_ret
  rw [HE.out]
  exact ⟨rfl, ext_trans hb1 hb2⟩

set_option maxHeartbeats 1600000 in
theorem impl_stamp (b : Int) (v : Value) (o : EN) (w : World) (h0 : 0 ≤ b) (h1 : b ≤ 65518) (hv : vEn o = true) (ha : REN w v o) (hL : LayF w) :
    Calls Tryz.prog 168 #[.int .i64 b, v] w (Ret (.int .i64 (stpb b (wrb o))) w) := by
  obtain rfl : v = _ := ha
  have HC1 : Hid (∀ T, Calls Tryz.prog 102 #[.agg #[.int .i64 o.day, .string o.what, .int .i64 o.val]] (w.alloc (.cells #[.int .i64 o.day, .string o.what, .int .i64 o.val] T)) (Ret (.string (wrb o)) (w.alloc (.cells #[.int .i64 o.day, .string o.what, .int .i64 o.val] T)))) := Lib.hid fun T => impl_words _ o _ hv rfl (hL.ext (ext_alloc1 _ _))
  have hsz := wrb_size hv
  have H0 := Lib.hid (stk_zero b (wrb o))
  have hm : Int.tmod (b + 29) 65519 = (b + 29) % 65519 := Int.tmod_eq_emod_of_nonneg (by omega)
  clear hv hL
  go_enter Tryz.func168, Tryz.ntmps168
  go_wp2_with fail
  refine (show Calls _ _ _ _ _ from HC1.out _).mono ?_
  rintro e w1 ⟨rfl, hb1⟩
  have HW := Lib.hid (ext_trans (ext_alloc1 _ _) hb1)
  clear hb1
  generalize wrb o = s at *
  go_wp2_with fail
  clear hm
  go_loop [5, 15] (fun t i => ∃ (k : Nat) (u : Int), k ≤ s.size ∧ i = .int .i64 k ∧ t = .int .i64 u ∧ 0 ≤ u ∧ u ≤ 65518 ∧ Hid (stk b s k = u)) (fun _ i => s.size - (intOf i).toNat)
  case atStart => exact ⟨0, _, Nat.zero_le _, rfl, rfl, by omega, by omega, H0.out⟩
  case round =>
    obtain ⟨k, u, hk, rfl, rfl, hu0, hu1, HU⟩ := hrel
    by_cases hlt : k < s.size
    · have e1 : (0:Int) ≤ k := by omega
      have e2 : (k:Int) < s.size := by omega
      have hy := byt_eq s k hlt
      have hyb := byt_bd s k
      have HS := Lib.hid (stk_succ b s k hlt)
      obtain ⟨y, hyy⟩ : ∃ y, byt s k = y := ⟨_, rfl⟩
      rw [hyy] at hy hyb HS
      clear hyy
      have hm : Int.tmod (37 * u + y) 65519 = (37 * u + y) % 65519 := Int.tmod_eq_emod_of_nonneg (by omega)
      go_wp2_with fail
      go_round
      case rel => exact ⟨k + 1, _, by omega, by go_num, rfl, by omega, by omega, by unfold Hid; rw [HS.out, HU.out]⟩
      case measure => simp [intOf]; omega
    · obtain rfl : k = s.size := by omega
      have HE : Hid (stpb b s = u) := Lib.hid (by rw [← stk_end]; exact HU.out)
      go_wp2_with fail
      go_ret
      exact ⟨ret_int HE.out.symm, HW.out⟩
end Go.Proofs.YtfgopboddkhckaaGreatDoor
namespace Go.Proofs.YtfgopboddkhckaaGreatDoor
open Go.ChangeShapes Go.WideShapes Go.ChangeAt Go.RowKit Go.Sort
set_option linter.unusedVariables false

/-- The entry of a line's words. -/
def enW (l : List ByteArray) : EN := ⟨rdv (gd l 0), gd l 1, rdv (gd l 2)⟩
theorem spb_bsq (b : UInt8) (l : List UInt8) : spb b (bsq l) = (splL b l).map bsq := by unfold spb; rw [bsq_list]
theorem ln_short {line : List UInt8} (h : (spb 32 (bsq line)).length ≠ 4) : rdLn line = none := by
  rw [spb_bsq, List.length_map] at h
  unfold rdLn
  split
  · rename_i a b c d hs
    rw [hs] at h
    exact absurd rfl h
  · rfl
theorem ln_four {line : List UInt8} {l : List ByteArray} (hl : spb 32 (bsq line) = l) (h : l.length = 4) :
    rdLn line = if (rdb (gd l 0) && rdb (gd l 2) && vEn (enW l)) = true then some (enW l, (gd l 3).data.toList) else none := by
  subst hl
  rw [spb_bsq] at h ⊢
  rw [List.length_map] at h
  match hs : splL 32 line, h with
  | [a, b, c, d], _ =>
    unfold rdLn enW
    rw [hs]
    have e0 : gd (List.map bsq [a, b, c, d]) 0 = bsq a := rfl
    have e1 : gd (List.map bsq [a, b, c, d]) 1 = bsq b := rfl
    have e2 : gd (List.map bsq [a, b, c, d]) 2 = bsq c := rfl
    have e3 : gd (List.map bsq [a, b, c, d]) 3 = bsq d := rfl
    simp only [e0, e1, e2, e3]
    unfold rdv rdb
    simp only [bsq_list]
    obtain ⟨o1, h1⟩ : ∃ o1, rdec a = o1 := ⟨_, rfl⟩
    obtain ⟨o2, h2⟩ : ∃ o2, rdec c = o2 := ⟨_, rfl⟩
    simp only [h1, h2]
    cases o1 with
    | none => simp
    | some x =>
      cases o2 with
      | none => simp
      | some y => simp [bsq]
theorem step_none {es : List EN} {st : Int} {r : List UInt8} (h : (10 : UInt8) ∉ r) : stepL es st r = none := by
  unfold stepL
  rw [idxOf_none h]
theorem step_line {es : List EN} {st : Int} {r : List UInt8} {k : Nat} (h2 : (10 : UInt8) ∉ r.take k) (h3 : r[k]? = some 10) :
    stepL es st r = (match rdLn (r.take k) with
      | none => none
      | some (e, d) => if lday es ≤ e.day ∧ d = Lib.itoa (stmp st (wrd e)) then some (e, stmp st (wrd e), k + 1) else none) := by
  unfold stepL
  rw [idxOf_some h2 h3]
  rfl
theorem lnb_iff {line : List UInt8} {e : EN} {d : List UInt8} {st : Int} (h : rdLn line = some (e, d)) : lnb st e = bsq (line ++ [10]) ↔ d = Lib.itoa st := by
  have h2 := (rdLn_some h).2.1
  constructor
  · intro h3
    have h4 := bsq_inj h3
    rw [h2] at h4
    unfold linL at h4
    rw [List.append_assoc] at h4
    have h5 := List.append_cancel_left h4
    simp only [List.cons_append, List.cons.injEq, true_and] at h5
    exact (List.append_cancel_right h5).symm
  · rintro rfl
    unfold lnb linL
    rw [h2]
    simp
theorem rd_iff {d : ByteArray} {st : Int} (h0 : 0 ≤ st) (h1 : st ≤ 65518) : (rdb d = true ∧ st = rdv d) ↔ d.data.toList = Lib.itoa st := by
  unfold rdb rdv
  constructor
  · rintro ⟨h, h2⟩
    cases hd : rdec d.data.toList with
    | none => rw [hd] at h; simp at h
    | some v =>
      rw [hd] at h2
      simp at h2
      rw [h2]; exact rdec_itoa_eq hd
  · intro h
    rw [h, rdec_itoa st (by omega) (by omega)]
    simp
theorem lday_get {es : List EN} (h : 0 < es.length) : lday es = (gd es (es.length - 1)).day := by
  unfold lday
  rw [List.getLast?_eq_getElem?, List.getElem?_eq_getElem (by omega), gd_eq (by omega)]
theorem ext_line (s : ByteArray) {p q : Nat} (h : p ≤ q) (hq : q < s.size) (h10 : s.data.toList[q]? = some 10) : s.extract p (q + 1) = bsq ((s.data.toList.drop p).take (q - p) ++ [10]) := by
  rw [ext_bsq s (by omega), show q + 1 - p = (q - p) + 1 by omega, List.take_add_one, List.getElem?_drop, show p + (q - p) = q by omega, h10]
  rfl
/-- What a step leaves. -/
def stepEs (es : List EN) : Option (EN × Int × Nat) → List EN | some (e, _, _) => es ++ [e] | none => es
def stepSt (st : Int) : Option (EN × Int × Nat) → Int | some (_, st', _) => st' | none => st
def stepAt (n : Nat) : Option (EN × Int × Nat) → Nat | some (_, _, k) => n + k | none => n
end Go.Proofs.YtfgopboddkhckaaGreatDoor
namespace Go.Proofs.YtfgopboddkhckaaGreatDoor
open Go.ChangeShapes Go.WideShapes Go.ChangeAt Go.RowKit Go.Sort
set_option linter.unusedVariables false
set_option maxRecDepth 100000
attribute [local go_sem ↓] Go.wp_at_zero Go.wp_at_succ

/-- The reader in block g: the text, where it stands, the stamp, the entries. -/
structure RR (w : World) (B g : Nat) (s : ByteArray) (es : List EN) (st : Int) (n : Nat) (A : Option Addr) (c : Nat) : Prop where
  h0 : w.cell? ⟨g, 0, none⟩ = some (.string s)
  h1 : w.cell? ⟨g, 1, none⟩ = some (.int .i64 (n : Int))
  h2 : w.cell? ⟨g, 2, none⟩ = some (.int .i64 st)
  h3 : w.cell? ⟨g, 3, none⟩ = some (.slice A es.length c)
  fz : ∀ j, w.frozen? ⟨g, j, none⟩ = false
  own : OENS w B (.slice A es.length c) es
  far : ∀ k, BI (.slice A es.length c) k → k ≠ g
  ge : B ≤ g
theorem RR.lt {w : World} {B g : Nat} {s : ByteArray} {es : List EN} {st : Int} {n : Nat} {A : Option Addr} {c : Nat} (h : RR w B g s es st n A c) : g < w.heap.size := block_lt_of_cell h.h0
theorem RR.ext {w w' : World} {B g : Nat} {s : ByteArray} {es : List EN} {st : Int} {n : Nat} {A : Option Addr} {c : Nat} (h : RR w B g s es st n A c) (hb : Below w.heap.size w w') : RR w' B g s es st n A c :=
  ⟨cell_keep h.h0 hb, cell_keep h.h1 hb, cell_keep h.h2 hb, cell_keep h.h3 hb, fun j => by rw [hb.frozen (p := ⟨g, j, none⟩) h.lt]; exact h.fz j, h.own.ext hb, h.far, h.ge⟩
set_option maxHeartbeats 800000 in
theorem spec_rday (B g : Nat) (s : ByteArray) (es : List EN) (st : Int) (n : Nat) (A : Option Addr) (c : Nat) (w : World) (h : RR w B g s es st n A c) :
    Calls Tryz.prog 179 #[.pointer (some ⟨g, 0, none⟩)] w (Ret (.int .i64 (lday es)) w) := by
  have h3 := h.h3
  obtain ⟨_, _, hv, hc1, hc2⟩ := h.own.rd.open_
  injection hv with q1 q2 q3
  subst q1 q3
  unfold maxLen at hc2
  have HR := Lib.hid h.own.rd
  clear h
  by_cases h0 : es.length = 0
  · have hes : es = [] := List.eq_nil_of_length_eq_zero h0
    subst hes
    go_enter Tryz.func179, Tryz.ntmps179
    go_wp2_with fail
    go_ret
    exact ⟨rfl, ext_refl _⟩
  · have HD := Lib.hid (lday_get (es := es) (by omega))
    obtain ⟨k, hk⟩ : ∃ k, es.length = k + 1 := ⟨es.length - 1, by omega⟩
    obtain ⟨ad, rfl, _, hc⟩ := HR.out.at (show k < es.length by omega)
    obtain ⟨g0, _, _⟩ := hc k (by omega)
    clear hc
    have HD2 : Hid (lday es = (gd es k).day) := Lib.hid (by rw [HD.out, hk]; rfl)
    rw [hk] at h3 hc1
    clear h0 hk HD HR
    have e0 : (((k + 1 : Nat) : Int) == 0) = false := by rw [beq_eq_false_iff_ne]; omega
    have e1 : ((k + 1 : Nat) : Int) - 1 = k := by omega
    have e3 : (0 : Int) ≤ k := by omega
    have e4 : (k : Int) < ((k + 1 : Nat) : Int) := by omega
    have e5 : (k : Int).toNat = k := by omega
    have e2 : IntKind.i64.wrap (k : Int) = k := IntWalk.i64_in _ (by omega)
    go_enter Tryz.func179, Tryz.ntmps179
    go_wp2_with fail
    go_quiet (fail)
    go_wp2_with fail
    go_ret
    rw [HD2.out]
    exact ⟨rfl, ext_drewN (ext_refl _) _⟩
end Go.Proofs.YtfgopboddkhckaaGreatDoor
