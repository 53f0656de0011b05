/-
  Logs, second part: stamps and lines.
-/
import Derived.Test.YtoefoljhgnfoiaaGreatDoorLog1
namespace Go.Proofs.YtoefoljhgnfoiaaGreatDoor
open Go.ChangeShapes Go.WideShapes Go.ChangeAt Go.RowKit Go.Sort
set_option linter.unusedVariables false
set_option maxRecDepth 8000
attribute [local go_sem ↓] Go.wp_at_zero Go.wp_at_succ

def stpb (b : Int) (s : ByteArray) : Int := stmp b s.data.toList
theorem stpb_bd (b : Int) (s : ByteArray) : 0 ≤ stpb b s ∧ stpb b s ≤ 65518 := stmp_bd _ _
/-- The stamp so far. -/
def stk (b : Int) (s : ByteArray) (k : Nat) : Int := stmp b (s.data.toList.take k)
theorem stk_zero (b : Int) (s : ByteArray) : stk b s 0 = (b + 29) % 65519 := rfl
theorem stk_bd (b : Int) (s : ByteArray) (k : Nat) : 0 ≤ stk b s k ∧ stk b s k ≤ 65518 := stmp_bd _ _
theorem stk_succ (b : Int) (s : ByteArray) (k : Nat) (h : k < s.size) : stk b s (k + 1) = (37 * stk b s k + byt s k) % 65519 := by
  unfold stk
  have h' : k < s.data.toList.length := by rw [size_toList]; exact h
  rw [List.take_succ_eq_append_getElem h', stmp_snoc]
  unfold stp1 byt
  rw [List.getD_eq_getElem?_getD, List.getElem?_eq_getElem h']
  rfl
theorem stk_end (b : Int) (s : ByteArray) : stk b s s.size = stpb b s := by
  unfold stk stpb
  rw [List.take_of_length_le (by rw [size_toList]; exact Nat.le_refl _)]

set_option maxHeartbeats 800000 in
theorem spec_stamp (b : Int) (s : ByteArray) (h0 : 0 ≤ b) (h1 : b ≤ 65518) (hs : s.size ≤ maxLen) (w : World) :
    Calls Tryz.prog 79 #[.int .i64 b, .string s] w (RetP (.int .i64 (stpb b s)) w) := by
  unfold maxLen at hs
  have H0 := Lib.hid (stk_zero b s)
  have hm : Int.tmod (b + 29) 65519 = (b + 29) % 65519 := Int.tmod_eq_emod_of_nonneg (by omega)
  go_enter Tryz.func79, Tryz.ntmps79
  go_wp2_with fail
  clear hm
  go_loop [5, 6] (fun t i => ∃ (k : Nat) (u : Int), k ≤ s.size ∧ i = .int .i64 k ∧ t = .int .i64 u ∧ 0 ≤ u ∧ u ≤ 65518 ∧ Hid (stk b s k = u)) (fun _ i => s.size - (intOf i).toNat)
  case atStart => exact ⟨0, _, Nat.zero_le _, rfl, rfl, by omega, by omega, H0.out⟩
  case round =>
    obtain ⟨k, u, hk, rfl, rfl, hu0, hu1, HU⟩ := hrel
    by_cases hlt : k < s.size
    · have e1 : (0:Int) ≤ k := by omega
      have e2 : (k:Int) < s.size := by omega
      have hy := byt_eq s k hlt
      have hyb := byt_bd s k
      have HS := Lib.hid (stk_succ b s k hlt)
      obtain ⟨y, hyy⟩ : ∃ y, byt s k = y := ⟨_, rfl⟩
      rw [hyy] at hy hyb HS
      clear hyy
      have hm : Int.tmod (37 * u + y) 65519 = (37 * u + y) % 65519 := Int.tmod_eq_emod_of_nonneg (by omega)
      go_wp2_with fail
      go_round
      case rel => exact ⟨k + 1, _, by omega, by go_num, rfl, by omega, by omega, by unfold Hid; rw [HS.out, HU.out]⟩
      case measure => simp [intOf]; omega
    · obtain rfl : k = s.size := by omega
      have HE : Hid (stpb b s = u) := Lib.hid (by rw [← stk_end]; exact HU.out)
      go_wp2_with fail
      go_ret
      exact ⟨ret_int HE.out.symm, rfl⟩

/-- The line of an entry, as a text. -/
def lnb (st : Int) (e : EN) : ByteArray := bsq (linL st e)
theorem lnb_eq (st : Int) (e : EN) : wrb e ++ ⟨#[32]⟩ ++ itb st ++ ⟨#[10]⟩ = lnb st e := by
  apply ba_ext
  unfold lnb wrb
  rw [bsq_list]
  simp [ByteArray.data_append, linL, itb, bsq]
theorem lnb_size {st : Int} {e : EN} (h : vEn e = true) (h0 : 0 ≤ st) (h1 : st ≤ 65518) : (lnb st e).size ≤ 60 := by unfold lnb; rw [bsq_size]; exact linL_len h h0 h1
set_option maxHeartbeats 1600000 in
theorem spec_line (st : Int) (p : Addr) (o : EN) (w : World) (h0 : 0 ≤ st) (h1 : st ≤ 65518) (hv : vEn o = true) (hp : PEN w p o) :
    Calls Tryz.prog 81 #[.int .i64 st, .pointer (some p)] w (Ret (.string (lnb st o)) w) := by
  have hb1 := wrb_size hv
  have hb2 := itb_size st (by omega) (by omega)
  have HC1 := Lib.hid (spec_words p o w hv hp)
  have HC2 := Lib.hid (fun w => spec_Dec st (by omega) (by omega) w)
  have HE := Lib.hid (lnb_eq st o)
  have hc1 : ¬ 9223372036854775807 < (wrb o).size + 1 := by omega
  have hc2 : ¬ 9223372036854775807 < (wrb o).size + 1 + (itb st).size := by omega
  have hc3 : ¬ 9223372036854775807 < (wrb o).size + 1 + (itb st).size + 1 := by omega
  clear hb1 hb2 hv hp
  go_enter Tryz.func81, Tryz.ntmps81
  go_wp2_with fail
  refine (show Calls _ _ _ _ _ from HC1.out).mono ?_
  rintro e w1 ⟨rfl, hb1⟩
  go_wp2_with fail
  refine (show Calls _ _ _ _ _ from HC2.out _).mono ?_
  rintro e w2 ⟨rfl, hb2⟩
  go_wp2_with fail
  go_ret
  rw [HE.out]
  exact ⟨rfl, ext_trans hb1 hb2⟩

set_option maxHeartbeats 1600000 in
theorem impl_stamp (b : Int) (v : Value) (o : EN) (w : World) (h0 : 0 ≤ b) (h1 : b ≤ 65518) (hv : vEn o = true) (ha : REN w v o) (hL : LayF w) :
    Calls Tryz.prog 70 #[.int .i64 b, v] w (Ret (.int .i64 (stpb b (wrb o))) w) := by
  obtain rfl : v = _ := ha
  have HC1 : Hid (∀ T, Calls Tryz.prog 87 #[.agg #[.int .i64 o.day, .string o.what, .int .i64 o.val]] (w.alloc (.cells #[.int .i64 o.day, .string o.what, .int .i64 o.val] T)) (Ret (.string (wrb o)) (w.alloc (.cells #[.int .i64 o.day, .string o.what, .int .i64 o.val] T)))) := Lib.hid fun T => impl_words _ o _ hv rfl (hL.ext (ext_alloc1 _ _))
  have hsz := wrb_size hv
  have H0 := Lib.hid (stk_zero b (wrb o))
  have hm : Int.tmod (b + 29) 65519 = (b + 29) % 65519 := Int.tmod_eq_emod_of_nonneg (by omega)
  clear hv hL
  go_enter Tryz.func70, Tryz.ntmps70
  go_wp2_with fail
  refine (show Calls _ _ _ _ _ from HC1.out _).mono ?_
  rintro e w1 ⟨rfl, hb1⟩
  have HW := Lib.hid (ext_trans (ext_alloc1 _ _) hb1)
  clear hb1
  generalize wrb o = s at *
  go_wp2_with fail
  clear hm
  go_loop [5, 15] (fun t i => ∃ (k : Nat) (u : Int), k ≤ s.size ∧ i = .int .i64 k ∧ t = .int .i64 u ∧ 0 ≤ u ∧ u ≤ 65518 ∧ Hid (stk b s k = u)) (fun _ i => s.size - (intOf i).toNat)
  case atStart => exact ⟨0, _, Nat.zero_le _, rfl, rfl, by omega, by omega, H0.out⟩
  case round =>
    obtain ⟨k, u, hk, rfl, rfl, hu0, hu1, HU⟩ := hrel
    by_cases hlt : k < s.size
    · have e1 : (0:Int) ≤ k := by omega
      have e2 : (k:Int) < s.size := by omega
      have hy := byt_eq s k hlt
      have hyb := byt_bd s k
      have HS := Lib.hid (stk_succ b s k hlt)
      obtain ⟨y, hyy⟩ : ∃ y, byt s k = y := ⟨_, rfl⟩
      rw [hyy] at hy hyb HS
      clear hyy
      have hm : Int.tmod (37 * u + y) 65519 = (37 * u + y) % 65519 := Int.tmod_eq_emod_of_nonneg (by omega)
      go_wp2_with fail
      go_round
      case rel => exact ⟨k + 1, _, by omega, by go_num, rfl, by omega, by omega, by unfold Hid; rw [HS.out, HU.out]⟩
      case measure => simp [intOf]; omega
    · obtain rfl : k = s.size := by omega
      have HE : Hid (stpb b s = u) := Lib.hid (by rw [← stk_end]; exact HU.out)
      go_wp2_with fail
      go_ret
      exact ⟨ret_int HE.out.symm, HW.out⟩
end Go.Proofs.YtoefoljhgnfoiaaGreatDoor
