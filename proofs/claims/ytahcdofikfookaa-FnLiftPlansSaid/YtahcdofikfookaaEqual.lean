/-
  slices.Equal of two slices of ints.
-/
import Derived.Test.YtahcdofikfookaaInts
namespace Go.Proofs.Ytahcdofikfookaa
open Go.ChangeShapes Go.WideShapes Go.ChangeAt Go.RowKit Go.Sort

theorem sl_equal (v1 v2 : Value) (xs ys : List Int) (w : World) (ha : RI w v1 xs) (hb : RI w v2 ys) :
    Calls Try.prog 44 #[v1, v2] w (Ret (.bool (decide (xs = ys))) w) := by
  obtain ⟨A, c, rfl, hc1, hc2, HA'⟩ := ha.open_
  obtain ⟨B, d, rfl, hd1, hd2, HB'⟩ := hb.open_
  unfold maxLen at hc2 hd2
  have HA := Lib.hid HA'; clear HA' ha
  have HB := Lib.hid HB'; clear HB' hb
  generalize hn : xs.length = n at *
  generalize hm : ys.length = m at *
  have HN := Lib.hid hn; clear hn
  have HM := Lib.hid hm; clear hm
  by_cases hl : n = m
  · subst hl
    go_enter Try.func44, Try.ntmps44
    go_wp2
    go_loopw [13] (fun i wr => ∃ k q : Nat, k ≤ n ∧ i = .int .i64 k ∧ wr = w.drewN q ∧ xs.take k = ys.take k) (fun i _ => n - (intOf i).toNat)
    case atStart => exact ⟨0, 0, Nat.zero_le _, rfl, rfl, rfl⟩
    case round =>
      obtain ⟨k, q, hk, rfl, rfl, htk⟩ := hrel
      have HT := Lib.hid htk; clear htk
      by_cases hlt : k < n
      · obtain ⟨ad, rfl, hbd, hc⟩ := HA.out k (by have := HN.out; omega)
        obtain ⟨bd, rfl, hbd2, hc2⟩ := HB.out k (by have := HM.out; omega)
        replace hc := hc k (by have := HN.out; omega)
        replace hc2 := hc2 k (by have := HM.out; omega)
        have e1 : (0:Int) ≤ k := by omega
        have e2 : (k:Int) < n := by omega
        go_wp2
        go_quiet (fail)
        go_wp2
        · go_ret
          rename_i hne
          exact ⟨ret_bool (by simp [bne_get hne]), ext_drewN (ext_drewN (ext_refl w) _) _⟩
        · go_roundw
          case rel => exact ⟨k + 1, _, by omega, by go_num, rfl, eq_take (by rw [HN.out, HM.out]) (by rw [HN.out]; omega) HT.out (by rename_i he; simpa using he)⟩
          case measure => simp [intOf]; omega
      · go_wp2
        go_ret
        have hkn : k = n := by omega
        subst hkn
        refine ⟨ret_bool ?_, ext_drewN (ext_refl w) _⟩
        have := HT.out
        rw [List.take_of_length_le (by have := HN.out; omega), List.take_of_length_le (by have := HM.out; omega)] at this
        simp [this]
  · go_enter Try.func44, Try.ntmps44
    go_wp2
    go_ret
    refine ⟨ret_bool ?_, ext_refl w⟩
    have : xs ≠ ys := by rintro rfl; exact hl (HN.out.symm.trans HM.out)
    simp [this]

end Go.Proofs.Ytahcdofikfookaa
