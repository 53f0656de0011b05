/-
  The laws' own small functions: f6big, f6sum.
-/
import Derived.Test.YtbggggaoljpfnaaGreatDoorBase
import Derived.Test.YtbggggaoljpfnaaGreatDoorByt
namespace Go.Proofs.YtbggggaoljpfnaaGreatDoor
open Go.ChangeShapes Go.WideShapes Go.ChangeAt Go.RowKit Go.Sort
set_option linter.unusedVariables false

theorem f6_big (v : Value) (bs : List UInt8) (w : World) (hR : RB w v bs) : Calls Tryz.prog 4 #[v] w (RetP (.bool (decide (4096 < bs.length))) w) := by
  obtain ⟨A, c, rfl, hc1, hc2, _⟩ := hR.open_
  clear hR
  unfold maxLen at hc2
  by_cases h : 4096 < bs.length
  · have HX : Hid (decide (4096 < bs.length) = true) := Lib.hid (decide_eq_true h)
    have e1 : (4096:Int) < bs.length := by omega
    go_enter Tryz.func4, Tryz.ntmps4
    go_wp2_with fail
    go_ret
    first | exact ⟨ret_bool HX.out.symm, rfl⟩ | exact ⟨rfl, rfl⟩
  · have HX : Hid (decide (4096 < bs.length) = false) := Lib.hid (decide_eq_false h)
    have e1 : ¬ (4096:Int) < bs.length := by omega
    go_enter Tryz.func4, Tryz.ntmps4
    go_wp2_with fail
    go_ret
    first | exact ⟨ret_bool HX.out.symm, rfl⟩ | exact ⟨rfl, rfl⟩
theorem f6_sum (v : Value) (xs : List Int) (w : World) (ha : RI w v xs) (hb : ∀ k, k ≤ xs.length → 0 ≤ (xs.take k).sum ∧ (xs.take k).sum ≤ 1000000000000000) :
    Calls Tryz.prog 29 #[v] w (Ret (.int .i64 xs.sum) w) := by
  obtain ⟨A, c, rfl, hc1, hc2, HA'⟩ := ha.open2
  unfold maxLen at hc2
  have HA := Lib.hid HA'; clear HA' ha
  have HBD := Lib.hid hb; clear hb
  go_enter Tryz.func29, Tryz.ntmps29
  go_wp2_with fail
  go_loopw [3, 4] (fun s i wr => ∃ k : Nat, k ≤ xs.length ∧ i = .int .i64 k ∧ s = .int .i64 (xs.take k).sum ∧ wr = w) (fun _ i _ => xs.length - (intOf i).toNat)
  case atStart => exact ⟨0, Nat.zero_le _, rfl, rfl, rfl⟩
  case round =>
    obtain ⟨k, hk, rfl, rfl, rfl⟩ := hrel
    by_cases hlt : k < xs.length
    · obtain ⟨ad, rfl, hbd, hc⟩ := HA.out k hlt
      replace hc := hc k hlt
      have e1 : (0:Int) ≤ k := by omega
      have e2 : (k:Int) < xs.length := by omega
      have h1 := HBD.out k hk
      have h2 := HBD.out (k + 1) hlt
      have HS : Hid ((xs.take (k + 1)).sum = (xs.take k).sum + gi xs k) := Lib.hid (by rw [take_succ_getD hlt, List.sum_append, List.sum_cons, List.sum_nil, Int.add_zero]; rfl)
      have HS2 := HS.out
      obtain ⟨s, hs⟩ : ∃ s, (xs.take k).sum = s := ⟨_, rfl⟩
      rw [hs] at h1 HS HS2
      rw [hs]
      obtain ⟨s2, hs2⟩ : ∃ s, (xs.take (k + 1)).sum = s := ⟨_, rfl⟩
      rw [hs2] at h2 HS2
      have e3 : 0 ≤ s + gi xs k ∧ s + gi xs k ≤ 1000000000000000 := by omega
      clear hs hs2 HS2
      go_wp2_with fail
      go_roundw
      case rel => exact ⟨k + 1, hlt, by go_num, by rw [HS.out], by first | rfl | trivial⟩
      case measure => simp [intOf]; omega
    · obtain rfl : k = xs.length := by omega
      have HT : Hid ((xs.take xs.length).sum = xs.sum) := Lib.hid (by rw [List.take_length])
      rw [HT.out]
      go_wp2_with fail
      go_ret
      exact ⟨rfl, ext_refl _⟩

end Go.Proofs.YtbggggaoljpfnaaGreatDoor
