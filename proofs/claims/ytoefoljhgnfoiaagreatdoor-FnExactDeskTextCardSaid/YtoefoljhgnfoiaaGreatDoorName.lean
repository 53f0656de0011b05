/-
  Names (IsName): of the reference and of the program.
-/
import Derived.Test.YtoefoljhgnfoiaaGreatDoorBase
import Derived.IntWalk
namespace Go.Proofs.YtoefoljhgnfoiaaGreatDoor
open Go.ChangeShapes Go.WideShapes Go.ChangeAt Go.RowKit Go.Sort
set_option linter.unusedVariables false

/-- Byte k of a text, as a number. -/
def byt (s : ByteArray) (k : Nat) : Int := ((s.data.toList.getD k 0).toNat : Int)
theorem byt_eq (s : ByteArray) (k : Nat) (h : k < s.size) : (s[k].toNat : Int) = byt s k := by
  have h' : k < s.data.toList.length := by simpa using h
  unfold byt
  rw [List.getD_eq_getElem?_getD, List.getElem?_eq_getElem h']
  rfl
theorem byt_bd (s : ByteArray) (k : Nat) : 0 ≤ byt s k ∧ byt s k ≤ 255 := by
  unfold byt
  have := (s.data.toList.getD k 0).toNat_lt
  omega
/-- A small letter; a digit; a byte of a name. -/
def smC (c : Int) : Bool := decide (97 ≤ c) && decide (c ≤ 122)
def dgC (c : Int) : Bool := decide (48 ≤ c) && decide (c ≤ 57)
def nbC (c : Int) : Bool := smC c || dgC c || c == 45
def nbs (s : ByteArray) (k : Nat) : Bool := (List.range k).all fun i => nbC (byt s i)
theorem nbs_succ (s : ByteArray) (k : Nat) : nbs s (k + 1) = (nbs s k && nbC (byt s k)) := by simp [nbs, List.range_succ]
theorem nbs_no {s : ByteArray} {k n : Nat} (hk : k < n) (h : nbC (byt s k) = false) : nbs s n = false := by
  unfold nbs
  rw [List.all_eq_false]
  exact ⟨k, by simpa using hk, by simp [h]⟩
def isN (s : ByteArray) : Bool := decide (1 ≤ s.size) && decide (s.size ≤ 12) && smC (byt s 0) && nbs s s.size

theorem spec_small (c : Int) (h0 : 0 ≤ c) (h1 : c ≤ 255) (w : World) : Calls Tryz.prog 64 #[.int .u8 c] w (RetP (.bool (smC c)) w) := by
  by_cases h2 : 97 ≤ c
  · have e1 : decide (97 ≤ c) = true := decide_eq_true h2
    have HX : Hid (smC c = decide (c ≤ 122)) := Lib.hid (by unfold smC; rw [e1]; rfl)
    go_enter Tryz.func64, Tryz.ntmps64
    go_wp2
    go_ret
    exact ⟨ret_bool (by rw [HX.out]), rfl⟩
  · have e1 : decide (97 ≤ c) = false := decide_eq_false h2
    have HX : Hid (smC c = false) := Lib.hid (by unfold smC; rw [e1]; rfl)
    go_enter Tryz.func64, Tryz.ntmps64
    go_wp2
    go_ret
    exact ⟨ret_bool (by rw [HX.out]), rfl⟩
theorem spec_digit (c : Int) (h0 : 0 ≤ c) (h1 : c ≤ 255) (w : World) : Calls Tryz.prog 65 #[.int .u8 c] w (RetP (.bool (dgC c)) w) := by
  by_cases h2 : 48 ≤ c
  · have e1 : decide (48 ≤ c) = true := decide_eq_true h2
    have HX : Hid (dgC c = decide (c ≤ 57)) := Lib.hid (by unfold dgC; rw [e1]; rfl)
    go_enter Tryz.func65, Tryz.ntmps65
    go_wp2
    go_ret
    exact ⟨ret_bool (by rw [HX.out]), rfl⟩
  · have e1 : decide (48 ≤ c) = false := decide_eq_false h2
    have HX : Hid (dgC c = false) := Lib.hid (by unfold dgC; rw [e1]; rfl)
    go_enter Tryz.func65, Tryz.ntmps65
    go_wp2
    go_ret
    exact ⟨ret_bool (by rw [HX.out]), rfl⟩

theorem nm_cases (y : Int) : (y = 45) ∨ (y < 48 ∧ y ≠ 45) ∨ (48 ≤ y ∧ y ≤ 57) ∨ (58 ≤ y ∧ y ≤ 96) ∨ (97 ≤ y ∧ y ≤ 122) ∨ 123 ≤ y := by omega

set_option maxHeartbeats 1600000 in
theorem impl_IsName (s : ByteArray) (hs : s.size ≤ maxLen) (w : World) :
    Calls Tryz.prog 34 #[.string s] w (RetP (.bool (isN s)) w) := by
  unfold maxLen at hs
  by_cases h1 : s.size < 1
  · have h2 : s.size = 0 := by omega
    have e1 : (s.size : Int) < 1 := by omega
    have HX : Hid (isN s = false) := Lib.hid (by unfold isN; rw [h2]; rfl)
    go_enter Tryz.func34, Tryz.ntmps34
    go_wp2_with fail
    go_ret
    exact ⟨ret_bool (by rw [HX.out]), rfl⟩
  · have e1 : ¬ (s.size : Int) < 1 := by omega
    by_cases h3 : 12 < s.size
    · have e2 : (12 : Int) < s.size := by omega
      have HX : Hid (isN s = false) := Lib.hid (by unfold isN; rw [decide_eq_false (show ¬ s.size ≤ 12 by omega)]; simp)
      go_enter Tryz.func34, Tryz.ntmps34
      go_wp2_with fail
      go_ret
      exact ⟨ret_bool (by rw [HX.out]), rfl⟩
    · have e2 : ¬ (12 : Int) < s.size := by omega
      have hb0 := byt_eq s 0 (by omega)
      obtain ⟨z, hz⟩ : ∃ z, byt s 0 = z := ⟨_, rfl⟩
      have hzb := byt_bd s 0
      rw [hz] at hb0 hzb
      by_cases h4 : smC z = true
      · have h5 : 97 ≤ z ∧ z ≤ 122 := by simpa [smC] using h4
        have e3 : decide (z < 97) = false := by simp; omega
        have e4 : decide (122 < z) = false := by simp; omega
        have HI : Hid (isN s = nbs s s.size) := Lib.hid (by unfold isN; rw [hz, h4, decide_eq_true (show 1 ≤ s.size by omega), decide_eq_true (show s.size ≤ 12 by omega)]; rfl)
        have HN1 : Hid (nbs s 1 = true) := Lib.hid (by rw [nbs_succ, hz]; unfold nbC; rw [h4]; rfl)
        clear h4 hz
        go_enter Tryz.func34, Tryz.ntmps34
        go_wp2_with fail
        clear hb0 e3 e4 h5 hzb
        go_loop [3] (fun i => ∃ k : Nat, 1 ≤ k ∧ k ≤ s.size ∧ i = .int .i64 k ∧ Hid (nbs s k = true)) (fun i => s.size - (intOf i).toNat)
        case atStart => exact ⟨1, Nat.le_refl _, by omega, rfl, HN1.out⟩
        case round =>
          obtain ⟨k, hk1, hk, rfl, HT⟩ := hrel
          by_cases hlt : k < s.size
          · have e5 : (k:Int) < s.size := by omega
            have e6 : (0:Int) ≤ k := by omega
            have hy := byt_eq s k hlt
            have hyb := byt_bd s k
            obtain ⟨y, hyy⟩ : ∃ y, byt s k = y := ⟨_, rfl⟩
            rw [hyy] at hy hyb
            have HY := Lib.hid hyy; clear hyy
            rcases nm_cases y with hxy | hxy | hxy | hxy | hxy | hxy
            · skip
              have e97 : decide (y < 97) = true := decide_eq_true (by omega)
              have e122 : decide (122 < y) = false := decide_eq_false (by omega)
              have e48 : decide (y < 48) = true := decide_eq_true (by omega)
              have e57 : decide (57 < y) = false := decide_eq_false (by omega)
              have HB : Hid (nbC (byt s k) = true) := Lib.hid (by rw [HY.out]; simp [nbC, smC, dgC]; omega)
              go_wp2_with fail
              go_round
              case rel => exact ⟨k + 1, by omega, by omega, by go_num, by unfold Hid; rw [nbs_succ, HT.out, HB.out]; rfl⟩
              case measure => simp [intOf]; omega
            · skip
              have e97 : decide (y < 97) = true := decide_eq_true (by omega)
              have e122 : decide (122 < y) = false := decide_eq_false (by omega)
              have e48 : decide (y < 48) = true := decide_eq_true (by omega)
              have e57 : decide (57 < y) = false := decide_eq_false (by omega)
              have HB : Hid (nbC (byt s k) = false) := Lib.hid (by rw [HY.out]; simp [nbC, smC, dgC]; omega)
              go_wp2_with fail
              go_ret
              exact ⟨ret_bool (by rw [HI.out, nbs_no hlt HB.out]), rfl⟩
            · skip
              have e97 : decide (y < 97) = true := decide_eq_true (by omega)
              have e122 : decide (122 < y) = false := decide_eq_false (by omega)
              have e48 : decide (y < 48) = false := decide_eq_false (by omega)
              have e57 : decide (57 < y) = false := decide_eq_false (by omega)
              have HB : Hid (nbC (byt s k) = true) := Lib.hid (by rw [HY.out]; simp [nbC, smC, dgC]; omega)
              go_wp2_with fail
              go_round
              case rel => exact ⟨k + 1, by omega, by omega, by go_num, by unfold Hid; rw [nbs_succ, HT.out, HB.out]; rfl⟩
              case measure => simp [intOf]; omega
            · skip
              have e97 : decide (y < 97) = true := decide_eq_true (by omega)
              have e122 : decide (122 < y) = false := decide_eq_false (by omega)
              have e48 : decide (y < 48) = false := decide_eq_false (by omega)
              have e57 : decide (57 < y) = true := decide_eq_true (by omega)
              have HB : Hid (nbC (byt s k) = false) := Lib.hid (by rw [HY.out]; simp [nbC, smC, dgC]; omega)
              go_wp2_with fail
              go_ret
              exact ⟨ret_bool (by rw [HI.out, nbs_no hlt HB.out]), rfl⟩
            · skip
              have e97 : decide (y < 97) = false := decide_eq_false (by omega)
              have e122 : decide (122 < y) = false := decide_eq_false (by omega)
              have e48 : decide (y < 48) = false := decide_eq_false (by omega)
              have e57 : decide (57 < y) = true := decide_eq_true (by omega)
              have HB : Hid (nbC (byt s k) = true) := Lib.hid (by rw [HY.out]; simp [nbC, smC, dgC]; omega)
              go_wp2_with fail
              go_round
              case rel => exact ⟨k + 1, by omega, by omega, by go_num, by unfold Hid; rw [nbs_succ, HT.out, HB.out]; rfl⟩
              case measure => simp [intOf]; omega
            · skip
              have e97 : decide (y < 97) = false := decide_eq_false (by omega)
              have e122 : decide (122 < y) = true := decide_eq_true (by omega)
              have e48 : decide (y < 48) = false := decide_eq_false (by omega)
              have e57 : decide (57 < y) = true := decide_eq_true (by omega)
              have HB : Hid (nbC (byt s k) = false) := Lib.hid (by rw [HY.out]; simp [nbC, smC, dgC]; omega)
              go_wp2_with fail
              go_ret
              exact ⟨ret_bool (by rw [HI.out, nbs_no hlt HB.out]), rfl⟩
          · have hkn : k = s.size := by omega
            subst hkn
            go_wp2_with fail
            go_ret
            exact ⟨ret_bool (by rw [HI.out, HT.out]), rfl⟩
      · have HX : Hid (isN s = false) := Lib.hid (by unfold isN; rw [hz, show smC z = false from by simpa using h4]; simp)
        by_cases h6 : z < 97
        · have e3 : decide (z < 97) = true := by simpa using h6
          clear h4 hz
          go_enter Tryz.func34, Tryz.ntmps34
          go_wp2_with fail
          go_ret
          exact ⟨ret_bool (by rw [HX.out]), rfl⟩
        · have e3 : decide (z < 97) = false := by simpa using h6
          have e4 : decide (122 < z) = true := by
            rw [decide_eq_true_eq]
            have : ¬ (97 ≤ z ∧ z ≤ 122) := fun h => h4 (by simp [smC, h.1, h.2])
            omega
          clear h4 hz
          go_enter Tryz.func34, Tryz.ntmps34
          go_wp2_with fail
          go_ret
          exact ⟨ret_bool (by rw [HX.out]), rfl⟩

set_option maxHeartbeats 1600000 in
theorem spec_IsName (s : ByteArray) (hs : s.size ≤ maxLen) (w : World) :
    Calls Tryz.prog 50 #[.string s] w (RetP (.bool (isN s)) w) := by
  unfold maxLen at hs
  by_cases h1 : s.size < 1
  · have h2 : s.size = 0 := by omega
    have HX : Hid (isN s = false) := Lib.hid (by unfold isN; rw [h2]; rfl)
    obtain rfl : s = ⟨#[]⟩ := by
      cases s with
      | mk d => exact congrArg _ (Array.eq_empty_of_size_eq_zero h2)
    go_enter Tryz.func50, Tryz.ntmps50
    go_wp2_with fail
    go_ret
    exact ⟨ret_bool (by rw [HX.out]), rfl⟩
  · have hne : s ≠ ⟨#[]⟩ := by rintro rfl; exact h1 (by decide)
    have hem2 : ¬ s.toList = [] := by
      have h := str_ne hne
      intro h2
      rw [h2] at h
      simp at h
    have hem : s.toList.isEmpty = false := by
      cases h : s.toList with
      | nil => exact absurd h hem2
      | cons a l => rfl
    clear hne
    by_cases h3 : 12 < s.size
    · have e2 : (12 : Int) < s.size := by omega
      have HX : Hid (isN s = false) := Lib.hid (by unfold isN; rw [decide_eq_false (show ¬ s.size ≤ 12 by omega)]; simp)
      go_enter Tryz.func50, Tryz.ntmps50
      go_wp2_with fail
      go_ret
      exact ⟨ret_bool (by rw [HX.out]), rfl⟩
    · have e2 : ¬ (12 : Int) < s.size := by omega
      have e1 : (0 : Int) < s.size := by omega
      have hb0 := byt_eq s 0 (by omega)
      obtain ⟨z, hz⟩ : ∃ z, byt s 0 = z := ⟨_, rfl⟩
      have hzb := byt_bd s 0
      rw [hz] at hb0 hzb
      cases h4 : smC z with
      | true =>
        have HI : Hid (isN s = nbs s s.size) := Lib.hid (by unfold isN; rw [hz, h4, decide_eq_true (show 1 ≤ s.size by omega), decide_eq_true (show s.size ≤ 12 by omega)]; rfl)
        have HC := Lib.hid (fun w => h4 ▸ spec_small z hzb.1 hzb.2 w)
        clear h4 hz hzb
        go_enter Tryz.func50, Tryz.ntmps50
        go_wp2_with fail
        refine (show Calls _ _ _ _ _ from HC.out _).mono ?_
        rintro e w' ⟨rfl, rfl⟩
        go_wp2_with fail
        clear hb0 HC hem hem2
        go_loop [3] (fun i => ∃ k : Nat, k ≤ s.size ∧ i = .int .i64 k ∧ Hid (nbs s k = true)) (fun i => s.size - (intOf i).toNat)
        case atStart => exact ⟨0, Nat.zero_le _, rfl, rfl⟩
        case round =>
          obtain ⟨k, hk, rfl, HT⟩ := hrel
          by_cases hlt : k < s.size
          · have e5 : (k:Int) < s.size := by omega
            have e6 : (0:Int) ≤ k := by omega
            have hy := byt_eq s k hlt
            have hyb := byt_bd s k
            obtain ⟨y, hyy⟩ : ∃ y, byt s k = y := ⟨_, rfl⟩
            rw [hyy] at hy hyb
            have HY := Lib.hid hyy; clear hyy
            have HC1 := Lib.hid (fun w => spec_small y hyb.1 hyb.2 w)
            have HC2 := Lib.hid (fun w => spec_digit y hyb.1 hyb.2 w)
            clear hyb
            go_wp2_with fail
            refine (show Calls _ _ _ _ _ from HC1.out _).mono ?_
            rintro e w' ⟨rfl, rfl⟩
            cases hs1 : smC y with
            | true =>
              have HB : Hid (nbC (byt s k) = true) := Lib.hid (by rw [HY.out]; unfold nbC; rw [hs1]; rfl)
              clear hs1
              go_wp2_with fail
              go_round
              case rel => exact ⟨k + 1, by omega, by go_num, by unfold Hid; rw [nbs_succ, HT.out, HB.out]; rfl⟩
              case measure => simp [intOf]; omega
            | false =>
              have HS1 := Lib.hid hs1; clear hs1
              go_wp2_with fail
              refine (show Calls _ _ _ _ _ from HC2.out _).mono ?_
              rintro e w' ⟨rfl, rfl⟩
              cases hd1 : dgC y with
              | true =>
                have HB : Hid (nbC (byt s k) = true) := Lib.hid (by rw [HY.out]; unfold nbC; rw [hd1]; simp)
                clear hd1
                go_wp2_with fail
                go_round
                case rel => exact ⟨k + 1, by omega, by go_num, by unfold Hid; rw [nbs_succ, HT.out, HB.out]; rfl⟩
                case measure => simp [intOf]; omega
              | false =>
                have HD1 := Lib.hid hd1; clear hd1
                by_cases hy5 : y = 45
                · have HB : Hid (nbC (byt s k) = true) := Lib.hid (by rw [HY.out]; unfold nbC; rw [hy5]; rfl)
                  go_wp2_with fail
                  go_round
                  case rel => exact ⟨k + 1, by omega, by go_num, by unfold Hid; rw [nbs_succ, HT.out, HB.out]; rfl⟩
                  case measure => simp [intOf]; omega
                · have HB : Hid (nbC (byt s k) = false) := Lib.hid (by rw [HY.out]; unfold nbC; rw [HS1.out, HD1.out]; simpa using hy5)
                  go_wp2_with fail
                  go_ret
                  exact ⟨ret_bool (by rw [HI.out, nbs_no hlt HB.out]), rfl⟩
          · have hkn : k = s.size := by omega
            subst hkn
            go_wp2_with fail
            go_ret
            exact ⟨ret_bool (by rw [HI.out, HT.out]), rfl⟩
      | false =>
        have HX : Hid (isN s = false) := Lib.hid (by unfold isN; rw [hz, h4]; simp)
        have HC := Lib.hid (fun w => h4 ▸ spec_small z hzb.1 hzb.2 w)
        clear h4 hz hzb
        go_enter Tryz.func50, Tryz.ntmps50
        go_wp2_with fail
        refine (show Calls _ _ _ _ _ from HC.out _).mono ?_
        rintro e w' ⟨rfl, rfl⟩
        go_wp2_with fail
        go_ret
        exact ⟨ret_bool (by rw [HX.out]), rfl⟩

end Go.Proofs.YtoefoljhgnfoiaaGreatDoor
