/-
  Decimal numerals: the reference's walk (l01Dec), the program's (Decimal, by the shelf).
-/
import Derived.Test.YtoefoljhgnfoiaaGreatDoorByt
import Derived.Test.YtoefoljhgnfoiaaGreatDoorDecP
import Derived.IntWalk
import Derived.ChangeMaps5
import Derived.Deep.RegionHeld3
import Derived.Deep.DrawnRows
namespace Go.Proofs.YtoefoljhgnfoiaaGreatDoor
open Go.ChangeShapes Go.WideShapes Go.ChangeAt Go.RowKit Go.Sort
set_option linter.unusedVariables false
set_option maxRecDepth 8000
attribute [local go_sem ↓] Go.wp_at_zero Go.wp_at_succ

/-- The text of a number. -/
def itb (n : Int) : ByteArray := ⟨(Lib.itoa n).toArray⟩


set_option maxHeartbeats 1600000 in
theorem spec_Dec (n : Int) (h0 : -9223372036854775808 ≤ n) (h1 : n ≤ 9223372036854775807) (w : World) :
    Calls Tryz.prog 44 #[.int .i64 n] w (Ret (.string (itb n)) w) := by
  go_enter Tryz.func44, Tryz.ntmps44
  go_wp2_with fail
  go_loopw [3, 4] (fun o k wr => ∃ (k' : Int) (l : List UInt8) (A : Option Addr) (c : Nat), k = .int .i64 k' ∧ o = .slice A l.length c ∧ -9223372036854775808 ≤ k' ∧ k' ≤ 9223372036854775807 ∧ Hid (ddg n.natAbs = ddg k'.natAbs ++ l) ∧ Hid (OB wr w.heap.size (.slice A l.length c) l) ∧ Below w.heap.size w wr) (fun _ k _ => (intOf k).natAbs)
  case atStart => exact ⟨n, [], some ⟨w.heap.size, 0, none⟩, 0, rfl, rfl, h0, h1, Lib.hid (by simp), Lib.hid (ob_lit _ _ (Nat.le_refl _)), ext_alloc1 _ _⟩
  case round =>
    obtain ⟨k, l, A, c, rfl, rfl, hk0, hk1, HD, HO, hbw⟩ := hrel
    have hll : l.length ≤ 20 := by
      have h2 := congrArg List.length HD.out
      have h3 := ddg_length_le 19 n.natAbs (by omega)
      rw [List.length_append] at h2
      omega
    have HW := Lib.hid hbw; clear hbw
    have hsz := HW.out.size
    by_cases hz : k = 0
    · subst hz
      have HL : Hid (ddg n.natAbs = l) := Lib.hid (by rw [HD.out]; rfl)
      have hcv := conv_rb HO.out.rd
      by_cases hn : n = 0
      · have hl : l = [] := by rw [← HL.out, hn]; rfl
        have HI : Hid (itb n = ⟨#[48]⟩) := Lib.hid (by unfold itb; rw [hn, itoa_zero])
        have hl2 : ((l.length : Int) == 0) = true := by rw [hl]; rfl
        clear hl hcv hn
        go_wp2_with fail
        all_goals (go_ret; rw [HI.out]; exact ⟨rfl, HW.out⟩)
      · have hl : l ≠ [] := by rw [← HL.out]; exact ddg_ne _ (by omega)
        have hl2 : ((l.length : Int) == 0) = false := by
          have := List.length_pos_iff.2 hl
          simp; exact hl
        by_cases hneg : n < 0
        · have HI : Hid (itb n = ⟨#[45]⟩ ++ ⟨l.toArray⟩) := Lib.hid (by unfold itb; rw [itoa_neg n hneg, HL.out]; apply ByteArray.ext; simp [ByteArray.data_append])
          clear hl hn
          have hcat : ¬ 9223372036854775807 < (⟨#[45]⟩ : ByteArray).size + (⟨l.toArray⟩ : ByteArray).size := by show ¬ _ < 1 + l.toArray.size; simp; omega
          go_wp2_with fail
          all_goals (go_ret; rw [HI.out]; exact ⟨rfl, HW.out⟩)
        · have HI : Hid (itb n = ⟨l.toArray⟩) := Lib.hid (by unfold itb; rw [itoa_pos n (by omega), HL.out])
          clear hl hn
          go_wp2_with fail
          all_goals (go_ret; rw [HI.out]; exact ⟨rfl, HW.out⟩)
    · have e0 : (k == 0) = false := by simpa using hz
      obtain ⟨m, hm⟩ : ∃ m, k.natAbs / 10 = m := ⟨_, rfl⟩
      obtain ⟨q, hq⟩ : ∃ q, k.natAbs % 10 = q := ⟨_, rfl⟩
      have hq10 : q < 10 := by omega
      obtain ⟨x, hxx⟩ : ∃ x, UInt8.ofNat (48 + k.natAbs % 10) = x := ⟨_, rfl⟩
      have hx : (x.toNat : Int) = 48 + (q : Int) := by
        rw [← hxx, hq, UInt8.toNat_ofNat_of_lt' (by show 48 + q < 256; omega)]
        omega
      have hm10 : m < k.natAbs := by omega
      by_cases hp : 0 < k
      · have h1m : Int.tmod k 10 = (q : Int) := by rw [Int.tmod_eq_emod_of_nonneg (by omega)]; omega
        have h1q : Int.tdiv k 10 = (m : Int) := by rw [Int.tdiv_eq_ediv_of_nonneg (by omega)]; omega
        have e2 : ¬ (q : Int) < 0 := by omega
        have hkm : (m : Int).natAbs = m := by omega
        have HM := Lib.hid hm; clear hm
        clear hq
        have hb : OB (wr.alloc (.cells #[.int .u8 (48 + (q : Int))] 5)) w.heap.size (.slice (some ⟨wr.heap.size, 0, none⟩) 1 1) [x] := by rw [← hx]; exact ob_one wr _ hsz x
        have hsz1 : w.heap.size ≤ (wr.alloc (.cells #[.int .u8 (48 + (q : Int))] 5)).heap.size := by simp; omega
        have HD2 : Hid (ddg n.natAbs = ddg ((m : Int) : Int).natAbs ++ ([x] ++ l)) := Lib.hid (by rw [HD.out, ddg_step k.natAbs (by omega), hxx, (show k.natAbs / 10 = (m : Int).natAbs by rw [HM.out, hkm])]; simp)
        go_wp2_with (at_builtin; refine wpList_append_rb rfl _ _ rfl w.heap.size (.slice (some ⟨wr.heap.size, 0, none⟩) 1 1) (.slice A l.length c) [x] l rfl rfl hb ((HO.out.rd).ext (ext_alloc1 _ _)) (by simp) (by omega) hsz1 ?_; intro A2 c2 w2 hO2 hg2)
        go_roundw
        case rel => exact ⟨(m : Int), [x] ++ l, A2, c2, by go_num, by rw [List.length_append]; rfl, by omega, by omega, HD2.out, Lib.hid (by rw [List.length_append]; exact hO2), Chg.ext (ext_alloc HW.out _) hg2 (fun j hj => (hb.ge j hj).1)⟩
        case measure => simp [intOf]; omega
      have e3 : k = -(k.natAbs : Int) := by omega
      have h1m : Int.tmod k 10 = -(q : Int) := by
        rw [e3, Int.neg_tmod, Int.tmod_eq_emod_of_nonneg (by omega)]; omega
      have h1q : Int.tdiv k 10 = -(m : Int) := by
        rw [e3, Int.neg_tdiv, Int.tdiv_eq_ediv_of_nonneg (by omega)]; omega
      have hkm : (-(m : Int)).natAbs = m := by omega
      have HM := Lib.hid hm; clear hm
      clear hq e3
      by_cases hq0 : q = 0
      · subst hq0
        have h2m : Int.tmod k 10 = 0 := by omega
        have hx : (x.toNat : Int) = 48 := hx
        clear h1m
        have hb : OB (wr.alloc (.cells #[.int .u8 (48)] 5)) w.heap.size (.slice (some ⟨wr.heap.size, 0, none⟩) 1 1) [x] := by rw [← hx]; exact ob_one wr _ hsz x
        have hsz1 : w.heap.size ≤ (wr.alloc (.cells #[.int .u8 (48)] 5)).heap.size := by simp; omega
        have HD2 : Hid (ddg n.natAbs = ddg ((-(m : Int)) : Int).natAbs ++ ([x] ++ l)) := Lib.hid (by rw [HD.out, ddg_step k.natAbs (by omega), hxx, (show k.natAbs / 10 = (-(m : Int)).natAbs by rw [HM.out, hkm])]; simp)
        go_wp2_with (at_builtin; refine wpList_append_rb rfl _ _ rfl w.heap.size (.slice (some ⟨wr.heap.size, 0, none⟩) 1 1) (.slice A l.length c) [x] l rfl rfl hb ((HO.out.rd).ext (ext_alloc1 _ _)) (by simp) (by omega) hsz1 ?_; intro A2 c2 w2 hO2 hg2)
        go_roundw
        case rel => exact ⟨(-(m : Int)), [x] ++ l, A2, c2, by go_num, by rw [List.length_append]; rfl, by omega, by omega, HD2.out, Lib.hid (by rw [List.length_append]; exact hO2), Chg.ext (ext_alloc HW.out _) hg2 (fun j hj => (hb.ge j hj).1)⟩
        case measure => simp [intOf]; omega
      · have e2 : -(q : Int) < 0 := by omega
        have hb : OB (wr.alloc (.cells #[.int .u8 (48 + (q : Int))] 5)) w.heap.size (.slice (some ⟨wr.heap.size, 0, none⟩) 1 1) [x] := by rw [← hx]; exact ob_one wr _ hsz x
        have hsz1 : w.heap.size ≤ (wr.alloc (.cells #[.int .u8 (48 + (q : Int))] 5)).heap.size := by simp; omega
        have HD2 : Hid (ddg n.natAbs = ddg ((-(m : Int)) : Int).natAbs ++ ([x] ++ l)) := Lib.hid (by rw [HD.out, ddg_step k.natAbs (by omega), hxx, (show k.natAbs / 10 = (-(m : Int)).natAbs by rw [HM.out, hkm])]; simp)
        go_wp2_with (at_builtin; refine wpList_append_rb rfl _ _ rfl w.heap.size (.slice (some ⟨wr.heap.size, 0, none⟩) 1 1) (.slice A l.length c) [x] l rfl rfl hb ((HO.out.rd).ext (ext_alloc1 _ _)) (by simp) (by omega) hsz1 ?_; intro A2 c2 w2 hO2 hg2)
        go_roundw
        case rel => exact ⟨(-(m : Int)), [x] ++ l, A2, c2, by go_num, by rw [List.length_append]; rfl, by omega, by omega, HD2.out, Lib.hid (by rw [List.length_append]; exact hO2), Chg.ext (ext_alloc HW.out _) hg2 (fun j hj => (hb.ge j hj).1)⟩
        case measure => simp [intOf]; omega

end Go.Proofs.YtoefoljhgnfoiaaGreatDoor
