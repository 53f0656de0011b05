/-
  The reference's reading of numbers (l01Number).
-/
import Derived.Test.YtoefoljhgnfoiaaGreatDoorEnv
import Derived.Test.YtoefoljhgnfoiaaGreatDoorName
import Derived.Lib.IndexBytes
namespace Go.Proofs.YtoefoljhgnfoiaaGreatDoor
open Go.ChangeShapes Go.WideShapes Go.ChangeAt Go.RowKit Go.Sort
set_option linter.unusedVariables false
set_option maxRecDepth 8000

/-- The number of a text; 0 where there is none. -/
def rdv (s : ByteArray) : Int := (rdec s.data.toList).getD 0
def rdb (s : ByteArray) : Bool := (rdec s.data.toList).isSome
theorem rdv_range (s : ByteArray) : -1000000000000000000 < rdv s ∧ rdv s < 1000000000000000000 := by
  unfold rdv
  cases h : rdec s.data.toList with
  | none => decide
  | some v => exact rdec_range h
theorem rd_none {s : ByteArray} (h : rdec s.data.toList = none) : rdv s = 0 ∧ rdb s = false := by unfold rdv rdb; rw [h]; exact ⟨rfl, rfl⟩
theorem rd_some {s : ByteArray} {v : Int} (h : rdec s.data.toList = some v) : rdv s = v ∧ rdb s = true := by unfold rdv rdb; rw [h]; exact ⟨rfl, rfl⟩

theorem dgC_val {b : UInt8} : dgC (b.toNat : Int) = true ↔ ∃ d, Lib.digitVal b = some d := by
  unfold dgC Lib.digitVal
  constructor
  · intro h
    simp at h
    exact ⟨_, if_pos (by omega)⟩
  · rintro ⟨d, h⟩
    split at h
    · simp; omega
    · cases h
theorem dec_none {l : List UInt8} {k : Nat} {b : UInt8} (hb : l[k]? = some b) (h : dgC (b.toNat : Int) = false) : Lib.decFrom 0 l = none := by
  cases he : Lib.decFrom 0 l with
  | none => rfl
  | some n =>
    have := dgC_val.2 (Lib.digit_of_decFrom l 0 n he k b hb)
    rw [h] at this; cases this
theorem list_cons {s : ByteArray} (h : 0 < s.size) : ∃ c r, s.data.toList = c :: r ∧ (s[0]'h) = c := by
  have h' : 0 < s.data.toList.length := by rw [size_toList]; exact h
  cases he : s.data.toList with
  | nil => rw [he] at h'; simp at h'
  | cons c r =>
    refine ⟨c, r, rfl, ?_⟩
    have : (s.data.toList)[0]'h' = c := by simp [he]
    rw [← this]; rfl
theorem dec_step {l : List UInt8} {k m : Nat} {b : UInt8} (h : Lib.decFrom 0 (l.take k) = some m) (hb : l[k]? = some b) (h1 : 48 ≤ b.toNat) (h2 : b.toNat ≤ 57) : Lib.decFrom 0 (l.take (k + 1)) = some (10 * m + (b.toNat - 48)) := by
  rw [List.take_add_one, hb]
  show Lib.decFrom 0 (l.take k ++ [b]) = _
  rw [decFrom_append, h, Option.bind_some]
  unfold Lib.digitVal
  rw [if_pos (by omega)]
  simp only [Option.map_some, Option.some.injEq]
  omega
theorem lt_pow18 {l : List UInt8} {m : Nat} (h : Lib.decFrom 0 l = some m) (hl : l.length ≤ 18) : m < 1000000000000000000 := Lib.decFrom_lt18 h hl


theorem num_empty (w : World) : Calls Tryz.prog 76 #[.string ⟨#[]⟩] w (Ret (.tuple #[.int .i64 0, .bool false]) w) := by
  go_enter Tryz.func76, Tryz.ntmps76
  go_wp2_with fail
  go_ret2
  exact ⟨rfl, ext_refl _⟩
theorem str_some {s : ByteArray} (h : 0 < s.size) : ¬ s.toList = [] ∧ s.toList.isEmpty = false := by
  have hne : s ≠ ⟨#[]⟩ := by rintro rfl; exact absurd h (by decide)
  have hem2 : ¬ s.toList = [] := by
    have h := str_ne hne
    intro h2
    rw [h2] at h
    simp at h
  refine ⟨hem2, ?_⟩
  cases h : s.toList with
  | nil => exact absurd h hem2
  | cons a l => rfl
set_option maxHeartbeats 3200000 in
theorem num_minus (s : ByteArray) (hs : s.size ≤ maxLen) (r : List UInt8) (hl : s.data.toList = 45 :: r) (w : World) :
    Calls Tryz.prog 76 #[.string s] w (Ret (.tuple #[.int .i64 (rdv s), .bool (rdb s)]) w) := by
  unfold maxLen at hs
  have hz : 0 < s.size := by rw [← size_toList, hl]; simp
  obtain ⟨hem2, hem⟩ := str_some hz
  obtain ⟨c, r', hl', hc⟩ := list_cons (s := s) hz
  have hc45 : c = 45 := by rw [hl] at hl'; injection hl' with h1 h2; exact h1.symm
  have hc2 : (s[0].toNat : Int) = 45 := by rw [hc, hc45]; rfl
  clear hc hl' r'
  have e1 : (0 : Int) < s.size := by omega
  have e2 : (1 : Int) ≤ s.size := by omega
  have HRL : Hid (r.length + 1 = s.size) := Lib.hid (by rw [← size_toList, hl]; rfl)
  obtain ⟨t, ht⟩ : ∃ t, s.extract 1 s.size = t := ⟨_, rfl⟩
  have HT : Hid (trm s.data.toList = t.data.toList) := Lib.hid (by rw [← ht, Lib.extract_to_end, hl]; rfl)
  have htz : t.size + 1 = s.size := by
    rw [← size_toList t, ← HT.out, hl]; exact HRL.out
  have HSG : Hid (sgn s.data.toList = true) := Lib.hid (by rw [hl]; rfl)
  clear hl hc45
  by_cases hbad : t.size < 1 ∨ 18 < t.size
  · have HR : Hid (rdec s.data.toList = none) := Lib.hid (by unfold rdec; rw [HT.out, size_toList, if_pos hbad])
    have HTZ := Lib.hid htz
    by_cases h1 : t.size < 1
    · have hq2 : (t.size : Int) < 1 := by omega
      clear htz hbad h1
      go_enter Tryz.func76, Tryz.ntmps76
      go_wp2_with fail
      go_ret2
      rw [(rd_none HR.out).1, (rd_none HR.out).2]
      exact ⟨rfl, ext_refl _⟩
    · have hq2 : ¬ (t.size : Int) < 1 := by omega
      have hq4 : (18 : Int) < (t.size : Int) := by omega
      clear htz hbad h1
      go_enter Tryz.func76, Tryz.ntmps76
      go_wp2_with fail
      go_ret2
      rw [(rd_none HR.out).1, (rd_none HR.out).2]
      exact ⟨rfl, ext_refl _⟩
  · have hq2 : ¬ (t.size : Int) < 1 := by omega
    have hq4 : ¬ (18 : Int) < (t.size : Int) := by omega
    have HTZ := Lib.hid htz
    clear htz hbad
    go_enter Tryz.func76, Tryz.ntmps76
    go_wp2_with fail
    have htl : (t.size : Int) < s.size := by have := HTZ.out; omega
    have htl2 : t.size ≤ 18 := by omega
    have htl3 : 1 ≤ t.size := by omega
    clear ht hq2 hq4 hem hem2 hc2 e2
    -- the digits of the text t
    go_loop [5, 6] (fun n i => ∃ (k m : Nat), k ≤ t.size ∧ i = .int .i64 k ∧ n = .int .i64 m ∧ m < 1000000000000000000 ∧ Hid (Lib.decFrom 0 (t.data.toList.take k) = some m)) (fun _ i => t.size - (intOf i).toNat)
    case atStart => exact ⟨0, 0, Nat.zero_le _, rfl, rfl, by decide, Lib.hid rfl⟩
    case round =>
      obtain ⟨k, m, hk, rfl, rfl, hm, HD⟩ := hrel
      by_cases hlt : k < t.size
      · have e5 : (k:Int) < t.size := by omega
        have e6 : (0:Int) ≤ k := by omega
        have hy := byt_eq t k hlt
        have hyb := byt_bd t k
        have HGK : Hid (t.data.toList[k]? = some t[k]) := Lib.hid (Lib.data_getElem? t k hlt)
        obtain ⟨y, hyy⟩ : ∃ y, byt t k = y := ⟨_, rfl⟩
        rw [hyy] at hy hyb
        clear hyy
        have HY := Lib.hid hy
        have HC1 := Lib.hid (fun w => spec_digit y hyb.1 hyb.2 w)
        cases hd : dgC y with
        | false =>
          have HR : Hid (rdec s.data.toList = none) := Lib.hid (by
            unfold rdec
            rw [HT.out]
            split
            · rfl
            · rw [dec_none HGK.out (by rw [HY.out]; exact hd)])
          rw [hd] at HC1
          clear hd
          go_wp2_with fail
          refine (show Calls _ _ _ _ _ from HC1.out _).mono ?_
          rintro e w' ⟨rfl, rfl⟩
          go_wp2_with fail
          go_ret2
          rw [(rd_none HR.out).1, (rd_none HR.out).2]
          exact ⟨rfl, ext_refl _⟩
        | true =>
          rw [hd] at HC1
          have hd2 : 48 ≤ y ∧ y ≤ 57 := by simpa [dgC] using hd
          have HS : Hid (Lib.decFrom 0 (t.data.toList.take (k + 1)) = some (10 * m + (t[k].toNat - 48))) := Lib.hid (dec_step HD.out HGK.out (by have := HY.out; omega) (by have := HY.out; omega))
          have hm2 : 10 * m + (t[k].toNat - 48) < 1000000000000000000 := lt_pow18 HS.out (by rw [List.length_take]; omega)
          have hm3 : 10 * (m : Int) + (y - 48) < 1000000000000000000 := by have := HY.out; omega
          have hm4 : (((10 * m + (t[k].toNat - 48) : Nat)) : Int) = 10 * (m : Int) + (y - 48) := by have := HY.out; omega
          have HM4 := Lib.hid hm4
          have HM2 := Lib.hid hm2
          clear hd hm4 hm2
          go_wp2_with fail
          refine (show Calls _ _ _ _ _ from HC1.out _).mono ?_
          rintro e w' ⟨rfl, rfl⟩
          go_wp2_with fail
          go_round
          case rel => exact ⟨k + 1, _, by omega, by go_num, by rw [HM4.out], HM2.out, HS.out⟩
          case measure => simp [intOf]; omega
      · obtain rfl : k = t.size := by omega
        have HDF : Hid (Lib.decFrom 0 t.data.toList = some m) := Lib.hid (by
          have h := HD.out
          rwa [List.take_of_length_le (by rw [size_toList]; exact Nat.le_refl _)] at h)
        by_cases he : Lib.itoa (-(m : Int)) = s.data.toList
        · have HR : Hid (rdec s.data.toList = some (-(m : Int))) := Lib.hid (by
            unfold rdec sv
            rw [HT.out, HSG.out, if_neg (by rw [size_toList]; omega), HDF.out]
            simpa using he)
          have hit : itb (-(m : Int)) = s := itb_eq.2 he
          have HC := Lib.hid (spec_Dec (-(m : Int)) (by omega) (by omega) w)
          rw [hit] at HC
          clear hit he
          go_wp2_with fail
          refine (show Calls _ _ _ _ _ from HC.out).mono ?_
          rintro e w' ⟨rfl, hb⟩
          go_wp2_with fail
          go_ret2
          rw [(rd_some HR.out).1, (rd_some HR.out).2]
          exact ⟨rfl, hb⟩
        · have HR : Hid (rdec s.data.toList = none) := Lib.hid (by
            unfold rdec sv
            rw [HT.out, HSG.out, if_neg (by rw [size_toList]; omega), HDF.out]
            simpa using he)
          have hne : itb (-(m : Int)) ≠ s := fun h => he (itb_eq.1 h)
          have hst := str_ne hne
          have HC := Lib.hid (spec_Dec (-(m : Int)) (by omega) (by omega) w)
          clear hne he
          go_wp2_with fail
          refine (show Calls _ _ _ _ _ from HC.out).mono ?_
          rintro e w' ⟨rfl, hb⟩
          go_wp2_with fail
          go_ret2
          rw [(rd_none HR.out).1, (rd_none HR.out).2]
          exact ⟨rfl, hb⟩
set_option maxHeartbeats 3200000 in
theorem num_plain (s : ByteArray) (hs : s.size ≤ maxLen) (c : UInt8) (r : List UInt8) (hl : s.data.toList = c :: r) (h45 : c ≠ 45) (w : World) :
    Calls Tryz.prog 76 #[.string s] w (Ret (.tuple #[.int .i64 (rdv s), .bool (rdb s)]) w) := by
  unfold maxLen at hs
  have hz : 0 < s.size := by rw [← size_toList, hl]; simp
  obtain ⟨hem2, hem⟩ := str_some hz
  obtain ⟨c', r', hl', hc⟩ := list_cons (s := s) hz
  have hcc : c' = c := by rw [hl] at hl'; injection hl' with h1 h2; exact h1.symm
  have hc2 : ((s[0].toNat : Int) == 45) = false := by
    rw [hc, hcc, beq_eq_false_iff_ne]
    intro h
    exact u8_ne45 h45 (by omega)
  clear hc hl' r' hcc
  have e1 : (0 : Int) < s.size := by omega
  have HT : Hid (trm s.data.toList = s.data.toList) := Lib.hid (by rw [hl, trm_other _ _ h45])
  have HSG : Hid (sgn s.data.toList = false) := Lib.hid (by rw [hl, sgn_other _ _ h45])
  clear hl
  by_cases hbad : 18 < s.size
  · have HR : Hid (rdec s.data.toList = none) := Lib.hid (by unfold rdec; rw [HT.out, size_toList, if_pos (Or.inr hbad)])
    have hq2 : ¬ (s.size : Int) < 1 := by omega
    have hq4 : (18 : Int) < (s.size : Int) := by omega
    clear hbad
    go_enter Tryz.func76, Tryz.ntmps76
    go_wp2_with fail
    go_ret2
    rw [(rd_none HR.out).1, (rd_none HR.out).2]
    exact ⟨rfl, ext_refl _⟩
  · have hq2 : ¬ (s.size : Int) < 1 := by omega
    have hq4 : ¬ (18 : Int) < (s.size : Int) := by omega
    have htl2 : s.size ≤ 18 := by omega
    have htl3 : 1 ≤ s.size := by omega
    clear hbad
    go_enter Tryz.func76, Tryz.ntmps76
    go_wp2_with fail
    clear hq2 hq4 hem hem2 hc2
    -- the digits of the text t
    go_loop [5, 6] (fun n i => ∃ (k m : Nat), k ≤ s.size ∧ i = .int .i64 k ∧ n = .int .i64 m ∧ m < 1000000000000000000 ∧ Hid (Lib.decFrom 0 (s.data.toList.take k) = some m)) (fun _ i => s.size - (intOf i).toNat)
    case atStart => exact ⟨0, 0, Nat.zero_le _, rfl, rfl, by decide, Lib.hid rfl⟩
    case round =>
      obtain ⟨k, m, hk, rfl, rfl, hm, HD⟩ := hrel
      by_cases hlt : k < s.size
      · have e5 : (k:Int) < s.size := by omega
        have e6 : (0:Int) ≤ k := by omega
        have hy := byt_eq s k hlt
        have hyb := byt_bd s k
        have HGK : Hid (s.data.toList[k]? = some s[k]) := Lib.hid (Lib.data_getElem? s k hlt)
        obtain ⟨y, hyy⟩ : ∃ y, byt s k = y := ⟨_, rfl⟩
        rw [hyy] at hy hyb
        clear hyy
        have HY := Lib.hid hy
        have HC1 := Lib.hid (fun w => spec_digit y hyb.1 hyb.2 w)
        cases hd : dgC y with
        | false =>
          have HR : Hid (rdec s.data.toList = none) := Lib.hid (by
            unfold rdec
            rw [HT.out]
            split
            · rfl
            · rw [dec_none HGK.out (by rw [HY.out]; exact hd)])
          rw [hd] at HC1
          clear hd
          go_wp2_with fail
          refine (show Calls _ _ _ _ _ from HC1.out _).mono ?_
          rintro e w' ⟨rfl, rfl⟩
          go_wp2_with fail
          go_ret2
          rw [(rd_none HR.out).1, (rd_none HR.out).2]
          exact ⟨rfl, ext_refl _⟩
        | true =>
          rw [hd] at HC1
          have hd2 : 48 ≤ y ∧ y ≤ 57 := by simpa [dgC] using hd
          have HS : Hid (Lib.decFrom 0 (s.data.toList.take (k + 1)) = some (10 * m + (s[k].toNat - 48))) := Lib.hid (dec_step HD.out HGK.out (by have := HY.out; omega) (by have := HY.out; omega))
          have hm2 : 10 * m + (s[k].toNat - 48) < 1000000000000000000 := lt_pow18 HS.out (by rw [List.length_take]; omega)
          have hm3 : 10 * (m : Int) + (y - 48) < 1000000000000000000 := by have := HY.out; omega
          have hm4 : (((10 * m + (s[k].toNat - 48) : Nat)) : Int) = 10 * (m : Int) + (y - 48) := by have := HY.out; omega
          have HM4 := Lib.hid hm4
          have HM2 := Lib.hid hm2
          clear hd hm4 hm2
          go_wp2_with fail
          refine (show Calls _ _ _ _ _ from HC1.out _).mono ?_
          rintro e w' ⟨rfl, rfl⟩
          go_wp2_with fail
          go_round
          case rel => exact ⟨k + 1, _, by omega, by go_num, by rw [HM4.out], HM2.out, HS.out⟩
          case measure => simp [intOf]; omega
      · obtain rfl : k = s.size := by omega
        have HDF : Hid (Lib.decFrom 0 s.data.toList = some m) := Lib.hid (by
          have h := HD.out
          rwa [List.take_of_length_le (by rw [size_toList]; exact Nat.le_refl _)] at h)
        by_cases he : Lib.itoa ((m : Int)) = s.data.toList
        · have HR : Hid (rdec s.data.toList = some ((m : Int))) := Lib.hid (by
            unfold rdec sv
            rw [HT.out, HSG.out, if_neg (by rw [size_toList]; omega), HDF.out]
            simpa using he)
          have hit : itb ((m : Int)) = s := itb_eq.2 he
          have HC := Lib.hid (spec_Dec ((m : Int)) (by omega) (by omega) w)
          rw [hit] at HC
          clear hit he
          go_wp2_with fail
          refine (show Calls _ _ _ _ _ from HC.out).mono ?_
          rintro e w' ⟨rfl, hb⟩
          go_wp2_with fail
          go_ret2
          rw [(rd_some HR.out).1, (rd_some HR.out).2]
          exact ⟨rfl, hb⟩
        · have HR : Hid (rdec s.data.toList = none) := Lib.hid (by
            unfold rdec sv
            rw [HT.out, HSG.out, if_neg (by rw [size_toList]; omega), HDF.out]
            simpa using he)
          have hne : itb ((m : Int)) ≠ s := fun h => he (itb_eq.1 h)
          have hst := str_ne hne
          have HC := Lib.hid (spec_Dec ((m : Int)) (by omega) (by omega) w)
          clear hne he
          go_wp2_with fail
          refine (show Calls _ _ _ _ _ from HC.out).mono ?_
          rintro e w' ⟨rfl, hb⟩
          go_wp2_with fail
          go_ret2
          rw [(rd_none HR.out).1, (rd_none HR.out).2]
          exact ⟨rfl, hb⟩
theorem spec_Number (s : ByteArray) (hs : s.size ≤ maxLen) (w : World) :
    Calls Tryz.prog 76 #[.string s] w (Ret (.tuple #[.int .i64 (rdv s), .bool (rdb s)]) w) := by
  cases h : s.data.toList with
  | nil =>
    obtain rfl : s = ⟨#[]⟩ := ba_ext h
    exact num_empty w
  | cons c r =>
    by_cases h45 : c = 45
    · subst h45; exact num_minus s hs r h w
    · exact num_plain s hs c r h h45 w
end Go.Proofs.YtoefoljhgnfoiaaGreatDoor
