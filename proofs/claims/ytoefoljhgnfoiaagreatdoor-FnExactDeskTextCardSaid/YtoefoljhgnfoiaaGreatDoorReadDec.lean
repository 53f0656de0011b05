/-
  The program's ReadDecimal, and the library's Split and Cut at one byte, in the words of these texts.
-/
import Derived.Test.YtoefoljhgnfoiaaGreatDoorNum
import Derived.Test.YtoefoljhgnfoiaaGreatDoorSplit
import Derived.Test.YtoefoljhgnfoiaaGreatDoorImpDec
import Derived.Test.YtoefoljhgnfoiaaGreatDoorShelf
import Derived.Lib.AtoiErrMem
import Derived.Lib.ParseIntBTie
namespace Go.Proofs.YtoefoljhgnfoiaaGreatDoor
open Go.ChangeShapes Go.WideShapes Go.ChangeAt Go.RowKit Go.Sort
set_option linter.unusedVariables false
set_option maxRecDepth 8000
attribute [local go_sem ↓] Go.wp_at_zero Go.wp_at_succ

theorem trim_minus (l : List UInt8) : Lib.trimPrefix l [45] = trm l := by
  unfold Lib.trimPrefix
  cases l with
  | nil => rfl
  | cons c r =>
    by_cases h : c = 45
    · subst h; rfl
    · rw [trm_other _ _ h]
      have : Lib.hasPrefix (c :: r) [45] = false := by
        unfold Lib.hasPrefix
        simp [List.isPrefixOf]
        exact fun e => h e.symm
      rw [this]; rfl
theorem trm_bds (l : List UInt8) : (trm l).length ≤ l.length ∧ l.length ≤ (trm l).length + 1 := by
  unfold trm
  split <;> simp
theorem str_beq (s : ByteArray) : (s.toList == s.toList) = true := by simp

theorem impl_Parse_no (s : ByteArray) (hs : s.size ≤ 1048576) (h : ∀ v, Lib.parseIntB 64 s.data.toList ≠ .ok v) (w : World) (hE : Env w) :
    Calls Tryz.prog 97 #[.string s, .int .i64 10, .int .i64 64] w fun e w' => ∃ (x : Int) (t : TypeId) (p : Value), e = .returned (.tuple #[.int .i64 x, .iface t p]) ∧ Below w.heap.size w w' := by
  obtain ⟨_, _, ⟨a, b, h3⟩, ⟨c, d, h4⟩⟩ := hE
  cases hp : Lib.parseIntB 64 s.data.toList with
  | ok v => exact absurd hp (h v)
  | range => exact (Any.strconv_ParseInt_10_at64_range_var Tryz.laysC174 s (by omega) hp c d w h4).mono fun e w' ⟨N, h1, _, _, h2⟩ => ⟨_, _, _, h1, h2⟩
  | _ => exact (Any.strconv_ParseInt_10_at64_syntax_var Tryz.laysC174 s (by omega) hp a b w h3).mono fun e w' ⟨N, h1, _, _, h2⟩ => ⟨_, _, _, h1, h2⟩

set_option maxHeartbeats 1600000 in
theorem impl_ReadDecimal (s : ByteArray) (hs : s.size ≤ 1048576) (w : World) (hE : Env w) :
    Calls Tryz.prog 85 #[.string s] w (Ret (.tuple #[.int .i64 (rdv s), .bool (rdb s)]) w) := by
  have HTP : Hid (∀ w, Calls Tryz.prog 96 #[.string s, .string ⟨#[45]⟩] w (RetP (.string (bsq (trm s.data.toList))) w)) := Lib.hid fun w => (Tryz.strings_TrimPrefix s ⟨#[45]⟩ w).mono fun e w' ⟨h1, h2⟩ => ⟨by rw [h1]; show Ending.returned (.string ⟨(Lib.trimPrefix s.data.toList [45]).toArray⟩) = _; rw [trim_minus]; rfl, h2.symm⟩
  have hb := trm_bds s.data.toList
  rw [size_toList] at hb
  by_cases h19 : 19 < s.size
  · have HR : Hid (rdec s.data.toList = none) := Lib.hid (rdec_long (by omega))
    have e1 : (19 : Int) < s.size := by omega
    clear hb hE
    go_enter Tryz.func85, Tryz.ntmps85
    go_wp2_with fail
    go_ret2
    rw [(rd_none HR.out).1, (rd_none HR.out).2]
    exact ⟨rfl, ext_refl _⟩
  have e1 : ¬ (19 : Int) < s.size := by omega
  by_cases h18 : 18 < (trm s.data.toList).length
  · have HR : Hid (rdec s.data.toList = none) := Lib.hid (rdec_long h18)
    have e2 : (18 : Int) < (bsq (trm s.data.toList)).size := by rw [bsq_size]; omega
    clear hb hE h18 h19
    go_enter Tryz.func85, Tryz.ntmps85
    go_wp2_with fail
    refine (show Calls _ _ _ _ _ from HTP.out _).mono ?_
    rintro e w1 ⟨rfl, rfl⟩
    go_wp2_with fail
    go_ret2
    rw [(rd_none HR.out).1, (rd_none HR.out).2]
    exact ⟨rfl, ext_refl _⟩
  have e2 : ¬ (18 : Int) < (bsq (trm s.data.toList)).size := by rw [bsq_size]; omega
  have HP := Lib.hid (rdec_parse s.data.toList (by omega))
  have HEE := Lib.hid hE
  clear hb h18
  by_cases hok : ∃ v, Lib.parseIntB 64 s.data.toList = .ok v
  · obtain ⟨v, hv⟩ := hok
    have HPC : Hid (∀ w, Calls Tryz.prog 97 #[.string s, .int .i64 10, .int .i64 64] w fun e w' => e = .returned (.tuple #[.int .i64 v, .nilIface]) ∧ (w' = w ∨ ∃ t, w' = Lib.bytesWorld w 5 t)) := Lib.hid fun w => Tryz.strconv_ParseInt_10_at64_ok s (by omega) v hv w
    have hvr : -9223372036854775808 ≤ v ∧ v ≤ 9223372036854775807 := by
      have h := Lib.parseIntB_bounds hv
      have e : (2 : Nat) ^ (64 - 1) = 9223372036854775808 := by decide
      rw [e] at h
      omega
    have HDC : Hid (∀ w, LayF w → Calls Tryz.prog 26 #[.int .i64 v] w (Ret (.string (itb v)) w)) := Lib.hid fun w h => impl_Dec v hvr.1 hvr.2 w h
    have HV := Lib.hid hv
    by_cases he : Lib.itoa v = s.data.toList
    · have hi : itb v = s := itb_eq.2 he
      have HR : Hid (rdec s.data.toList = some v) := Lib.hid (by rw [HP.out, HV.out]; simp only []; rw [if_pos he])
      clear hv hE h19 he
      go_enter Tryz.func85, Tryz.ntmps85
      go_wp2_with fail
      refine (show Calls _ _ _ _ _ from HTP.out _).mono ?_
      rintro e w1 ⟨rfl, rfl⟩
      go_wp2_with fail
      refine (show Calls _ _ _ _ _ from HPC.out _).mono ?_
      rintro e w2 ⟨rfl, hb2⟩
      have HW2 : Hid (Below w.heap.size w w2) := Lib.hid (by
        rcases hb2 with rfl | ⟨t, rfl⟩
        · exact ext_refl _
        · exact Lib.bytesWorld_below _ _ _)
      clear hb2
      go_wp2_with fail
      refine (show Calls _ _ _ _ _ from HDC.out _ (HEE.out.ext HW2.out).lay).mono ?_
      rintro e w3 ⟨rfl, hb3⟩
      go_wp2_with fail
      go_ret2
      rw [(rd_some HR.out).1, (rd_some HR.out).2]
      exact ⟨rfl, ext_trans HW2.out hb3⟩
    · have hi : itb v ≠ s := fun h => he (itb_eq.1 h)
      have hst := str_ne hi
      have HR : Hid (rdec s.data.toList = none) := Lib.hid (by rw [HP.out, HV.out]; simp only []; rw [if_neg he])
      clear hv hE h19 he hi
      go_enter Tryz.func85, Tryz.ntmps85
      go_wp2_with fail
      refine (show Calls _ _ _ _ _ from HTP.out _).mono ?_
      rintro e w1 ⟨rfl, rfl⟩
      go_wp2_with fail
      refine (show Calls _ _ _ _ _ from HPC.out _).mono ?_
      rintro e w2 ⟨rfl, hb2⟩
      have HW2 : Hid (Below w.heap.size w w2) := Lib.hid (by
        rcases hb2 with rfl | ⟨t, rfl⟩
        · exact ext_refl _
        · exact Lib.bytesWorld_below _ _ _)
      clear hb2
      go_wp2_with fail
      refine (show Calls _ _ _ _ _ from HDC.out _ (HEE.out.ext HW2.out).lay).mono ?_
      rintro e w3 ⟨rfl, hb3⟩
      go_wp2_with fail
      go_ret2
      rw [(rd_none HR.out).1, (rd_none HR.out).2]
      exact ⟨rfl, ext_trans HW2.out hb3⟩
  · have HR : Hid (rdec s.data.toList = none) := Lib.hid (by
      rw [HP.out]
      split
      · rename_i v hv; exact absurd ⟨v, hv⟩ hok
      · rfl)
    have HPC : Hid (∀ w, Env w → Calls Tryz.prog 97 #[.string s, .int .i64 10, .int .i64 64] w fun e w' => ∃ (x : Int) (t : TypeId) (p : Value), e = .returned (.tuple #[.int .i64 x, .iface t p]) ∧ Below w.heap.size w w') := Lib.hid fun w h => impl_Parse_no s hs (fun v hv => hok ⟨v, hv⟩) w h
    clear hok hE h19
    go_enter Tryz.func85, Tryz.ntmps85
    go_wp2_with fail
    refine (show Calls _ _ _ _ _ from HTP.out _).mono ?_
    rintro e w1 ⟨rfl, rfl⟩
    go_wp2_with fail
    refine (show Calls _ _ _ _ _ from HPC.out _ HEE.out).mono ?_
    rintro e w2 ⟨x, t, p, rfl, hb2⟩
    go_wp2_with fail
    go_ret2
    rw [(rd_none HR.out).1, (rd_none HR.out).2]
    exact ⟨rfl, hb2⟩

theorem mapBsq : ∀ (l : List ByteArray) (m : List (List UInt8)), l.map (·.data.toList) = m → l = m.map bsq := by
  intro l m h
  subst h
  rw [List.map_map]
  conv => lhs; rw [← List.map_id l]
  refine List.map_congr_left fun x _ => ?_
  exact (bsq_of x).symm
theorem impl_Split (s : ByteArray) (hs : s.size ≤ 1048576) (b : UInt8) (w : World) (hE : Env w) :
    Calls Tryz.prog 84 #[.string s, .string ⟨#[b]⟩] w fun e w' => ∃ A cp, e = .returned (.slice A (spb b s).length cp) ∧ OStr w' w.heap.size (.slice A (spb b s).length cp) (spb b s) ∧ Below w.heap.size w w' := by
  have hc : Lib.countB s ⟨#[b]⟩ + 1 = (spb b s).length := by
    unfold spb
    rw [List.length_map]
    exact count_spl b s.data.toList
  have hl : Lib.splitB ⟨#[b]⟩ 0 (Lib.countB s ⟨#[b]⟩) s = spb b s := mapBsq _ _ ((Lib.splitB_data _ _ _ _).trans (split_spl b s.data.toList))
  refine (Tryz.strings_Split_shaped s ⟨#[b]⟩ w hE.shp (by omega) (by show 1 ≤ 1; omega)).mono fun e w' ⟨h1, h2⟩ => ?_
  subst h1 h2
  have hlen := spb_len b s
  refine ⟨some ⟨w.heap.size, 0, none⟩, Lib.countB s ⟨#[b]⟩ + 1, by rw [hc], ?_, ext_alloc1 _ _⟩
  rw [hc, hl]
  have h := World.ownsRow_lit (base := w.heap.size) (e := 9) (size := 1) w ((spb b s).map Value.string).toArray (spb b s).length (Nat.le_refl _) (by unfold maxLen; omega) (by simp)
  unfold OStr
  simpa using h
theorem impl_Cut (s : ByteArray) (hs : s.size ≤ 1048576) (b : UInt8) (w : World) (hE : Env w) :
    Calls Tryz.prog 68 #[.string s, .string ⟨#[b]⟩] w (Ret (.tuple #[.string (bsq (Lib.cut s.data.toList [b]).1), .string (bsq (Lib.cut s.data.toList [b]).2.1), .bool (Lib.cut s.data.toList [b]).2.2]) w) := by
  refine (Tryz.strings_Cut_shaped s ⟨#[b]⟩ w hE.shp (by omega)).mono fun e w' ⟨h1, n, h2⟩ => ?_
  subst h1 h2
  exact ⟨rfl, ext_drewN (ext_refl _) _⟩
end Go.Proofs.YtoefoljhgnfoiaaGreatDoor
