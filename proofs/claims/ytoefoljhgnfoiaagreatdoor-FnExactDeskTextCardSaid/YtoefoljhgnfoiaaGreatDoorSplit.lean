/-
  The reference's l01Split.
-/
import Derived.Test.YtoefoljhgnfoiaaGreatDoorSplP
import Derived.Test.YtoefoljhgnfoiaaGreatDoorStr
import Derived.Test.YtoefoljhgnfoiaaGreatDoorEnv
import Derived.Test.YtoefoljhgnfoiaaGreatDoorName
namespace Go.Proofs.YtoefoljhgnfoiaaGreatDoor
open Go.ChangeShapes Go.WideShapes Go.ChangeAt Go.RowKit Go.Sort
set_option linter.unusedVariables false
set_option maxRecDepth 8000

/-- The parts, as texts. -/
def spb (b : UInt8) (s : ByteArray) : List ByteArray := (splL b s.data.toList).map bsq
theorem spb_len (b : UInt8) (s : ByteArray) : (spb b s).length ≤ s.size + 1 := by
  unfold spb; rw [List.length_map, ← size_toList]; exact splL_len b _
theorem ext_bsq (s : ByteArray) {p q : Nat} (h : p ≤ q) : s.extract p q = bsq ((s.data.toList.drop p).take (q - p)) := by
  apply ba_ext
  rw [Lib.extract_data, bsq_list]
theorem ext_end (s : ByteArray) (p : Nat) : s.extract p s.size = bsq (s.data.toList.drop p) := by
  apply ba_ext
  rw [Lib.extract_to_end, bsq_list]

set_option maxHeartbeats 1600000 in
theorem spec_Split (s : ByteArray) (hs : s.size ≤ 1048576) (b : UInt8) (c : Int) (hc : (b.toNat : Int) = c) (w : World) :
    Calls Tryz.prog 75 #[.string s, .int .u8 c] w fun e w' => ∃ A cp, e = .returned (.slice A (spb b s).length cp) ∧ OStr w' w.heap.size (.slice A (spb b s).length cp) (spb b s) ∧ Below w.heap.size w w' := by
  have HC := Lib.hid hc; clear hc
  go_enter Tryz.func75, Tryz.ntmps75
  go_wp2_with fail
  go_loopw [5, 6, 7] (fun o f i wr => ∃ (p q : Nat) (l : List ByteArray) (A : Option Addr) (cp : Nat), i = .int .i64 q ∧ f = .int .i64 p ∧ o = .slice A l.length cp ∧ p ≤ q ∧ q ≤ s.size ∧ l.length ≤ q ∧ Hid (spb b s = l ++ (splL b (s.data.toList.drop p)).map bsq) ∧ Hid (b ∉ (s.data.toList.drop p).take (q - p)) ∧ Hid (OStr wr w.heap.size (.slice A l.length cp) l) ∧ Below w.heap.size w wr) (fun _ _ i _ => s.size - (intOf i).toNat)
  case atStart => exact ⟨0, 0, [], some ⟨w.heap.size, 0, none⟩, 0, rfl, rfl, rfl, Nat.le_refl _, Nat.zero_le _, Nat.le_refl _, Lib.hid rfl, Lib.hid (by simp), Lib.hid (ostr_lit _ _ (Nat.le_refl _)), ext_alloc1 _ _⟩
  case round =>
    obtain ⟨p, q, l, A, cp, rfl, rfl, rfl, hpq, hq, hlq, HP, HN, HO, hbw⟩ := hrel
    have HW := Lib.hid hbw; clear hbw
    have hsz := HW.out.size
    have e1 : (0:Int) ≤ q := by omega
    have e0 : (0:Int) ≤ p := by omega
    have e2 : (p:Int) ≤ q := by omega
    have e3 : (q:Int) ≤ s.size := by omega
    by_cases hlt : q < s.size
    · have e4 : (q:Int) < s.size := by omega
      have hy := byt_eq s q hlt
      obtain ⟨y, hyy⟩ : ∃ y, byt s q = y := ⟨_, rfl⟩
      rw [hyy] at hy
      have hget : s.data.toList[q]? = some s[q] := Lib.data_getElem? s q hlt
      have HG := Lib.hid hget; clear hget
      have hgd : (s.data.toList.drop p)[q - p]? = some s[q] := by
        rw [List.getElem?_drop, show p + (q - p) = q by omega]; exact HG.out
      have HGD := Lib.hid hgd; clear hgd
      by_cases hb : s[q] = b
      · have e5 : (y == c) = true := by rw [← HC.out, ← hb, ← hy]; simp
        have HS : Hid (spb b s = (l ++ [s.extract p q]) ++ (splL b (s.data.toList.drop (q + 1))).map bsq) := Lib.hid (by
          rw [HP.out, splL_hit HN.out (by rw [HGD.out, hb]), List.drop_drop, show p + (q - p + 1) = q + 1 by omega, ext_bsq s hpq]
          simp)
        clear hb hyy
        go_wp2_with (at_builtin; refine wpList_append_str rfl _ _ rfl w.heap.size (.slice A l.length cp) l (s.extract p q) rfl rfl HO.out (by omega) hsz ?_; intro g cap w2 hO2 hg2 hlt2)
        go_roundw
        case rel => exact ⟨q + 1, q + 1, l ++ [s.extract p q], some ⟨g, 0, none⟩, cap, by go_num, by go_num, by rw [List.length_append]; rfl, Nat.le_refl _, hlt, by rw [List.length_append]; simp; omega, HS.out, Lib.hid (by simp), Lib.hid (by rw [List.length_append]; exact hO2), Chg.ext HW.out hg2 (fun j hj => (HO.out.ge j hj).1)⟩
        case measure => simp [intOf]; omega
      · have e5 : (y == c) = false := by
          rw [← HC.out, ← hy, beq_eq_false_iff_ne]
          intro h
          exact hb (Lib.byte_eq_of_toNat h)
        have HN2 : Hid (b ∉ (s.data.toList.drop p).take (q + 1 - p)) := Lib.hid (by
          rw [show q + 1 - p = (q - p) + 1 by omega, List.take_add_one, HGD.out]
          simp only [List.mem_append, not_or]
          refine ⟨HN.out, ?_⟩
          simp only [Option.toList, List.mem_singleton]
          exact fun h => hb h.symm)
        clear hb hyy
        go_wp2_with fail
        go_roundw
        case rel => exact ⟨p, q + 1, l, A, cp, by go_num, rfl, rfl, by omega, hlt, by omega, HP.out, HN2.out, HO.out, HW.out⟩
        case measure => simp [intOf]; omega
    · obtain rfl : q = s.size := by omega
      have HS : Hid (spb b s = l ++ [s.extract p s.size]) := Lib.hid (by
        have h := HN.out
        rw [List.take_of_length_le (by rw [List.length_drop, size_toList]; omega)] at h
        rw [HP.out, splL_none h, ext_end]; rfl)
      go_wp2_with (at_builtin; refine wpList_append_str rfl _ _ rfl w.heap.size (.slice A l.length cp) l (s.extract p s.size) rfl rfl HO.out (by omega) hsz ?_; intro g cap w2 hO2 hg2 hlt2)
      go_ret
      rw [HS.out, List.length_append]
      exact ⟨_, cap, rfl, hO2, Chg.ext HW.out hg2 (fun j hj => (HO.out.ge j hj).1)⟩
end Go.Proofs.YtoefoljhgnfoiaaGreatDoor
