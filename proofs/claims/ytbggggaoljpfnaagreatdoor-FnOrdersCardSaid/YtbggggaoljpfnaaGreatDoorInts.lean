/-
  The small functions on slices of int64 that the laws and the reference share: equality, copies, marks.
-/
import Derived.Test.YtbggggaoljpfnaaGreatDoorBase
namespace Go.Proofs.YtbggggaoljpfnaaGreatDoor
open Go.ChangeShapes Go.WideShapes Go.ChangeAt Go.RowKit Go.Sort

theorem eq_take {xs ys : List Int} {k : Nat} (hl : xs.length = ys.length) (hk : k < xs.length) (h : xs.take k = ys.take k) (he : xs.getD k 0 = ys.getD k 0) : xs.take (k+1) = ys.take (k+1) := by
  rw [take_succ_getD hk, take_succ_getD (by omega), h, he]

theorem bne_get {xs ys : List Int} {k : Nat} (h : (xs[k]?.getD 0 != ys[k]?.getD 0) = true) : xs ≠ ys := by
  rintro rfl; simp at h

/-- Two slices of ints compared element by element. -/
theorem f6ints_any (v1 v2 : Value) (xs ys : List Int) (w : World) (ha : RI w v1 xs) (hb : RI w v2 ys) :
    Calls Tryz.prog 24 #[v1, v2] w (Ret (.bool (decide (xs = ys))) w) := by
  obtain ⟨A, c, rfl, hc1, hc2, HA'⟩ := ha.open_
  obtain ⟨B, d, rfl, hd1, hd2, HB'⟩ := hb.open_
  unfold maxLen at hc2 hd2
  have HA := Lib.hid HA'; clear HA' ha
  have HB := Lib.hid HB'; clear HB' hb
  generalize hn : xs.length = n at *
  generalize hm : ys.length = m at *
  have HN := Lib.hid hn; clear hn
  have HM := Lib.hid hm; clear hm
  by_cases hl : n = m
  · subst hl
    go_enter Tryz.func24, Tryz.ntmps24
    go_wp2
    go_loopw [5] (fun i wr => ∃ k q : Nat, k ≤ n ∧ i = .int .i64 k ∧ wr = w.drewN q ∧ xs.take k = ys.take k) (fun i _ => n - (intOf i).toNat)
    case atStart => exact ⟨0, 0, Nat.zero_le _, rfl, rfl, rfl⟩
    case round =>
      obtain ⟨k, q, hk, rfl, rfl, htk⟩ := hrel
      have HT := Lib.hid htk; clear htk
      by_cases hlt : k < n
      · obtain ⟨ad, rfl, hbd, hc⟩ := HA.out k (by have := HN.out; omega)
        obtain ⟨bd, rfl, hbd2, hc2⟩ := HB.out k (by have := HM.out; omega)
        replace hc := hc k (by have := HN.out; omega)
        replace hc2 := hc2 k (by have := HM.out; omega)
        have e1 : (0:Int) ≤ k := by omega
        have e2 : (k:Int) < n := by omega
        go_wp2
        go_quiet (fail)
        go_wp2
        · go_ret
          rename_i hne
          exact ⟨ret_bool (by simp [bne_get hne]), ext_drewN (ext_drewN (ext_refl w) _) _⟩
        · go_roundw
          case rel => exact ⟨k + 1, _, by omega, by go_num, rfl, eq_take (by rw [HN.out, HM.out]) (by rw [HN.out]; omega) HT.out (by rename_i he; simpa using he)⟩
          case measure => simp [intOf]; omega
      · go_wp2
        go_ret
        have hkn : k = n := by omega
        subst hkn
        refine ⟨ret_bool ?_, ext_drewN (ext_refl w) _⟩
        have := HT.out
        rw [List.take_of_length_le (by have := HN.out; omega), List.take_of_length_le (by have := HM.out; omega)] at this
        simp [this]
  · go_enter Tryz.func24, Tryz.ntmps24
    go_wp2
    go_ret
    refine ⟨ret_bool ?_, ext_refl w⟩
    have : xs ≠ ys := by rintro rfl; exact hl (HN.out.symm.trans HM.out)
    simp [this]

/-- What is left of a size budget behind a part of n. -/
def szN (left : Int) (n : Nat) : Int := if left < n then -1 else left - n
theorem szN_le (left : Int) (n : Nat) (h : left ≤ 1048576) : szN left n ≤ 1048576 ∧ -1 ≤ szN left n := by unfold szN; split <;> omega

theorem info_int : (Tryz.prog.info? 2).map (fun i => (i.zero, i.size, i.bytes)) = some (some (.int .i64 0), 1, 8) := by kernel_rfl

theorem set_append {xs : List Int} {k : Nat} (hk : k < xs.length) (ys : List Value) (u : Value) (hy : ys.length = k) :
    (ys ++ (List.replicate (xs.length - k) (Value.int .i64 0))).set k u = (ys ++ [u]) ++ List.replicate (xs.length - (k + 1)) (Value.int .i64 0) := by
  obtain ⟨m, hm⟩ : ∃ m, xs.length - k = m + 1 := ⟨xs.length - k - 1, by omega⟩
  rw [hm, show xs.length - (k+1) = m from by omega, List.set_append_right k u (by omega), hy]
  simp [List.replicate_succ]

/-- The marks k, k + 1, .. -/
def marks (k : Int) (n : Nat) : List Int := (List.range n).map fun (i : Nat) => k + (i : Int)
theorem marks_length (k : Int) (n : Nat) : (marks k n).length = n := by simp [marks]
theorem marks_getD (k : Int) (n i : Nat) (h : i < n) : (marks k n).getD i 0 = k + i := by
  simp [marks, List.getD_eq_getElem?_getD, h]
theorem marks_take (k : Int) (n i : Nat) (h : i < n) : (marks k n).take (i + 1) = (marks k n).take i ++ [k + (i : Int)] := by
  rw [take_succ_getD (by rw [marks_length]; exact h), marks_getD k n i h]

theorem set_mark {xs : List Int} {n k : Nat} (hk : k < n) (hn : xs.length = n) (j : Int) (m : List Int) (hm : m.length = k) :
    (m.map (Value.int .i64) ++ (xs.drop k).map (Value.int .i64)).set k (.int .i64 j) = (m ++ [j]).map (Value.int .i64) ++ (xs.drop (k + 1)).map (Value.int .i64) := by
  rw [List.set_append_right k _ (by simp; omega)]
  simp only [List.length_map, hm, Nat.sub_self, List.map_append, List.append_assoc, List.append_cancel_left_eq]
  rw [List.drop_eq_getElem_cons (i := k) (l := xs) (by omega)]
  simp only [List.map_cons, List.set_cons_zero, List.map_nil, List.cons_append, List.nil_append]

/-- The data blocks of a slice. -/
def BI (v : Value) : Nat → Prop := fun k => v.ownBlock = some k
theorem szN_ok {l : Int} {n : Nat} (h : 0 ≤ szN l n) : (n : Int) ≤ l ∧ szN l n = l - n := by
  unfold szN at h ⊢
  split at h
  · omega
  · rename_i hh; rw [if_neg hh]; omega
theorem szN_pos {l : Int} {n : Nat} (h : 0 ≤ szN l n) : 0 ≤ l := by have := szN_ok h; omega

def SmI (xs : List Int) : Prop := xs.length ≤ 1048576

end Go.Proofs.YtbggggaoljpfnaaGreatDoor
