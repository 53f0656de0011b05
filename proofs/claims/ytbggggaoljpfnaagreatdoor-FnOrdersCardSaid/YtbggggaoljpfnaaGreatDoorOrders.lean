/-
  Orders, first part: equal lists.
-/
import Derived.Test.YtbggggaoljpfnaaGreatDoorOrd
import Derived.Test.YtbggggaoljpfnaaGreatDoorName
import Derived.Test.YtbggggaoljpfnaaGreatDoorSmall
import Derived.Laws.StructEq
namespace Go.Proofs.YtbggggaoljpfnaaGreatDoor
open Go.ChangeShapes Go.WideShapes Go.ChangeAt Go.RowKit Go.Sort
set_option linter.unusedVariables false

def eqO (o p : OD) : Bool := decide (o.id = p.id) && decide (o.cu = p.cu) && decide (o.br = p.br) && decide (o.due = p.due) && decide (o.sent = p.sent)
/-- Are two lists of orders equal? -/
def sameO (l m : List OD) : Bool := decide (l.length = m.length) && (List.range l.length).all fun k => eqO (gd l k) (gd m k)
theorem cu_eq (a b : ByteArray) : (a.toList == b.toList) = decide (a = b) := by
  by_cases h : a = b
  · subst h; simp
  · rw [str_ne h, decide_eq_false h]
theorem cu_iff (a b : ByteArray) : a.toList = b.toList ↔ a = b := by
  have h := cu_eq a b
  constructor
  · intro h2
    rw [h2] at h
    simpa using h.symm
  · rintro rfl; rfl
set_option maxRecDepth 100000 in
theorem run_eqO (o p : OD) (w : World) : (Op.equalIn 10000 26 (.agg #[.int .i64 o.id, .string o.cu, .int .i64 o.br, .int .i64 o.due, .int .i64 o.sent]) (.agg #[.int .i64 p.id, .string p.cu, .int .i64 p.br, .int .i64 p.due, .int .i64 p.sent])).run Tryz.prog w = .ok (eqO o p) w := by
  have hu := Tryz.underlying26
  have hf := (show ∀ fs, Tryz.prog.underlying 26 = some (.struct fs) → Tryz.prog.fieldsOf 26 = fs from fun fs h => by unfold Program.fieldsOf; rw [h]) _ hu
  rw [run_equalIn_struct _ 9999 _ _ _ (by rw [hf]; exact hu) (by kernel_rfl), hf]
  simp [Op.eqFields, go_sem, Tryz.underlying2, Tryz.underlying9]
  simp only [cu_iff]
  unfold eqO
  by_cases h1 : o.id = p.id <;> by_cases h2 : o.cu = p.cu <;> by_cases h3 : o.br = p.br <;> by_cases h4 : o.due = p.due <;> by_cases h5 : o.sent = p.sent <;> simp [h1, h2, h3, h4, h5]

theorem all_range_succ (p : Nat → Bool) (k : Nat) : (List.range (k + 1)).all p = ((List.range k).all p && p k) := by simp [List.range_succ]
theorem all_range_no {p : Nat → Bool} {k n : Nat} (hk : k < n) (h : p k = false) : (List.range n).all p = false := by
  rw [List.all_eq_false]
  exact ⟨k, by simpa using hk, by simp [h]⟩

set_option maxHeartbeats 1600000 in
theorem spec_same (v1 v2 : Value) (l m : List OD) (w : World) (ha : RODS w v1 l) (hb : RODS w v2 m) :
    Calls Tryz.prog 23 #[v1, v2] w (Ret (.bool (sameO l m)) w) := by
  obtain ⟨A, c, rfl, hc1, hc2⟩ := ha.open_
  obtain ⟨B, d, rfl, hd1, hd2⟩ := hb.open_
  have HA := Lib.hid ha; clear ha
  have HB := Lib.hid hb; clear hb
  unfold maxLen at hc2 hd2
  by_cases hl : l.length = m.length
  · have el : (l.length : Int) = m.length := by omega
    go_enter Tryz.func23, Tryz.ntmps23
    go_wp2_with fail
    clear el
    go_loopw [5] (fun i wr => ∃ k : Nat, k ≤ l.length ∧ i = .int .i64 k ∧ Hid ((List.range k).all (fun k => eqO (gd l k) (gd m k)) = true) ∧ Below w.heap.size w wr) (fun i _ => l.length - (intOf i).toNat)
    case atStart => exact ⟨0, Nat.zero_le _, rfl, rfl, ext_refl _⟩
    case round =>
      obtain ⟨k, hk, rfl, HT, hbw⟩ := hrel
      have HAw := Lib.hid (HA.out.ext hbw)
      have HBw := Lib.hid (HB.out.ext hbw)
      have HW := Lib.hid hbw; clear hbw
      by_cases hlt : k < l.length
      · obtain ⟨ad, rfl, _, hc⟩ := HAw.out.at hlt
        obtain ⟨bd, rfl, _, hd⟩ := HBw.out.at (show k < m.length by omega)
        obtain ⟨h0, h1, h2, h3, h4⟩ := hc k hlt
        obtain ⟨g0, g1, g2, g3, g4⟩ := hd k (by omega)
        clear hc hd
        have hq := fun w => run_eqO (gd l k) (gd m k) w
        have e1 : (0:Int) ≤ k := by omega
        have e2 : (k:Int) < l.length := by omega
        have e3 : (k:Int) < m.length := by omega
        cases hE : eqO (gd l k) (gd m k) with
        | true =>
          have HE := Lib.hid hE
          rw [hE] at hq
          clear hE
          go_wp2_with fail
          go_quiet (fail)
          rename Nat => n1
          clear hq h0 h1 h2 h3 h4 g0 g1 g2 g3 g4
          go_wp2_with fail
          go_roundw
          case rel => exact ⟨k + 1, by omega, by go_num, by unfold Hid; rw [all_range_succ, HT.out, HE.out]; rfl, ext_drewN HW.out _⟩
          case measure => simp [intOf]; omega
        | false =>
          have HE : Hid (sameO l m = false) := Lib.hid (by unfold sameO; rw [all_range_no hlt hE, Bool.and_false])
          rw [hE] at hq
          clear hE
          go_wp2_with fail
          go_quiet (fail)
          rename Nat => n1
          clear hq h0 h1 h2 h3 h4 g0 g1 g2 g3 g4
          go_wp2_with fail
          go_ret
          exact ⟨ret_bool HE.out.symm, ext_drewN HW.out _⟩
      · have hkn : k = l.length := by omega
        have HE : Hid (sameO l m = true) := Lib.hid (by unfold sameO; rw [decide_eq_true hl, ← hkn, HT.out]; rfl)
        have e2 : ¬ (k:Int) < l.length := by omega
        clear hkn
        go_wp2_with fail
        go_ret
        exact ⟨ret_bool HE.out.symm, HW.out⟩
  · have HE : Hid (sameO l m = false) := Lib.hid (by unfold sameO; rw [decide_eq_false hl]; rfl)
    go_enter Tryz.func23, Tryz.ntmps23
    go_wp2_with fail
    go_ret
    exact ⟨ret_bool HE.out.symm, ext_refl w⟩
set_option maxHeartbeats 1600000 in
theorem sl_same (v1 v2 : Value) (l m : List OD) (w : World) (ha : RODS w v1 l) (hb : RODS w v2 m) :
    Calls Tryz.prog 61 #[v1, v2] w (Ret (.bool (sameO l m)) w) := by
  obtain ⟨A, c, rfl, hc1, hc2⟩ := ha.open_
  obtain ⟨B, d, rfl, hd1, hd2⟩ := hb.open_
  have HA := Lib.hid ha; clear ha
  have HB := Lib.hid hb; clear hb
  unfold maxLen at hc2 hd2
  by_cases hl : l.length = m.length
  · have el : (l.length : Int) = m.length := by omega
    go_enter Tryz.func61, Tryz.ntmps61
    go_wp2_with fail
    clear el
    go_loopw [13] (fun i wr => ∃ k : Nat, k ≤ l.length ∧ i = .int .i64 k ∧ Hid ((List.range k).all (fun k => eqO (gd l k) (gd m k)) = true) ∧ Below w.heap.size w wr) (fun i _ => l.length - (intOf i).toNat)
    case atStart => exact ⟨0, Nat.zero_le _, rfl, rfl, ext_refl _⟩
    case round =>
      obtain ⟨k, hk, rfl, HT, hbw⟩ := hrel
      have HAw := Lib.hid (HA.out.ext hbw)
      have HBw := Lib.hid (HB.out.ext hbw)
      have HW := Lib.hid hbw; clear hbw
      by_cases hlt : k < l.length
      · obtain ⟨ad, rfl, _, hc⟩ := HAw.out.at hlt
        obtain ⟨bd, rfl, _, hd⟩ := HBw.out.at (show k < m.length by omega)
        obtain ⟨h0, h1, h2, h3, h4⟩ := hc k hlt
        obtain ⟨g0, g1, g2, g3, g4⟩ := hd k (by omega)
        clear hc hd
        have hq := fun w => run_eqO (gd l k) (gd m k) w
        have e1 : (0:Int) ≤ k := by omega
        have e2 : (k:Int) < l.length := by omega
        have e3 : (k:Int) < m.length := by omega
        cases hE : eqO (gd l k) (gd m k) with
        | true =>
          have HE := Lib.hid hE
          rw [hE] at hq
          clear hE
          go_wp2_with fail
          go_quiet (fail)
          rename Nat => n1
          clear hq h0 h1 h2 h3 h4 g0 g1 g2 g3 g4
          go_wp2_with fail
          go_roundw
          case rel => exact ⟨k + 1, by omega, by go_num, by unfold Hid; rw [all_range_succ, HT.out, HE.out]; rfl, ext_drewN HW.out _⟩
          case measure => simp [intOf]; omega
        | false =>
          have HE : Hid (sameO l m = false) := Lib.hid (by unfold sameO; rw [all_range_no hlt hE, Bool.and_false])
          rw [hE] at hq
          clear hE
          go_wp2_with fail
          go_quiet (fail)
          rename Nat => n1
          clear hq h0 h1 h2 h3 h4 g0 g1 g2 g3 g4
          go_wp2_with fail
          go_ret
          exact ⟨ret_bool HE.out.symm, ext_drewN HW.out _⟩
      · have hkn : k = l.length := by omega
        have HE : Hid (sameO l m = true) := Lib.hid (by unfold sameO; rw [decide_eq_true hl, ← hkn, HT.out]; rfl)
        have e2 : ¬ (k:Int) < l.length := by omega
        clear hkn
        go_wp2_with fail
        go_ret
        exact ⟨ret_bool HE.out.symm, HW.out⟩
  · have HE : Hid (sameO l m = false) := Lib.hid (by unfold sameO; rw [decide_eq_false hl]; rfl)
    go_enter Tryz.func61, Tryz.ntmps61
    go_wp2_with fail
    go_ret
    exact ⟨ret_bool HE.out.symm, ext_refl w⟩
theorem spec_SameOrders (v1 : Value) (l : List OD) (v2 : Value) (m : List OD) (w : World) (ha : RODS w v1 l) (_ : SmODS l) (hb : RODS w v2 m) (_ : SmODS m) :
    Calls Tryz.prog 23 #[v1, v2] w (Ret (.bool (sameO l m)) w) := spec_same v1 v2 l m w ha hb
theorem impl_SameOrders (v1 : Value) (l : List OD) (v2 : Value) (m : List OD) (w : World) (ha : RODS w v1 l) (_ : SmODS l) (hb : RODS w v2 m) (_ : SmODS m) :
    Calls Tryz.prog 26 #[v1, v2] w (Ret (.bool (sameO l m)) w) := by
  have HC := Lib.hid (sl_same v1 v2 l m w ha hb)
  clear ha hb
  go_enter Tryz.func26, Tryz.ntmps26
  go_wp2_with fail
  refine (show Calls _ _ _ _ _ from HC.out).mono ?_
  rintro e w' ⟨rfl, hb⟩
  go_wp2_with fail
  go_ret
  exact ⟨rfl, hb⟩

end Go.Proofs.YtbggggaoljpfnaaGreatDoor
