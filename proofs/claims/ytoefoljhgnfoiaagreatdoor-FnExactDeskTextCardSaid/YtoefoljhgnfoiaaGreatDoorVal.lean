/-
  Formats, courses and walls: valid ones, on both sides.
-/
import Derived.Test.YtoefoljhgnfoiaaGreatDoorBnd
import Derived.Test.YtoefoljhgnfoiaaGreatDoorDk
namespace Go.Proofs.YtoefoljhgnfoiaaGreatDoor
open Go.ChangeShapes Go.WideShapes Go.ChangeAt Go.RowKit Go.Sort Go.Joins
set_option linter.unusedVariables false
set_option maxRecDepth 100000

/-- A valid format. -/
def vF (f : FM) : Bool := inB f.l 100 500 && inB f.w 50 250 && inB f.h 30 150 && inB f.j 0 20 && decide (f.w < f.l)
/-- Quarters of the first k pieces. -/
def lenQ (s : ByteArray) : Nat → Int
  | 0 => 0
  | k + 1 => lenQ s k + qC (byt s k)
theorem qC_bd (y : Int) : 0 ≤ qC y ∧ qC y ≤ 4 := by unfold qC; split <;> (try split) <;> (try split) <;> (try split) <;> omega
theorem lenQ_bd (s : ByteArray) (k : Nat) : 0 ≤ lenQ s k ∧ lenQ s k ≤ 4 * k := by
  induction k with
  | zero => exact ⟨Int.le_refl _, by simp [lenQ]⟩
  | succ k ih => have := qC_bd (byt s k); unfold lenQ; omega
def lenC (s : ByteArray) : Int := lenQ s s.size
/-- A valid course of a wall. -/
def vCo (s : ByteArray) : Bool := inB s.size 1 60 && onl pcC s s.size && decide (lenC s ≤ 200)
/-- A course of a wall whose first course is t. -/
def vCw (t s : ByteArray) : Bool := vCo s && decide (lenC s = lenC t)
def vW (l : List ByteArray) : Bool := inB l.length 1 40 && l.all (vCw (gd l 0))
theorem vCw_no {l : List ByteArray} {t : ByteArray} {k : Nat} (hk : k < l.length) (h : vCw t (gd l k) = false) : l.all (vCw t) = false := by
  rw [List.all_eq_false]; exact ⟨gd l k, gd_mem hk, by simp [h]⟩
theorem vCw_succ {l : List ByteArray} {t : ByteArray} {k : Nat} (hk : k < l.length) : (l.take (k + 1)).all (vCw t) = ((l.take k).all (vCw t) && vCw t (gd l k)) := by rw [take_gd hk]; simp

set_option maxHeartbeats 1600000 in
theorem spec_okF (f : FM) (w : World) :
    Calls Tryz.prog 29 #[.agg #[.int .i64 f.l, .int .i64 f.w, .int .i64 f.h, .int .i64 f.j]] w (Ret (.bool (vF f)) w) := by
  obtain ⟨a, b, c, d⟩ := f
  have HV : Hid (vF ⟨a, b, c, d⟩ = (inB a 100 500 && inB b 50 250 && inB c 30 150 && inB d 0 20 && decide (b < a))) := Lib.hid rfl
  dsimp only at *
  obtain ⟨x1, h1⟩ : ∃ x, inB a 100 500 = x := ⟨_, rfl⟩
  obtain ⟨x2, h2⟩ : ∃ x, inB b 50 250 = x := ⟨_, rfl⟩
  obtain ⟨x3, h3⟩ : ∃ x, inB c 30 150 = x := ⟨_, rfl⟩
  obtain ⟨x4, h4⟩ : ∃ x, inB d 0 20 = x := ⟨_, rfl⟩
  have H1 := Lib.hid (fun w => RetP.bool (spec_in a 100 500 w) h1)
  have H2 := Lib.hid (fun w => RetP.bool (spec_in b 50 250 w) h2)
  have H3 := Lib.hid (fun w => RetP.bool (spec_in c 30 150 w) h3)
  have H4 := Lib.hid (fun w => RetP.bool (spec_in d 0 20 w) h4)
  rw [h1, h2, h3, h4] at HV
  clear h1 h2 h3 h4
  go_enter Tryz.func29, Tryz.ntmps29
  go_wp2_with fail
  refine (show Calls _ _ _ _ _ from H1.out _).mono ?_
  rintro e w1 ⟨rfl, rfl⟩
  cases x1
  · go_wp2_with fail
    go_ret
    exact ⟨ret_bool (by rw [HV.out]; rfl), ext_alloc1 _ _⟩
  go_wp2_with fail
  refine (show Calls _ _ _ _ _ from H2.out _).mono ?_
  rintro e w1 ⟨rfl, rfl⟩
  cases x2
  · go_wp2_with fail
    go_ret
    exact ⟨ret_bool (by rw [HV.out]; rfl), ext_alloc1 _ _⟩
  go_wp2_with fail
  refine (show Calls _ _ _ _ _ from H3.out _).mono ?_
  rintro e w1 ⟨rfl, rfl⟩
  cases x3
  · go_wp2_with fail
    go_ret
    exact ⟨ret_bool (by rw [HV.out]; rfl), ext_alloc1 _ _⟩
  go_wp2_with fail
  refine (show Calls _ _ _ _ _ from H4.out _).mono ?_
  rintro e w1 ⟨rfl, rfl⟩
  cases x4
  · go_wp2_with fail
    go_ret
    exact ⟨ret_bool (by rw [HV.out]; rfl), ext_alloc1 _ _⟩
  go_wp2_with fail
  go_ret
  exact ⟨ret_bool (by rw [HV.out]; simp), ext_alloc1 _ _⟩
set_option maxHeartbeats 1600000 in
theorem impl_okF (f : FM) (w : World) :
    Calls Tryz.prog 18 #[.agg #[.int .i64 f.l, .int .i64 f.w, .int .i64 f.h, .int .i64 f.j]] w (Ret (.bool (vF f)) w) := by
  obtain ⟨a, b, c, d⟩ := f
  have HV : Hid (vF ⟨a, b, c, d⟩ = (inB a 100 500 && inB b 50 250 && inB c 30 150 && inB d 0 20 && decide (b < a))) := Lib.hid rfl
  dsimp only at *
  obtain ⟨x1, h1⟩ : ∃ x, inB a 100 500 = x := ⟨_, rfl⟩
  obtain ⟨x2, h2⟩ : ∃ x, inB b 50 250 = x := ⟨_, rfl⟩
  obtain ⟨x3, h3⟩ : ∃ x, inB c 30 150 = x := ⟨_, rfl⟩
  obtain ⟨x4, h4⟩ : ∃ x, inB d 0 20 = x := ⟨_, rfl⟩
  have H1 := Lib.hid (fun w => RetP.bool (impl_within a 100 500 w) h1)
  have H2 := Lib.hid (fun w => RetP.bool (impl_within b 50 250 w) h2)
  have H3 := Lib.hid (fun w => RetP.bool (impl_within c 30 150 w) h3)
  have H4 := Lib.hid (fun w => RetP.bool (impl_within d 0 20 w) h4)
  rw [h1, h2, h3, h4] at HV
  clear h1 h2 h3 h4
  go_enter Tryz.func18, Tryz.ntmps18
  go_wp2_with fail
  refine (show Calls _ _ _ _ _ from H1.out _).mono ?_
  rintro e w1 ⟨rfl, rfl⟩
  cases x1
  · go_wp2_with fail
    go_ret
    exact ⟨ret_bool (by rw [HV.out]; rfl), ext_alloc1 _ _⟩
  go_wp2_with fail
  refine (show Calls _ _ _ _ _ from H2.out _).mono ?_
  rintro e w1 ⟨rfl, rfl⟩
  cases x2
  · go_wp2_with fail
    go_ret
    exact ⟨ret_bool (by rw [HV.out]; rfl), ext_alloc1 _ _⟩
  go_wp2_with fail
  refine (show Calls _ _ _ _ _ from H3.out _).mono ?_
  rintro e w1 ⟨rfl, rfl⟩
  cases x3
  · go_wp2_with fail
    go_ret
    exact ⟨ret_bool (by rw [HV.out]; rfl), ext_alloc1 _ _⟩
  go_wp2_with fail
  refine (show Calls _ _ _ _ _ from H4.out _).mono ?_
  rintro e w1 ⟨rfl, rfl⟩
  cases x4
  · go_wp2_with fail
    go_ret
    exact ⟨ret_bool (by rw [HV.out]; rfl), ext_alloc1 _ _⟩
  go_wp2_with fail
  go_ret
  exact ⟨ret_bool (by rw [HV.out]; simp), ext_alloc1 _ _⟩
theorem impl_quarters (y : Int) (h0 : 0 ≤ y) (h1 : y ≤ 255) (w : World) : Calls Tryz.prog 57 #[.int .u8 y] w (RetP (.int .i64 (qC y)) w) := by
  rcases pc_cases y with rfl | rfl | rfl | rfl | rfl | ⟨h1, h2, h3, h4, h5⟩
  any_goals
    go_enter Tryz.func57, Tryz.ntmps57
    go_wp2_with fail
    go_ret
    exact ⟨rfl, rfl⟩
  have HX : Hid (qC y = 0) := Lib.hid (by simp [qC, h1, h2, h3, h4, h5])
  have f1 : (y == 83) = false := beq_eq_false_iff_ne.2 h1
  have f2 : (y == 84) = false := beq_eq_false_iff_ne.2 h2
  have f3 : (y == 72) = false := beq_eq_false_iff_ne.2 h3
  have f4 : (y == 66) = false := beq_eq_false_iff_ne.2 h4
  have f5 : (y == 67) = false := beq_eq_false_iff_ne.2 h5
  go_enter Tryz.func57, Tryz.ntmps57
  go_wp2_with fail
  go_ret
  exact ⟨ret_int HX.out.symm, rfl⟩
set_option maxHeartbeats 800000 in
theorem impl_length (s : ByteArray) (hs : s.size ≤ 1048576) (w : World) :
    Calls Tryz.prog 41 #[.string s] w (RetP (.int .i64 (lenC s)) w) := by
  go_enter Tryz.func41, Tryz.ntmps41
  go_wp2_with fail
  go_loop [3, 7] (fun u i => ∃ k : Nat, k ≤ s.size ∧ i = .int .i64 k ∧ u = .int .i64 (lenQ s k)) (fun _ i => s.size - (intOf i).toNat)
  case atStart => exact ⟨0, Nat.zero_le _, rfl, rfl⟩
  case round =>
    obtain ⟨k, hk, rfl, rfl⟩ := hrel
    have e0 : (0:Int) ≤ k := by omega
    by_cases hlt : k < s.size
    · have e1 : (k:Int) < s.size := by omega
      have hy := byt_eq s k hlt
      have hyb := byt_bd s k
      have hb1 := lenQ_bd s k
      have hb2 := qC_bd (byt s k)
      have HS : Hid (lenQ s (k + 1) = lenQ s k + qC (byt s k)) := Lib.hid rfl
      obtain ⟨y, hyy⟩ : ∃ y, byt s k = y := ⟨_, rfl⟩
      rw [hyy] at hy hyb HS hb2
      clear hyy
      have HC := Lib.hid (fun w => impl_quarters y hyb.1 hyb.2 w)
      obtain ⟨z, hzz⟩ : ∃ z, qC y = z := ⟨_, rfl⟩
      rw [hzz] at HC HS hb2
      obtain ⟨t, htt⟩ : ∃ t, lenQ s k = t := ⟨_, rfl⟩
      rw [htt] at HS hb1
      rw [htt]
      clear hzz htt hyb
      go_wp2_with fail
      refine (show Calls _ _ _ _ _ from HC.out _).mono ?_
      rintro e w1 ⟨rfl, rfl⟩
      go_wp2_with fail
      go_round
      case rel => exact ⟨k + 1, by omega, by go_num, by rw [HS.out]⟩
      case measure => simp [intOf]; omega
    · obtain rfl : k = s.size := by omega
      have e1 : ¬ (s.size:Int) < s.size := by omega
      go_wp2_with fail
      go_ret
      exact ⟨rfl, rfl⟩
set_option maxHeartbeats 800000 in
theorem spec_length (s : ByteArray) (hs : s.size ≤ 1048576) (w : World) :
    Calls Tryz.prog 52 #[.string s] w (RetP (.int .i64 (lenC s)) w) := by
  go_enter Tryz.func52, Tryz.ntmps52
  go_wp2_with fail
  go_loop [3, 4] (fun u i => ∃ k : Nat, k ≤ s.size ∧ i = .int .i64 k ∧ u = .int .i64 (lenQ s k)) (fun _ i => s.size - (intOf i).toNat)
  case atStart => exact ⟨0, Nat.zero_le _, rfl, rfl⟩
  case round =>
    obtain ⟨k, hk, rfl, rfl⟩ := hrel
    have e0 : (0:Int) ≤ k := by omega
    by_cases hlt : k < s.size
    · have e1 : (k:Int) < s.size := by omega
      have hy := byt_eq s k hlt
      have hyb := byt_bd s k
      have hb1 := lenQ_bd s k
      have hb2 := qC_bd (byt s k)
      have HS : Hid (lenQ s (k + 1) = lenQ s k + qC (byt s k)) := Lib.hid rfl
      obtain ⟨y, hyy⟩ : ∃ y, byt s k = y := ⟨_, rfl⟩
      rw [hyy] at hy hyb HS hb2
      clear hyy
      have HC := Lib.hid (fun w => spec_quarters y hyb.1 hyb.2 w)
      obtain ⟨z, hzz⟩ : ∃ z, qC y = z := ⟨_, rfl⟩
      rw [hzz] at HC HS hb2
      obtain ⟨t, htt⟩ : ∃ t, lenQ s k = t := ⟨_, rfl⟩
      rw [htt] at HS hb1
      rw [htt]
      clear hzz htt hyb
      go_wp2_with fail
      refine (show Calls _ _ _ _ _ from HC.out _).mono ?_
      rintro e w1 ⟨rfl, rfl⟩
      go_wp2_with fail
      go_round
      case rel => exact ⟨k + 1, by omega, by go_num, by rw [HS.out]⟩
      case measure => simp [intOf]; omega
    · obtain rfl : k = s.size := by omega
      have e1 : ¬ (s.size:Int) < s.size := by omega
      go_wp2_with fail
      go_ret
      exact ⟨rfl, rfl⟩
theorem lenC_bd (s : ByteArray) (h : s.size ≤ 1048576) : 0 ≤ lenC s ∧ lenC s ≤ 4194304 := by have := lenQ_bd s s.size; unfold lenC; omega
set_option maxHeartbeats 800000 in
theorem impl_okC (s : ByteArray) (hs : s.size ≤ 1048576) (w : World) :
    Calls Tryz.prog 40 #[.string s] w (RetP (.bool (vCo s)) w) := by
  have HV : Hid (vCo s = (inB s.size 1 60 && onl pcC s s.size && decide (lenC s ≤ 200))) := Lib.hid rfl
  obtain ⟨x, hx⟩ : ∃ x, inB s.size 1 60 = x := ⟨_, rfl⟩
  obtain ⟨y, hy⟩ : ∃ y, onl pcC s s.size = y := ⟨_, rfl⟩
  have HI := Lib.hid (fun w => RetP.bool (impl_within (s.size : Int) 1 60 w) hx)
  have HP := Lib.hid (fun w => RetP.bool (only_pc s (by unfold maxLen; omega) w) hy)
  have HL := Lib.hid (fun w => impl_length s hs w)
  rw [hx, hy] at HV
  clear hx hy
  obtain ⟨z, hz⟩ : ∃ z, lenC s = z := ⟨_, rfl⟩
  rw [hz] at HL HV
  clear hz
  go_enter Tryz.func40, Tryz.ntmps40
  go_wp2_with fail
  refine (show Calls _ _ _ _ _ from HI.out _).mono ?_
  rintro e w1 ⟨rfl, rfl⟩
  cases x
  · go_wp2_with fail
    go_ret
    exact ⟨ret_bool (by rw [HV.out]; rfl), rfl⟩
  go_wp2_with fail
  refine (show Calls _ _ _ _ _ from HP.out _).mono ?_
  rintro e w1 ⟨rfl, rfl⟩
  cases y
  · go_wp2_with fail
    go_ret
    exact ⟨ret_bool (by rw [HV.out]; rfl), rfl⟩
  go_wp2_with fail
  refine (show Calls _ _ _ _ _ from HL.out _).mono ?_
  rintro e w1 ⟨rfl, rfl⟩
  go_wp2_with fail
  go_ret
  exact ⟨ret_bool (by rw [HV.out]; simp), rfl⟩
set_option maxHeartbeats 800000 in
theorem spec_okC (s : ByteArray) (hs : s.size ≤ 1048576) (w : World) :
    Calls Tryz.prog 51 #[.string s] w (RetP (.bool (vCo s)) w) := by
  have HV : Hid (vCo s = (inB s.size 1 60 && onl pcC s s.size && decide (lenC s ≤ 200))) := Lib.hid rfl
  obtain ⟨x, hx⟩ : ∃ x, inB s.size 1 60 = x := ⟨_, rfl⟩
  obtain ⟨y, hy⟩ : ∃ y, onl pcC s s.size = y := ⟨_, rfl⟩
  have HI := Lib.hid (fun w => RetP.bool (spec_in (s.size : Int) 1 60 w) hx)
  have HP := Lib.hid (fun w => RetP.bool (spec_pieces s (by unfold maxLen; omega) w) hy)
  have HL := Lib.hid (fun w => spec_length s hs w)
  rw [hx, hy] at HV
  clear hx hy
  obtain ⟨z, hz⟩ : ∃ z, lenC s = z := ⟨_, rfl⟩
  rw [hz] at HL HV
  clear hz
  go_enter Tryz.func51, Tryz.ntmps51
  go_wp2_with fail
  refine (show Calls _ _ _ _ _ from HI.out _).mono ?_
  rintro e w1 ⟨rfl, rfl⟩
  cases x
  · go_wp2_with fail
    go_ret
    exact ⟨ret_bool (by rw [HV.out]; rfl), rfl⟩
  go_wp2_with fail
  refine (show Calls _ _ _ _ _ from HP.out _).mono ?_
  rintro e w1 ⟨rfl, rfl⟩
  cases y
  · go_wp2_with fail
    go_ret
    exact ⟨ret_bool (by rw [HV.out]; rfl), rfl⟩
  go_wp2_with fail
  refine (show Calls _ _ _ _ _ from HL.out _).mono ?_
  rintro e w1 ⟨rfl, rfl⟩
  go_wp2_with fail
  go_ret
  exact ⟨ret_bool (by rw [HV.out]; simp), rfl⟩
set_option maxHeartbeats 1600000 in
theorem spec_course (o : CO) (w : World) (hl : LenCO o) :
    Calls Tryz.prog 49 #[.agg #[.string o.lead, .string o.cyc]] w (Ret (.bool (vC o)) w) := by
  obtain ⟨hl1, hl2⟩ := hl
  have HL := Lib.hid (fun w => spec_pieces o.lead hl1 w)
  have HC := Lib.hid (fun w => spec_plain o.cyc hl2 w)
  unfold maxLen at hl1 hl2
  obtain ⟨a, c⟩ := o
  dsimp only at *
  by_cases h1 : a.size ≤ 6
  · have e1 : (a.size : Int) ≤ 6 := by omega
    have HV : Hid (vC ⟨a, c⟩ = (onl pcC a a.size && inB c.size 1 8 && onl whC c c.size)) := Lib.hid (by unfold vC; rw [decide_eq_true h1]; rfl)
    obtain ⟨x, hx⟩ : ∃ x, onl pcC a a.size = x := ⟨_, rfl⟩
    obtain ⟨y, hy⟩ : ∃ y, inB c.size 1 8 = y := ⟨_, rfl⟩
    obtain ⟨z, hz⟩ : ∃ z, onl whC c c.size = z := ⟨_, rfl⟩
    have HI := Lib.hid (fun w => RetP.bool (spec_in (c.size : Int) 1 8 w) hy)
    rw [hx, hy, hz] at HV
    rw [hx] at HL
    rw [hz] at HC
    clear hx hy hz h1
    go_enter Tryz.func49, Tryz.ntmps49
    go_wp2_with fail
    refine (show Calls _ _ _ _ _ from HL.out _).mono ?_
    rintro e w1 ⟨rfl, rfl⟩
    cases x
    · go_wp2_with fail
      go_ret
      exact ⟨ret_bool (by rw [HV.out]; rfl), ext_alloc1 _ _⟩
    · go_wp2_with fail
      refine (show Calls _ _ _ _ _ from HI.out _).mono ?_
      rintro e w1 ⟨rfl, rfl⟩
      cases y
      · go_wp2_with fail
        go_ret
        exact ⟨ret_bool (by rw [HV.out]; rfl), ext_alloc1 _ _⟩
      · go_wp2_with fail
        refine (show Calls _ _ _ _ _ from HC.out _).mono ?_
        rintro e w1 ⟨rfl, rfl⟩
        go_wp2_with fail
        go_ret
        exact ⟨ret_bool (by rw [HV.out]; rfl), ext_alloc1 _ _⟩
  · have e1 : ¬ (a.size : Int) ≤ 6 := by omega
    have HV : Hid (vC ⟨a, c⟩ = false) := Lib.hid (by unfold vC; rw [decide_eq_false h1]; rfl)
    go_enter Tryz.func49, Tryz.ntmps49
    go_wp2_with fail
    go_ret
    exact ⟨ret_bool (by rw [HV.out]), ext_alloc1 _ _⟩
set_option maxHeartbeats 1600000 in
theorem spec_okB (b : Nat) (o : Nat) (A : Option Addr) (c : Nat) (nm : ByteArray) (cs : List CO) (w : World) (hn : nm.size ≤ maxLen) (hl : LenCOS cs) (ha : RCOS w (.slice A cs.length c) cs)
    (h0 : w.cell? ⟨b, o, none⟩ = some (.string nm)) (h1 : w.cell? ⟨b, o + 1, none⟩ = some (.slice A cs.length c)) :
    Calls Tryz.prog 30 #[.pointer (some ⟨b, o, none⟩)] w (Ret (.bool (vB nm cs)) w) := by
  have HN := Lib.hid (fun w => spec_IsName nm hn w)
  have HA := Lib.hid ha
  have HL := Lib.hid hl
  have H0 := Lib.hid h0
  have H1 := Lib.hid h1
  have hcm := (ha.open_ : ∃ A' c', _)
  obtain ⟨_, _, _, hc1, hc2⟩ := hcm
  unfold maxLen at hc2
  have hlm : cs.length ≤ 9223372036854775807 := by omega
  clear ha hl h0 h1 hn hc1 hc2
  go_enter Tryz.func30, Tryz.ntmps30
  go_wp2_with fail
  go_loopw [3] (fun i wr => ∃ k : Nat, k ≤ cs.length ∧ i = .int .i64 k ∧ Hid ((cs.take k).all vC = true) ∧ Hid (Below w.heap.size w wr)) (fun i _ => cs.length - (intOf i).toNat)
  case atStart => exact ⟨0, Nat.zero_le _, rfl, Lib.hid rfl, Lib.hid (ext_refl _)⟩
  case round =>
    obtain ⟨k, hk, rfl, HT, HB⟩ := hrel
    have e1 : (0 : Int) ≤ k := by omega
    have k1 := cell_keep H1.out HB.out
    by_cases hlt : k < cs.length
    · have e2 : (k : Int) < cs.length := by omega
      obtain ⟨ad, rfl, _, hc⟩ := (HA.out.ext HB.out).at hlt
      obtain ⟨p0, p1⟩ := hc k hlt
      have HLO : Hid (LenCO (gd cs k)) := Lib.hid (HL.out.2 _ (gd_mem hlt))
      have HA2 := Lib.hid (vCall_succ hlt)
      clear hc
      have HQ := Lib.hid (fun h => vCall_no hlt h)
      obtain ⟨q, hq⟩ : ∃ q, gd cs k = q := ⟨_, rfl⟩
      rw [hq] at p0 p1 HLO HA2 HQ
      clear hq
      go_wp2_with fail
      refine (spec_course q _ HLO.out).mono ?_
      rintro e w3 ⟨rfl, hb3⟩
      have HB3 := Lib.hid (ext_trans HB.out hb3)
      clear hb3
      cases hv : vC q with
      | false =>
        have HF : Hid (vB nm cs = false) := Lib.hid (by unfold vB; rw [HQ.out hv]; simp)
        clear hv
        go_wp2_with fail
        go_ret
        exact ⟨ret_bool HF.out.symm, HB3.out⟩
      | true =>
        have HA3 : Hid ((cs.take (k + 1)).all vC = true) := Lib.hid (by rw [HA2.out, HT.out, hv]; rfl)
        clear hv
        go_wp2_with fail
        go_roundw
        case rel => exact ⟨k + 1, by omega, by go_num, HA3.out, HB3⟩
        case measure => simp [intOf]; omega
    · obtain rfl : k = cs.length := by omega
      have k0 := cell_keep H0.out HB.out
      have e2 : ¬ (cs.length : Int) < cs.length := by omega
      have HV : Hid (vB nm cs = (isN nm && inB cs.length 1 8)) := Lib.hid (by have := HT.out; rw [List.take_length] at this; unfold vB; rw [this]; simp)
      obtain ⟨x, hx⟩ : ∃ x, isN nm = x := ⟨_, rfl⟩
      obtain ⟨y, hy⟩ : ∃ y, inB cs.length 1 8 = y := ⟨_, rfl⟩
      have HI := Lib.hid (fun w => RetP.bool (spec_in (cs.length : Int) 1 8 w) hy)
      rw [hx] at HN HV
      rw [hy] at HV
      clear hx hy
      go_wp2_with fail
      refine (show Calls _ _ _ _ _ from HN.out _).mono ?_
      rintro e w3 ⟨rfl, rfl⟩
      cases x
      · go_wp2_with fail
        go_ret
        exact ⟨ret_bool (by rw [HV.out]; rfl), HB.out⟩
      · go_wp2_with fail
        refine (show Calls _ _ _ _ _ from HI.out _).mono ?_
        rintro e w3 ⟨rfl, rfl⟩
        go_wp2_with fail
        go_ret
        exact ⟨ret_bool (by rw [HV.out]; rfl), HB.out⟩
end Go.Proofs.YtoefoljhgnfoiaaGreatDoor
