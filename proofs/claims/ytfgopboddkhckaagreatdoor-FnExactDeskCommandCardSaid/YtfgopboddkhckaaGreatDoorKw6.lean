/-
  Parts of the proof: Val, DecP, NumP, SplP.
-/
import Derived.Test.YtfgopboddkhckaaGreatDoorKw5
import Derived.Lib.ItoaNum
import Derived.Lib.ParseIntBCases
import Derived.Lib.Atoi
import Derived.Lib.Split
namespace Go.Proofs.YtfgopboddkhckaaGreatDoor
open Go.ChangeShapes Go.WideShapes Go.ChangeAt Go.RowKit Go.Sort Go.Joins
set_option linter.unusedVariables false
set_option maxRecDepth 100000
def vF (f : FM) : Bool := inB f.l 100 500 && inB f.w 50 250 && inB f.h 30 150 && inB f.j 0 20 && decide (f.w < f.l)
def lenQ (s : ByteArray) : Nat → Int
 | 0 => 0
 | k + 1 => lenQ s k + qC (byt s k)
theorem qC_bd (y : Int) : 0 ≤ qC y ∧ qC y ≤ 4 := by unfold qC; split <;> (try split) <;> (try split) <;> (try split) <;> omega
theorem lenQ_bd (s : ByteArray) (k : Nat) : 0 ≤ lenQ s k ∧ lenQ s k ≤ 4 * k := by
 induction k with
 | zero => exact ⟨Int.le_refl _, by simp [lenQ]⟩
 | succ k ih => have := qC_bd (byt s k); unfold lenQ; omega
def lenC (s : ByteArray) : Int := lenQ s s.size
def vCo (s : ByteArray) : Bool := inB s.size 1 60 && onl pcC s s.size && decide (lenC s ≤ 200)
def vCw (t s : ByteArray) : Bool := vCo s && decide (lenC s = lenC t)
def vW (l : List ByteArray) : Bool := inB l.length 1 40 && l.all (vCw (gd l 0))
theorem vCw_no {l : List ByteArray} {t : ByteArray} {k : Nat} (hk : k < l.length) (h : vCw t (gd l k) = false) : l.all (vCw t) = false := by
 rw [List.all_eq_false]; exact ⟨gd l k, gd_mem hk, by simp [h]⟩
theorem vCw_succ {l : List ByteArray} {t : ByteArray} {k : Nat} (hk : k < l.length) : (l.take (k + 1)).all (vCw t) = ((l.take k).all (vCw t) && vCw t (gd l k)) := by rw [take_gd hk]; simp
set_option maxHeartbeats 1600000 in
theorem spec_okF (f : FM) (w : World) :
   Calls Tryz.prog 73 #[.agg #[.int .i64 f.l, .int .i64 f.w, .int .i64 f.h, .int .i64 f.j]] w (Ret (.bool (vF f)) w) := by
 obtain ⟨a, b, c, d⟩ := f
 have HV : Hid (vF ⟨a, b, c, d⟩ = (inB a 100 500 && inB b 50 250 && inB c 30 150 && inB d 0 20 && decide (b < a))) := Lib.hid rfl
 dsimp only at *
 obtain ⟨x1, h1⟩ : ∃ x, inB a 100 500 = x := ⟨_, rfl⟩
 obtain ⟨x2, h2⟩ : ∃ x, inB b 50 250 = x := ⟨_, rfl⟩
 obtain ⟨x3, h3⟩ : ∃ x, inB c 30 150 = x := ⟨_, rfl⟩
 obtain ⟨x4, h4⟩ : ∃ x, inB d 0 20 = x := ⟨_, rfl⟩
 have H1 := Lib.hid (fun w => RetP.bool (spec_in a 100 500 w) h1)
 have H2 := Lib.hid (fun w => RetP.bool (spec_in b 50 250 w) h2)
 have H3 := Lib.hid (fun w => RetP.bool (spec_in c 30 150 w) h3)
 have H4 := Lib.hid (fun w => RetP.bool (spec_in d 0 20 w) h4)
 rw [h1, h2, h3, h4] at HV
 clear h1 h2 h3 h4
 go_enter Tryz.func73, Tryz.ntmps73
 go_wp2_with fail
 refine (show Calls _ _ _ _ _ from H1.out _).mono ?_
 rintro e w1 ⟨rfl, rfl⟩
 cases x1
 · go_wp2_with fail
   go_ret
   exact ⟨ret_bool (by rw [HV.out]; rfl), ext_alloc1 _ _⟩
 go_wp2_with fail
 refine (show Calls _ _ _ _ _ from H2.out _).mono ?_
 rintro e w1 ⟨rfl, rfl⟩
 cases x2
 · go_wp2_with fail
   go_ret
   exact ⟨ret_bool (by rw [HV.out]; rfl), ext_alloc1 _ _⟩
 go_wp2_with fail
 refine (show Calls _ _ _ _ _ from H3.out _).mono ?_
 rintro e w1 ⟨rfl, rfl⟩
 cases x3
 · go_wp2_with fail
   go_ret
   exact ⟨ret_bool (by rw [HV.out]; rfl), ext_alloc1 _ _⟩
 go_wp2_with fail
 refine (show Calls _ _ _ _ _ from H4.out _).mono ?_
 rintro e w1 ⟨rfl, rfl⟩
 cases x4
 · go_wp2_with fail
   go_ret
   exact ⟨ret_bool (by rw [HV.out]; rfl), ext_alloc1 _ _⟩
 go_wp2_with fail
 go_ret
 exact ⟨ret_bool (by rw [HV.out]; simp), ext_alloc1 _ _⟩
set_option maxHeartbeats 1600000 in
theorem impl_okF (f : FM) (w : World) :
   Calls Tryz.prog 77 #[.agg #[.int .i64 f.l, .int .i64 f.w, .int .i64 f.h, .int .i64 f.j]] w (Ret (.bool (vF f)) w) := by
 obtain ⟨a, b, c, d⟩ := f
 have HV : Hid (vF ⟨a, b, c, d⟩ = (inB a 100 500 && inB b 50 250 && inB c 30 150 && inB d 0 20 && decide (b < a))) := Lib.hid rfl
 dsimp only at *
 obtain ⟨x1, h1⟩ : ∃ x, inB a 100 500 = x := ⟨_, rfl⟩
 obtain ⟨x2, h2⟩ : ∃ x, inB b 50 250 = x := ⟨_, rfl⟩
 obtain ⟨x3, h3⟩ : ∃ x, inB c 30 150 = x := ⟨_, rfl⟩
 obtain ⟨x4, h4⟩ : ∃ x, inB d 0 20 = x := ⟨_, rfl⟩
 have H1 := Lib.hid (fun w => RetP.bool (impl_within a 100 500 w) h1)
 have H2 := Lib.hid (fun w => RetP.bool (impl_within b 50 250 w) h2)
 have H3 := Lib.hid (fun w => RetP.bool (impl_within c 30 150 w) h3)
 have H4 := Lib.hid (fun w => RetP.bool (impl_within d 0 20 w) h4)
 rw [h1, h2, h3, h4] at HV
 clear h1 h2 h3 h4
 go_enter Tryz.func77, Tryz.ntmps77
 go_wp2_with fail
 refine (show Calls _ _ _ _ _ from H1.out _).mono ?_
 rintro e w1 ⟨rfl, rfl⟩
 cases x1
 · go_wp2_with fail
   go_ret
   exact ⟨ret_bool (by rw [HV.out]; rfl), ext_alloc1 _ _⟩
 go_wp2_with fail
 refine (show Calls _ _ _ _ _ from H2.out _).mono ?_
 rintro e w1 ⟨rfl, rfl⟩
 cases x2
 · go_wp2_with fail
   go_ret
   exact ⟨ret_bool (by rw [HV.out]; rfl), ext_alloc1 _ _⟩
 go_wp2_with fail
 refine (show Calls _ _ _ _ _ from H3.out _).mono ?_
 rintro e w1 ⟨rfl, rfl⟩
 cases x3
 · go_wp2_with fail
   go_ret
   exact ⟨ret_bool (by rw [HV.out]; rfl), ext_alloc1 _ _⟩
 go_wp2_with fail
 refine (show Calls _ _ _ _ _ from H4.out _).mono ?_
 rintro e w1 ⟨rfl, rfl⟩
 cases x4
 · go_wp2_with fail
   go_ret
   exact ⟨ret_bool (by rw [HV.out]; rfl), ext_alloc1 _ _⟩
 go_wp2_with fail
 go_ret
 exact ⟨ret_bool (by rw [HV.out]; simp), ext_alloc1 _ _⟩
theorem impl_quarters (y : Int) (h0 : 0 ≤ y) (h1 : y ≤ 255) (w : World) : Calls Tryz.prog 200 #[.int .u8 y] w (RetP (.int .i64 (qC y)) w) := by
 rcases pc_cases y with rfl | rfl | rfl | rfl | rfl | ⟨h1, h2, h3, h4, h5⟩
 any_goals
   go_enter Tryz.func200, Tryz.ntmps200
   go_wp2_with fail
   go_ret
   exact ⟨rfl, rfl⟩
 have HX : Hid (qC y = 0) := Lib.hid (by simp [qC, h1, h2, h3, h4, h5])
 have f1 : (y == 83) = false := beq_eq_false_iff_ne.2 h1
 have f2 : (y == 84) = false := beq_eq_false_iff_ne.2 h2
 have f3 : (y == 72) = false := beq_eq_false_iff_ne.2 h3
 have f4 : (y == 66) = false := beq_eq_false_iff_ne.2 h4
 have f5 : (y == 67) = false := beq_eq_false_iff_ne.2 h5
 go_enter Tryz.func200, Tryz.ntmps200
 go_wp2_with fail
 go_ret
 exact ⟨ret_int HX.out.symm, rfl⟩
set_option maxHeartbeats 800000 in
theorem impl_length (s : ByteArray) (hs : s.size ≤ 1048576) (w : World) :
   Calls Tryz.prog 148 #[.string s] w (RetP (.int .i64 (lenC s)) w) := by
 go_enter Tryz.func148, Tryz.ntmps148
 go_wp2_with fail
 go_loop [3, 7] (fun u i => ∃ k : Nat, k ≤ s.size ∧ i = .int .i64 k ∧ u = .int .i64 (lenQ s k)) (fun _ i => s.size - (intOf i).toNat)
 case atStart => exact ⟨0, Nat.zero_le _, rfl, rfl⟩
 case round =>
   obtain ⟨k, hk, rfl, rfl⟩ := hrel
   have e0 : (0:Int) ≤ k := by omega
   by_cases hlt : k < s.size
   · have e1 : (k:Int) < s.size := by omega
     have hy := byt_eq s k hlt
     have hyb := byt_bd s k
     have hb1 := lenQ_bd s k
     have hb2 := qC_bd (byt s k)
     have HS : Hid (lenQ s (k + 1) = lenQ s k + qC (byt s k)) := Lib.hid rfl
     obtain ⟨y, hyy⟩ : ∃ y, byt s k = y := ⟨_, rfl⟩
     rw [hyy] at hy hyb HS hb2
     clear hyy
     have HC := Lib.hid (fun w => impl_quarters y hyb.1 hyb.2 w)
     obtain ⟨z, hzz⟩ : ∃ z, qC y = z := ⟨_, rfl⟩
     rw [hzz] at HC HS hb2
     obtain ⟨t, htt⟩ : ∃ t, lenQ s k = t := ⟨_, rfl⟩
     rw [htt] at HS hb1
     rw [htt]
     clear hzz htt hyb
     go_wp2_with fail
     refine (show Calls _ _ _ _ _ from HC.out _).mono ?_
     rintro e w1 ⟨rfl, rfl⟩
     go_wp2_with fail
     go_round
     case rel => exact ⟨k + 1, by omega, by go_num, by rw [HS.out]⟩
     case measure => simp [intOf]; omega
   · obtain rfl : k = s.size := by omega
     have e1 : ¬ (s.size:Int) < s.size := by omega
     go_wp2_with fail
     go_ret
     exact ⟨rfl, rfl⟩
set_option maxHeartbeats 800000 in
theorem spec_length (s : ByteArray) (hs : s.size ≤ 1048576) (w : World) :
   Calls Tryz.prog 139 #[.string s] w (RetP (.int .i64 (lenC s)) w) := by
 go_enter Tryz.func139, Tryz.ntmps139
 go_wp2_with fail
 go_loop [3, 4] (fun u i => ∃ k : Nat, k ≤ s.size ∧ i = .int .i64 k ∧ u = .int .i64 (lenQ s k)) (fun _ i => s.size - (intOf i).toNat)
 case atStart => exact ⟨0, Nat.zero_le _, rfl, rfl⟩
 case round =>
   obtain ⟨k, hk, rfl, rfl⟩ := hrel
   have e0 : (0:Int) ≤ k := by omega
   by_cases hlt : k < s.size
   · have e1 : (k:Int) < s.size := by omega
     have hy := byt_eq s k hlt
     have hyb := byt_bd s k
     have hb1 := lenQ_bd s k
     have hb2 := qC_bd (byt s k)
     have HS : Hid (lenQ s (k + 1) = lenQ s k + qC (byt s k)) := Lib.hid rfl
     obtain ⟨y, hyy⟩ : ∃ y, byt s k = y := ⟨_, rfl⟩
     rw [hyy] at hy hyb HS hb2
     clear hyy
     have HC := Lib.hid (fun w => spec_quarters y hyb.1 hyb.2 w)
     obtain ⟨z, hzz⟩ : ∃ z, qC y = z := ⟨_, rfl⟩
     rw [hzz] at HC HS hb2
     obtain ⟨t, htt⟩ : ∃ t, lenQ s k = t := ⟨_, rfl⟩
     rw [htt] at HS hb1
     rw [htt]
     clear hzz htt hyb
     go_wp2_with fail
     refine (show Calls _ _ _ _ _ from HC.out _).mono ?_
     rintro e w1 ⟨rfl, rfl⟩
     go_wp2_with fail
     go_round
     case rel => exact ⟨k + 1, by omega, by go_num, by rw [HS.out]⟩
     case measure => simp [intOf]; omega
   · obtain rfl : k = s.size := by omega
     have e1 : ¬ (s.size:Int) < s.size := by omega
     go_wp2_with fail
     go_ret
     exact ⟨rfl, rfl⟩
set_option maxHeartbeats 800000 in
theorem impl_okC (s : ByteArray) (hs : s.size ≤ 1048576) (w : World) :
   Calls Tryz.prog 147 #[.string s] w (RetP (.bool (vCo s)) w) := by
 have HV : Hid (vCo s = (inB s.size 1 60 && onl pcC s s.size && decide (lenC s ≤ 200))) := Lib.hid rfl
 obtain ⟨x, hx⟩ : ∃ x, inB s.size 1 60 = x := ⟨_, rfl⟩
 obtain ⟨y, hy⟩ : ∃ y, onl pcC s s.size = y := ⟨_, rfl⟩
 have HI := Lib.hid (fun w => RetP.bool (impl_within (s.size : Int) 1 60 w) hx)
 have HP := Lib.hid (fun w => RetP.bool (only_pc s (by unfold maxLen; omega) w) hy)
 have HL := Lib.hid (fun w => impl_length s hs w)
 rw [hx, hy] at HV
 clear hx hy
 obtain ⟨z, hz⟩ : ∃ z, lenC s = z := ⟨_, rfl⟩
 rw [hz] at HL HV
 clear hz
 go_enter Tryz.func147, Tryz.ntmps147
 go_wp2_with fail
 refine (show Calls _ _ _ _ _ from HI.out _).mono ?_
 rintro e w1 ⟨rfl, rfl⟩
 cases x
 · go_wp2_with fail
   go_ret
   exact ⟨ret_bool (by rw [HV.out]; rfl), rfl⟩
 go_wp2_with fail
 refine (show Calls _ _ _ _ _ from HP.out _).mono ?_
 rintro e w1 ⟨rfl, rfl⟩
 cases y
 · go_wp2_with fail
   go_ret
   exact ⟨ret_bool (by rw [HV.out]; rfl), rfl⟩
 go_wp2_with fail
 refine (show Calls _ _ _ _ _ from HL.out _).mono ?_
 rintro e w1 ⟨rfl, rfl⟩
 go_wp2_with fail
 go_ret
 exact ⟨ret_bool (by rw [HV.out]; simp), rfl⟩
set_option maxHeartbeats 800000 in
theorem spec_okC (s : ByteArray) (hs : s.size ≤ 1048576) (w : World) :
   Calls Tryz.prog 138 #[.string s] w (RetP (.bool (vCo s)) w) := by
 have HV : Hid (vCo s = (inB s.size 1 60 && onl pcC s s.size && decide (lenC s ≤ 200))) := Lib.hid rfl
 obtain ⟨x, hx⟩ : ∃ x, inB s.size 1 60 = x := ⟨_, rfl⟩
 obtain ⟨y, hy⟩ : ∃ y, onl pcC s s.size = y := ⟨_, rfl⟩
 have HI := Lib.hid (fun w => RetP.bool (spec_in (s.size : Int) 1 60 w) hx)
 have HP := Lib.hid (fun w => RetP.bool (spec_pieces s (by unfold maxLen; omega) w) hy)
 have HL := Lib.hid (fun w => spec_length s hs w)
 rw [hx, hy] at HV
 clear hx hy
 obtain ⟨z, hz⟩ : ∃ z, lenC s = z := ⟨_, rfl⟩
 rw [hz] at HL HV
 clear hz
 go_enter Tryz.func138, Tryz.ntmps138
 go_wp2_with fail
 refine (show Calls _ _ _ _ _ from HI.out _).mono ?_
 rintro e w1 ⟨rfl, rfl⟩
 cases x
 · go_wp2_with fail
   go_ret
   exact ⟨ret_bool (by rw [HV.out]; rfl), rfl⟩
 go_wp2_with fail
 refine (show Calls _ _ _ _ _ from HP.out _).mono ?_
 rintro e w1 ⟨rfl, rfl⟩
 cases y
 · go_wp2_with fail
   go_ret
   exact ⟨ret_bool (by rw [HV.out]; rfl), rfl⟩
 go_wp2_with fail
 refine (show Calls _ _ _ _ _ from HL.out _).mono ?_
 rintro e w1 ⟨rfl, rfl⟩
 go_wp2_with fail
 go_ret
 exact ⟨ret_bool (by rw [HV.out]; simp), rfl⟩
set_option maxHeartbeats 1600000 in
theorem spec_course (o : CO) (w : World) (hl : LenCO o) :
   Calls Tryz.prog 136 #[.agg #[.string o.lead, .string o.cyc]] w (Ret (.bool (vC o)) w) := by
 obtain ⟨hl1, hl2⟩ := hl
 have HL := Lib.hid (fun w => spec_pieces o.lead hl1 w)
 have HC := Lib.hid (fun w => spec_plain o.cyc hl2 w)
 unfold maxLen at hl1 hl2
 obtain ⟨a, c⟩ := o
 dsimp only at *
 by_cases h1 : a.size ≤ 6
 · have e1 : (a.size : Int) ≤ 6 := by omega
   have HV : Hid (vC ⟨a, c⟩ = (onl pcC a a.size && inB c.size 1 8 && onl whC c c.size)) := Lib.hid (by unfold vC; rw [decide_eq_true h1]; rfl)
   obtain ⟨x, hx⟩ : ∃ x, onl pcC a a.size = x := ⟨_, rfl⟩
   obtain ⟨y, hy⟩ : ∃ y, inB c.size 1 8 = y := ⟨_, rfl⟩
   obtain ⟨z, hz⟩ : ∃ z, onl whC c c.size = z := ⟨_, rfl⟩
   have HI := Lib.hid (fun w => RetP.bool (spec_in (c.size : Int) 1 8 w) hy)
   rw [hx, hy, hz] at HV
   rw [hx] at HL
   rw [hz] at HC
   clear hx hy hz h1
   go_enter Tryz.func136, Tryz.ntmps136
   go_wp2_with fail
   refine (show Calls _ _ _ _ _ from HL.out _).mono ?_
   rintro e w1 ⟨rfl, rfl⟩
   cases x
   · go_wp2_with fail
     go_ret
     exact ⟨ret_bool (by rw [HV.out]; rfl), ext_alloc1 _ _⟩
   · go_wp2_with fail
     refine (show Calls _ _ _ _ _ from HI.out _).mono ?_
     rintro e w1 ⟨rfl, rfl⟩
     cases y
     · go_wp2_with fail
       go_ret
       exact ⟨ret_bool (by rw [HV.out]; rfl), ext_alloc1 _ _⟩
     · go_wp2_with fail
       refine (show Calls _ _ _ _ _ from HC.out _).mono ?_
       rintro e w1 ⟨rfl, rfl⟩
       go_wp2_with fail
       go_ret
       exact ⟨ret_bool (by rw [HV.out]; rfl), ext_alloc1 _ _⟩
 · have e1 : ¬ (a.size : Int) ≤ 6 := by omega
   have HV : Hid (vC ⟨a, c⟩ = false) := Lib.hid (by unfold vC; rw [decide_eq_false h1]; rfl)
   go_enter Tryz.func136, Tryz.ntmps136
   go_wp2_with fail
   go_ret
   exact ⟨ret_bool (by rw [HV.out]), ext_alloc1 _ _⟩
set_option maxHeartbeats 1600000 in
theorem spec_okB (b : Nat) (o : Nat) (A : Option Addr) (c : Nat) (nm : ByteArray) (cs : List CO) (w : World) (hn : nm.size ≤ maxLen) (hl : LenCOS cs) (ha : RCOS w (.slice A cs.length c) cs)
   (h0 : w.cell? ⟨b, o, none⟩ = some (.string nm)) (h1 : w.cell? ⟨b, o + 1, none⟩ = some (.slice A cs.length c)) :
   Calls Tryz.prog 74 #[.pointer (some ⟨b, o, none⟩)] w (Ret (.bool (vB nm cs)) w) := by
 have HN := Lib.hid (fun w => spec_IsName nm hn w)
 have HA := Lib.hid ha
 have HL := Lib.hid hl
 have H0 := Lib.hid h0
 have H1 := Lib.hid h1
 have hcm := (ha.open_ : ∃ A' c', _)
 obtain ⟨_, _, _, hc1, hc2⟩ := hcm
 unfold maxLen at hc2
 have hlm : cs.length ≤ 9223372036854775807 := by omega
 clear ha hl h0 h1 hn hc1 hc2
 go_enter Tryz.func74, Tryz.ntmps74
 go_wp2_with fail
 go_loopw [3] (fun i wr => ∃ k : Nat, k ≤ cs.length ∧ i = .int .i64 k ∧ Hid ((cs.take k).all vC = true) ∧ Hid (Below w.heap.size w wr)) (fun i _ => cs.length - (intOf i).toNat)
 case atStart => exact ⟨0, Nat.zero_le _, rfl, Lib.hid rfl, Lib.hid (ext_refl _)⟩
 case round =>
   obtain ⟨k, hk, rfl, HT, HB⟩ := hrel
   have e1 : (0 : Int) ≤ k := by omega
   have k1 := cell_keep H1.out HB.out
   by_cases hlt : k < cs.length
   · have e2 : (k : Int) < cs.length := by omega
     obtain ⟨ad, rfl, _, hc⟩ := (HA.out.ext HB.out).at hlt
     obtain ⟨p0, p1⟩ := hc k hlt
     have HLO : Hid (LenCO (gd cs k)) := Lib.hid (HL.out.2 _ (gd_mem hlt))
     have HA2 := Lib.hid (vCall_succ hlt)
     clear hc
     have HQ := Lib.hid (fun h => vCall_no hlt h)
     obtain ⟨q, hq⟩ : ∃ q, gd cs k = q := ⟨_, rfl⟩
     rw [hq] at p0 p1 HLO HA2 HQ
     clear hq
     go_wp2_with fail
     refine (spec_course q _ HLO.out).mono ?_
     rintro e w3 ⟨rfl, hb3⟩
     have HB3 := Lib.hid (ext_trans HB.out hb3)
     clear hb3
     cases hv : vC q with
     | false =>
       have HF : Hid (vB nm cs = false) := Lib.hid (by unfold vB; rw [HQ.out hv]; simp)
       clear hv
       go_wp2_with fail
       go_ret
       exact ⟨ret_bool HF.out.symm, HB3.out⟩
     | true =>
       have HA3 : Hid ((cs.take (k + 1)).all vC = true) := Lib.hid (by rw [HA2.out, HT.out, hv]; rfl)
       clear hv
       go_wp2_with fail
       go_roundw
       case rel => exact ⟨k + 1, by omega, by go_num, HA3.out, HB3⟩
       case measure => simp [intOf]; omega
   · obtain rfl : k = cs.length := by omega
     have k0 := cell_keep H0.out HB.out
     have e2 : ¬ (cs.length : Int) < cs.length := by omega
     have HV : Hid (vB nm cs = (isN nm && inB cs.length 1 8)) := Lib.hid (by have := HT.out; rw [List.take_length] at this; unfold vB; rw [this]; simp)
     obtain ⟨x, hx⟩ : ∃ x, isN nm = x := ⟨_, rfl⟩
     obtain ⟨y, hy⟩ : ∃ y, inB cs.length 1 8 = y := ⟨_, rfl⟩
     have HI := Lib.hid (fun w => RetP.bool (spec_in (cs.length : Int) 1 8 w) hy)
     rw [hx] at HN HV
     rw [hy] at HV
     clear hx hy
     go_wp2_with fail
     refine (show Calls _ _ _ _ _ from HN.out _).mono ?_
     rintro e w3 ⟨rfl, rfl⟩
     cases x
     · go_wp2_with fail
       go_ret
       exact ⟨ret_bool (by rw [HV.out]; rfl), HB.out⟩
     · go_wp2_with fail
       refine (show Calls _ _ _ _ _ from HI.out _).mono ?_
       rintro e w3 ⟨rfl, rfl⟩
       go_wp2_with fail
       go_ret
       exact ⟨ret_bool (by rw [HV.out]; rfl), HB.out⟩
end Go.Proofs.YtfgopboddkhckaaGreatDoor
namespace Go.Proofs.YtfgopboddkhckaaGreatDoor
open Go.Lib
set_option linter.unusedVariables false
def ddg (u : Nat) : List UInt8 := if u = 0 then [] else decDigits u
theorem ddg_step (u : Nat) (h : u ≠ 0) : ddg u = ddg (u / 10) ++ [UInt8.ofNat (48 + u % 10)] := by
 unfold ddg
 rw [if_neg h]
 rw [decDigits]
 by_cases h10 : u < 10
 · rw [dif_pos h10, if_pos (by omega)]
   rw [Nat.mod_eq_of_lt h10]; rfl
 · rw [dif_neg h10, if_neg (by omega)]
theorem ddg_ne (u : Nat) (h : u ≠ 0) : ddg u ≠ [] := by rw [ddg_step u h]; simp
theorem ddg_dec (u : Nat) (h : u ≠ 0) : decDigits u = ddg u := by unfold ddg; rw [if_neg h]
theorem itoa_zero : itoa 0 = [48] := by
 unfold itoa
 rw [if_neg (by decide)]
 rw [show Int.toNat 0 = 0 from rfl, decDigits]
 rfl
theorem itoa_pos (n : Int) (h : 0 < n) : itoa n = ddg n.natAbs := by
 unfold itoa
 rw [if_neg (by omega), show n.toNat = n.natAbs by omega, ddg_dec _ (by omega)]
theorem itoa_neg (n : Int) (h : n < 0) : itoa n = 45 :: ddg n.natAbs := by
 unfold itoa
 rw [if_pos h, ddg_dec _ (by omega)]
theorem ddg_length_le (k : Nat) : ∀ u : Nat, u < 10 ^ k → (ddg u).length ≤ k := by
 induction k with
 | zero => intro u h; have : u = 0 := by simpa using h
           rw [this]; simp [ddg]
 | succ k ih =>
   intro u h
   by_cases h0 : u = 0
   · rw [h0]; simp [ddg]
   · rw [ddg_step u h0]
     have := ih (u / 10) (by rw [Nat.pow_succ] at h; omega)
     simp; omega
theorem dec_length_le (k u : Nat) (hk : 1 ≤ k) (h : u < 10 ^ k) : (decDigits u).length ≤ k := by
 by_cases h0 : u = 0
 · rw [h0, decDigits]; simp; omega
 · rw [ddg_dec u h0]; exact ddg_length_le k u h
theorem itoa_length_le (n : Int) (h0 : -9223372036854775808 ≤ n) (h1 : n ≤ 9223372036854775807) : (itoa n).length ≤ 20 := by
 unfold itoa
 split
 · have := dec_length_le 19 n.natAbs (by decide) (by omega)
   simp; omega
 · have := dec_length_le 19 n.toNat (by decide) (by omega)
   omega
/-! ### Reading -/
theorem decFrom_append (b : UInt8) : ∀ (l : List UInt8) (acc : Nat), decFrom acc (l ++ [b]) = (decFrom acc l).bind fun a => (digitVal b).map fun d => a * 10 + d := by
 intro l
 induction l with
 | nil => intro acc; simp only [List.nil_append, decFrom, Option.bind_some]; cases digitVal b <;> rfl
 | cons c r ih =>
   intro acc
   simp only [List.cons_append, decFrom]
   cases digitVal c with
   | none => rfl
   | some d => exact ih _
theorem digitVal_of (d : Nat) (h : d < 10) : digitVal (UInt8.ofNat (48 + d)) = some d := by
 have e : (UInt8.ofNat (48 + d)).toNat = 48 + d := by simp [UInt8.toNat_ofNat']; omega
 unfold digitVal
 rw [e, if_pos (by omega)]
 congr 1; omega
theorem decFrom_ddg (u : Nat) : decFrom 0 (ddg u) = some u := by
 induction u using Nat.strongRecOn with
 | ind u ih =>
   by_cases h : u = 0
   · subst h; rfl
   · rw [ddg_step u h, decFrom_append, ih (u / 10) (by omega)]
     rw [Option.bind_some, digitVal_of _ (by omega)]
     simp only [Option.map_some, Option.some.injEq]
     omega
theorem decNat_dec (u : Nat) : decNat (decDigits u) = some u := by
 unfold decNat
 by_cases h : u = 0
 · subst h; rw [decDigits]; rfl
 · rw [ddg_dec u h]
   have := ddg_ne u h
   rw [if_neg (by simpa using this)]
   exact decFrom_ddg u
def badR := parseUintM (2 ^ 64 - 1) 0 [0]
theorem parseUintM_dec (k : Nat) : ∀ (l : List UInt8) (acc : Nat), acc < 10 ^ k → l.length + k ≤ 18 →
   parseUintM (2 ^ 64 - 1) acc l = (match decFrom acc l with | some m => .ok m | none => badR) := by
 intro l
 induction l generalizing k with
 | nil => intro acc _ _; rfl
 | cons c r ih =>
   intro acc ha hl
   simp only [List.length_cons] at hl
   unfold parseUintM
   simp only [decFrom, digitVal]
   by_cases hc : 48 ≤ c.toNat ∧ c.toNat ≤ 57
   · rw [if_pos hc, if_pos hc]
     have h17 : 10 ^ k ≤ 10 ^ 17 := Nat.pow_le_pow_right (by decide) (by omega)
     have e17 : (10 : Nat) ^ 17 = 100000000000000000 := by decide
     have e64 : (2 : Nat) ^ 64 - 1 = 18446744073709551615 := by decide
     rw [if_neg (by omega), if_neg (by omega)]
     exact ih (k + 1) _ (by rw [Nat.pow_succ]; omega) (by omega)
   · rw [if_neg hc, if_neg hc]; rfl
def trm (l : List UInt8) : List UInt8 := match l with | 45 :: r => r | l => l
def sgn (l : List UInt8) : Bool := match l with | 45 :: _ => true | _ => false
def sv (l : List UInt8) (m : Nat) : Int := if sgn l then -(m : Int) else m
def rdec (l : List UInt8) : Option Int :=
 if (trm l).length < 1 ∨ 18 < (trm l).length then none
 else match decFrom 0 (trm l) with
   | some m => if itoa (sv l m) = l then some (sv l m) else none
   | none => none
theorem trm_minus (r : List UInt8) : trm (45 :: r) = r := rfl
theorem trm_other (c : UInt8) (r : List UInt8) (h : c ≠ 45) : trm (c :: r) = c :: r := by
 unfold trm
 split
 · rename_i h'; simp only [List.cons.injEq] at h'; exact absurd h'.1 h
 · rfl
theorem sgn_minus (r : List UInt8) : sgn (45 :: r) = true := rfl
theorem sgn_other (c : UInt8) (r : List UInt8) (h : c ≠ 45) : sgn (c :: r) = false := by
 unfold sgn
 split
 · rename_i h'; simp only [List.cons.injEq] at h'; exact absurd h'.1 h
 · rfl
theorem u8_ne45 {c : UInt8} (h : c ≠ 45) : c.toNat ≠ 45 := fun e => h (by rw [← UInt8.toNat_inj]; exact e)
theorem rdec_parse (l : List UInt8) (h : (trm l).length ≤ 18) :
   rdec l = (match parseIntB 64 l with | .ok v => if itoa v = l then some v else none | _ => none) := by
 cases l with
 | nil => rfl
 | cons c r =>
   by_cases h45 : c = 45
   · subst h45
     rw [trm_minus] at h
     rw [parseIntB_minus]
     unfold rdec parseUintB sv
     rw [trm_minus, sgn_minus]
     cases r with
     | nil => rfl
     | cons d t =>
       have hnl : ¬ ((d :: t).length < 1 ∨ 18 < (d :: t).length) := by simp only [List.length_cons] at h ⊢; omega
       rw [if_neg hnl, if_neg (by simp), parseUintM_dec 0 _ 0 (by decide) (by omega)]
       cases hd : decFrom 0 (d :: t) with
       | none => rfl
       | some m =>
         have hm := decFrom_lt18 hd h
         have e63 : ¬ (2 : Nat) ^ (64 - 1) < m := by have e : (2 : Nat) ^ (64 - 1) = 9223372036854775808 := by decide
                                                     omega
         simp only [signedC, if_true, if_neg e63]
   · by_cases h43 : c = 43
     · subst h43
       rw [parseIntB_plus]
       have e1 : rdec (43 :: r) = none := by
         unfold rdec
         rw [trm_other _ _ h45]
         split
         · rfl
         · have e : decFrom 0 (43 :: r) = none := by simp [decFrom, digitVal]
           rw [e]
       rw [e1]
       cases parseUintB 64 r with
       | ok u =>
         simp only [signlessC]
         by_cases hb : (2 : Nat) ^ (64 - 1) ≤ u
         · rw [if_pos hb]
         · rw [if_neg hb]
           show none = if itoa (u : Int) = 43 :: r then some (u : Int) else none
           rw [if_neg]
           intro he
           unfold itoa at he
           rw [if_neg (by omega)] at he
           by_cases h0 : ((u : Int)).toNat = 0
           · rw [h0, decDigits] at he; simp at he
           · rw [ddg_dec _ h0] at he
             have h2 := decFrom_ddg ((u : Int)).toNat
             rw [he] at h2
             simp [decFrom, digitVal] at h2
       | _ => rfl
     · rw [parseIntB_plain 64 c r (fun e => h43 (by rw [← UInt8.toNat_inj]; exact e)) (u8_ne45 h45)]
       rw [trm_other _ _ h45] at h
       unfold rdec parseUintB sv
       rw [trm_other _ _ h45, sgn_other _ _ h45]
       have hnl : ¬ ((c :: r).length < 1 ∨ 18 < (c :: r).length) := by simp only [List.length_cons] at h ⊢; omega
       rw [if_neg hnl, if_neg (by simp), parseUintM_dec 0 _ 0 (by decide) (by omega)]
       cases hd : decFrom 0 (c :: r) with
       | none => rfl
       | some m =>
         have hm := decFrom_lt18 hd h
         have e63 : ¬ (2 : Nat) ^ (64 - 1) ≤ m := by have e : (2 : Nat) ^ (64 - 1) = 9223372036854775808 := by decide
                                                     omega
         simp only [signlessC, if_neg e63, Bool.false_eq_true, if_false]
theorem rdec_itoa_eq {l : List UInt8} {v : Int} (h : rdec l = some v) : l = itoa v := by
 unfold rdec at h
 split at h
 · cases h
 · split at h
   · split at h
     · rename_i e; cases h; exact e.symm
     · cases h
   · cases h
theorem rdec_range {l : List UInt8} {v : Int} (h : rdec l = some v) : -1000000000000000000 < v ∧ v < 1000000000000000000 := by
 unfold rdec at h
 split at h
 · cases h
 · rename_i hl
   split at h
   · rename_i m hd
     have hm := decFrom_lt18 hd (by omega)
     split at h
     · cases h
       unfold sv
       split <;> omega
     · cases h
   · cases h
theorem rdec_long {l : List UInt8} (h : 18 < (trm l).length) : rdec l = none := by unfold rdec; rw [if_pos (Or.inr h)]
theorem rdec_itoa (v : Int) (h0 : -1000000000000000000 < v) (h1 : v < 1000000000000000000) : rdec (itoa v) = some v := by
 have e18 : (10 : Nat) ^ 18 = 1000000000000000000 := by decide
 by_cases hn : v < 0
 · have e : itoa v = 45 :: ddg v.natAbs := itoa_neg v hn
   have hl := ddg_length_le 18 v.natAbs (by omega)
   have hne := ddg_ne v.natAbs (by omega)
   unfold rdec sv
   rw [e, trm_minus, sgn_minus, decFrom_ddg]
   have h2 : 0 < (ddg v.natAbs).length := List.length_pos_iff.2 hne
   rw [if_neg (by omega)]
   simp only [if_true]
   have ev : -((v.natAbs : Nat) : Int) = v := by omega
   rw [ev, e, if_pos rfl]
 · have hd : itoa v = decDigits v.toNat := by unfold itoa; rw [if_neg hn]
   have hl := dec_length_le 18 v.toNat (by decide) (by omega)
   have hde := decNat_dec v.toNat
   obtain ⟨hne, hdf⟩ := decNat_some hde
   cases hc : decDigits v.toNat with
   | nil => exact absurd hc hne
   | cons c r =>
     have hcd : c ≠ 45 := by
       intro e
       rw [hc, e] at hdf
       simp [decFrom, digitVal] at hdf
     rw [hc] at hl hdf
     unfold rdec sv
     rw [hd, hc, trm_other _ _ hcd, sgn_other _ _ hcd, hdf]
     rw [if_neg (by simp only [List.length_cons] at hl ⊢; omega)]
     have ev : ((v.toNat : Nat) : Int) = v := by omega
     simp only [Bool.false_eq_true, if_false, ev, hd, hc, if_true]
theorem isN_size {s : ByteArray} (h : isN s = true) : 1 ≤ s.size ∧ s.size ≤ 12 := by
 unfold isN at h
 simp at h
 omega
theorem isN_byte {s : ByteArray} (h : isN s = true) {b : UInt8} (hb : b ∈ s.data.toList) : nbC (b.toNat : Int) = true := by
 unfold isN nbs at h
 simp only [Bool.and_eq_true, List.all_eq_true, List.mem_range] at h
 obtain ⟨i, hi, he⟩ := List.mem_iff_getElem.1 hb
 have h1 := h.2 i (by simpa using hi)
 unfold byt at h1
 rw [List.getD_eq_getElem?_getD, List.getElem?_eq_getElem hi] at h1
 rw [← he]; exact h1
theorem isN_no32 {s : ByteArray} (h : isN s = true) : (32 : UInt8) ∉ s.data.toList := by
 intro hm
 have := isN_byte h hm
 revert this; decide
theorem isN_no10 {s : ByteArray} (h : isN s = true) : (10 : UInt8) ∉ s.data.toList := by
 intro hm
 have := isN_byte h hm
 revert this; decide
/-! ### The bytes of numerals -/
theorem ddg_bytes (u : Nat) : ∀ b ∈ ddg u, 48 ≤ b.toNat ∧ b.toNat ≤ 57 := by
 induction u using Nat.strongRecOn with
 | ind u ih =>
   by_cases h : u = 0
   · subst h; simp [ddg]
   · intro b hb
     rw [ddg_step u h] at hb
     rcases List.mem_append.1 hb with hb | hb
     · exact ih (u / 10) (by omega) b hb
     · simp only [List.mem_singleton] at hb
       subst hb
       have h2 : (UInt8.ofNat (48 + u % 10)).toNat = 48 + u % 10 := by simp [UInt8.toNat_ofNat']; omega
       rw [h2]; omega
theorem itoa_bytes (n : Int) : ∀ b ∈ itoa n, b = 45 ∨ (48 ≤ b.toNat ∧ b.toNat ≤ 57) := by
 intro b hb
 rcases Int.lt_trichotomy n 0 with h | h | h
 · rw [itoa_neg n h] at hb
   rcases List.mem_cons.1 hb with rfl | hb
   · exact Or.inl rfl
   · exact Or.inr (ddg_bytes _ b hb)
 · subst h
   rw [itoa_zero] at hb
   simp only [List.mem_singleton] at hb
   subst hb
   exact Or.inr (by decide)
 · rw [itoa_pos n h] at hb
   exact Or.inr (ddg_bytes _ b hb)
theorem itoa_no {c : UInt8} (n : Int) (h : c ≠ 45) (h2 : c.toNat < 48 ∨ 57 < c.toNat) : c ∉ itoa n := fun hm => by
  rcases itoa_bytes n c hm with h1 | h1
  · exact h h1
  · omega
theorem itoa_no32 (n : Int) : (32 : UInt8) ∉ itoa n := itoa_no n (by decide) (Or.inl (by decide))
theorem itoa_no10 (n : Int) : (10 : UInt8) ∉ itoa n := itoa_no n (by decide) (Or.inl (by decide))
theorem itoa_small (n : Int) (h0 : -1000000000 ≤ n) (h1 : n ≤ 1000000000) : (itoa n).length ≤ 11 := by
 unfold itoa
 split
 · have := dec_length_le 10 n.natAbs (by decide) (by omega)
   simp; omega
 · have := dec_length_le 10 n.toNat (by decide) (by omega)
   omega
def splL (b : UInt8) : List UInt8 → List (List UInt8)
 | [] => [[]]
 | c :: r => if c = b then [] :: splL b r else match splL b r with | h :: t => (c :: h) :: t | [] => [[c]]
theorem splL_ne (b : UInt8) (l : List UInt8) : splL b l ≠ [] := by
 cases l with
 | nil => simp [splL]
 | cons c r =>
   rw [splL]
   split
   · simp
   · split <;> simp
theorem splL_cons (b : UInt8) {c : UInt8} (hc : c ≠ b) {r h : List UInt8} {t : List (List UInt8)} (hr : splL b r = h :: t) : splL b (c :: r) = (c :: h) :: t := by
 rw [splL, if_neg hc, hr]
theorem splL_none {b : UInt8} : ∀ {l : List UInt8}, b ∉ l → splL b l = [l]
 | [], _ => rfl
 | c :: r, h => by
   simp only [List.mem_cons, not_or] at h
   exact splL_cons b (fun e => h.1 e.symm) (splL_none h.2)
theorem splL_hit {b : UInt8} : ∀ {l : List UInt8} {k : Nat}, b ∉ l.take k → l[k]? = some b → splL b l = l.take k :: splL b (l.drop (k + 1))
 | [], k, _, h => by simp at h
 | c :: r, 0, _, h => by
   simp at h
   subst h
   rw [splL, if_pos rfl]; rfl
 | c :: r, k + 1, hn, h => by
   simp only [List.take_succ_cons, List.mem_cons, not_or] at hn
   simp only [List.getElem?_cons_succ] at h
   have ih := splL_hit hn.2 h
   rw [splL_cons b (fun e => hn.1 e.symm) ih]
   rfl
def jnL (b : UInt8) : List (List UInt8) → List UInt8
 | [] => []
 | [l] => l
 | l :: m :: t => l ++ b :: jnL b (m :: t)
theorem jnL_cons (b : UInt8) (l : List UInt8) {t : List (List UInt8)} (h : t ≠ []) : jnL b (l :: t) = l ++ b :: jnL b t := by
 cases t with
 | nil => exact absurd rfl h
 | cons m t => rfl
theorem jn_spl (b : UInt8) : ∀ l : List UInt8, jnL b (splL b l) = l
 | [] => rfl
 | c :: r => by
   have ih := jn_spl b r
   rw [splL]
   split
   · rename_i h
     subst h
     rw [jnL_cons _ _ (splL_ne _ _), ih]; rfl
   · split
     · rename_i h t hr
       rw [hr] at ih
       cases t with
       | nil =>
         simp only [jnL] at ih ⊢
         rw [ih]
       | cons m t =>
         rw [jnL_cons _ _ (by simp)] at ih
         rw [jnL_cons _ _ (by simp), List.cons_append, ih]
     · rename_i hr
       exact absurd hr (splL_ne _ _)
theorem spl_jn (b : UInt8) : ∀ (p : List (List UInt8)), p ≠ [] → (∀ x ∈ p, b ∉ x) → splL b (jnL b p) = p
 | [], h, _ => absurd rfl h
 | [l], _, hn => splL_none (hn l (by simp))
 | l :: m :: t, _, hn => by
   have ih := spl_jn b (m :: t) (by simp) (fun x hx => hn x (List.mem_cons_of_mem _ hx))
   rw [jnL_cons _ _ (by simp)]
   have h1 : (l ++ b :: jnL b (m :: t)).take l.length = l := by simp
   have h2 : (l ++ b :: jnL b (m :: t)).drop (l.length + 1) = jnL b (m :: t) := by
     rw [show l ++ b :: jnL b (m :: t) = (l ++ [b]) ++ jnL b (m :: t) by simp, List.drop_append_of_le_length (by simp)]
     simp
   rw [splL_hit (k := l.length) (by rw [h1]; exact hn l (by simp)) (by simp), h1, h2, ih]
theorem splL_no {b : UInt8} : ∀ {l : List UInt8} {x : List UInt8}, x ∈ splL b l → b ∉ x
 | [], x, h => by simp [splL] at h; subst h; simp
 | c :: r, x, h => by
   rw [splL] at h
   split at h
   · rcases List.mem_cons.1 h with rfl | h
     · simp
     · exact splL_no h
   · rename_i hc
     split at h
     · rename_i y t hr
       rcases List.mem_cons.1 h with rfl | h
       · have : b ∉ y := splL_no (by rw [hr]; simp)
         simp only [List.mem_cons, not_or]
         exact ⟨fun e => hc e.symm, this⟩
       · exact splL_no (by rw [hr]; exact List.mem_cons_of_mem _ h)
     · simp only [List.mem_singleton] at h
       subst h
       simp only [List.mem_cons, List.not_mem_nil, or_false]
       exact fun e => hc e.symm
theorem splL_len (b : UInt8) : ∀ l : List UInt8, (splL b l).length ≤ l.length + 1
 | [] => by simp [splL]
 | c :: r => by
   have ih := splL_len b r
   rw [splL]
   split
   · simp only [List.length_cons]; omega
   · split
     · rename_i hr; rw [hr] at ih; simp only [List.length_cons] at ih ⊢; omega
     · simp
theorem splL_part {b : UInt8} {l x : List UInt8} (h : x ∈ splL b l) : x.length ≤ l.length := by
 have h1 := jn_spl b l
 have : ∀ (p : List (List UInt8)), x ∈ p → x.length ≤ (jnL b p).length := by
   intro p
   induction p with
   | nil => intro h; simp at h
   | cons y t ih =>
     intro hx
     cases t with
     | nil => simp only [List.mem_singleton] at hx; subst hx; exact Nat.le_refl _
     | cons m t =>
       rw [jnL_cons _ _ (by simp), List.length_append, List.length_cons]
       rcases List.mem_cons.1 hx with rfl | hx
       · omega
       · have := ih hx; omega
 have h2 := this _ h
 rwa [h1] at h2
/-! ### The library's words -/
theorem isPrefixOf_one (b c : UInt8) (r : List UInt8) : [b].isPrefixOf (c :: r) = (b == c) := by simp [List.isPrefixOf]
theorem index_one_cases (b : UInt8) : ∀ l : List UInt8, (index l [b] = -1 ∧ b ∉ l) ∨ (∃ i : Nat, index l [b] = i ∧ b ∉ l.take i ∧ l[i]? = some b)
 | [] => Or.inl ⟨rfl, by simp⟩
 | c :: r => by
   unfold index
   rw [isPrefixOf_one]
   by_cases h : b = c
   · subst h
     exact Or.inr ⟨0, by simp, by simp, by simp⟩
   · have h' : (b == c) = false := by simpa using h
     rw [h']
     rcases index_one_cases b r with ⟨h1, h2⟩ | ⟨i, h1, h2, h3⟩
     · left
       rw [h1]
       exact ⟨rfl, by simp only [List.mem_cons, not_or]; exact ⟨h, h2⟩⟩
     · right
       rw [h1]
       refine ⟨i + 1, ?_, ?_, by simpa using h3⟩
       · have : ((i : Int) == -1) = false := by rw [beq_eq_false_iff_ne]; omega
         simp [this]
       · simp only [List.take_succ_cons, List.mem_cons, not_or]; exact ⟨h, h2⟩
theorem splitK_none (b : UInt8) (k : Nat) {l : List UInt8} (h : b ∉ l) : splitK [b] 0 k l = [l] := by
 cases k with
 | zero => rfl
 | succ k =>
   rcases index_one_cases b l with ⟨h1, h2⟩ | ⟨i, h1, h2, h3⟩
   · rw [splitK, h1]; rfl
   · exact absurd (List.mem_of_getElem? h3) h
theorem splitK_hit (b : UInt8) (k : Nat) {l : List UInt8} {i : Nat} (h2 : b ∉ l.take i) (h3 : l[i]? = some b) : splitK [b] 0 (k + 1) l = l.take i :: splitK [b] 0 k (l.drop (i + 1)) := by
 rcases index_one_cases b l with ⟨h1, h4⟩ | ⟨j, h1, h4, h5⟩
 · exact absurd (List.mem_of_getElem? h3) h4
 · have hij : i = j := by
     rcases Nat.lt_trichotomy i j with h | h | h
     · exact absurd (List.mem_of_getElem? (by rw [List.getElem?_take, if_pos h]; exact h3)) h4
     · exact h
     · exact absurd (List.mem_of_getElem? (by rw [List.getElem?_take, if_pos h]; exact h5)) h2
   subst hij
   rw [splitK, h1]
   have : ((i : Int) == -1) = false := by rw [beq_eq_false_iff_ne]; omega
   rw [this]
   simp
theorem split_spl (b : UInt8) (l : List UInt8) : split l [b] = splL b l := by
 unfold split
 induction hn : l.length using Nat.strongRecOn generalizing l with
 | ind n ih =>
   rcases index_one_cases b l with ⟨h1, h2⟩ | ⟨i, h1, h2, h3⟩
   · rw [splitK_none b _ h2, splL_none h2]
   · have hi : i < l.length := by
       rcases Nat.lt_or_ge i l.length with h | h
       · exact h
       · rw [List.getElem?_eq_none h] at h3; cases h3
     have hc := count_hit (s := l) (sub := [b]) (by simp) h1
     rw [hc, Nat.add_comm, splitK_hit b _ h2 h3, splL_hit h2 h3]
     congr 1
     have := ih (l.drop (i + 1)).length (by rw [List.length_drop]; omega) (l.drop (i + 1)) rfl
     simpa using this
theorem count_spl (b : UInt8) (l : List UInt8) : count l [b] + 1 = (splL b l).length := by
 induction hn : l.length using Nat.strongRecOn generalizing l with
 | ind n ih =>
   rcases index_one_cases b l with ⟨h1, h2⟩ | ⟨i, h1, h2, h3⟩
   · rw [count_miss h1, splL_none h2]; rfl
   · have hi : i < l.length := by
       rcases Nat.lt_or_ge i l.length with h | h
       · exact h
       · rw [List.getElem?_eq_none h] at h3; cases h3
     rw [count_hit (s := l) (sub := [b]) (by simp) h1, splL_hit h2 h3, List.length_cons]
     have := ih (l.drop (i + 1)).length (by rw [List.length_drop]; omega) (l.drop (i + 1)) rfl
     simp only [List.length_cons, List.length_nil, Nat.zero_add] at this ⊢
     omega
theorem splitK_spl (b : UInt8) : ∀ (k : Nat) (l : List UInt8), (splL b l).length ≤ k + 1 → splitK [b] 0 k l = splL b l
 | 0, l, h => by
   rcases index_one_cases b l with ⟨h1, h2⟩ | ⟨i, h1, h2, h3⟩
   · rw [splL_none h2]; rfl
   · rw [splL_hit h2 h3, List.length_cons] at h
     have := splL_ne b (l.drop (i + 1))
     have h5 : 0 < (splL b (l.drop (i + 1))).length := List.length_pos_iff.2 this
     omega
 | k + 1, l, h => by
   rcases index_one_cases b l with ⟨h1, h2⟩ | ⟨i, h1, h2, h3⟩
   · rw [splL_none h2, splitK_none b _ h2]
   · rw [splL_hit h2 h3, List.length_cons] at h
     rw [splL_hit h2 h3, splitK_hit b _ h2 h3, splitK_spl b k _ (by omega)]
theorem splitK_many (b : UInt8) : ∀ (k : Nat) (l : List UInt8), k + 1 ≤ (splL b l).length → (splitK [b] 0 k l).length = k + 1
 | 0, l, h => rfl
 | k + 1, l, h => by
   rcases index_one_cases b l with ⟨h1, h2⟩ | ⟨i, h1, h2, h3⟩
   · rw [splL_none h2] at h; simp at h
   · rw [splL_hit h2 h3, List.length_cons] at h
     rw [splitK_hit b _ h2 h3, List.length_cons, splitK_many b k _ (by omega)]
theorem cut_miss {b : UInt8} {l : List UInt8} (h : b ∉ l) : (cut l [b]).2.2 = false ∧ (cut l [b]).1 = l := by
 unfold cut
 rcases index_one_cases b l with ⟨h1, h2⟩ | ⟨i, h1, h2, h3⟩
 · rw [h1]; simp
 · exact absurd (List.mem_of_getElem? h3) h
theorem cut_hit {b : UInt8} {l : List UInt8} {i : Nat} (h2 : b ∉ l.take i) (h3 : l[i]? = some b) : (cut l [b]).2.2 = true ∧ (cut l [b]).1 = l.take i := by
 unfold cut
 rcases index_one_cases b l with ⟨h1, h4⟩ | ⟨j, h1, h4, h5⟩
 · exact absurd (List.mem_of_getElem? h3) h4
 · have hij : i = j := by
     rcases Nat.lt_trichotomy i j with h | h | h
     · exact absurd (List.mem_of_getElem? (by rw [List.getElem?_take, if_pos h]; exact h3)) h4
     · exact h
     · exact absurd (List.mem_of_getElem? (by rw [List.getElem?_take, if_pos h]; exact h5)) h2
   subst hij
   rw [h1]
   have : ((i : Int) == -1) = false := by rw [beq_eq_false_iff_ne]; omega
   simp
end Go.Proofs.YtfgopboddkhckaaGreatDoor
