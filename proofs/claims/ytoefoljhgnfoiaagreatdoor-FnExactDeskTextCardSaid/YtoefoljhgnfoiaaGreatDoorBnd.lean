/-
  Bonds: the letters of pieces, valid courses and bonds, on both sides.
-/
import Derived.Test.YtoefoljhgnfoiaaGreatDoorCo
import Derived.Test.YtoefoljhgnfoiaaGreatDoorName
import Derived.Test.YtoefoljhgnfoiaaGreatDoorSmall
import Derived.Test.YtoefoljhgnfoiaaGreatDoorShelf
namespace Go.Proofs.YtoefoljhgnfoiaaGreatDoor
open Go.ChangeShapes Go.WideShapes Go.ChangeAt Go.RowKit Go.Sort Go.Joins
set_option linter.unusedVariables false
set_option maxRecDepth 100000

/-- A letter of a piece; of a whole piece. -/
def pcC (y : Int) : Bool := y == 83 || y == 72 || y == 84 || y == 66 || y == 67
def whC (y : Int) : Bool := y == 83 || y == 72
/-- The first k bytes are such. -/
def onl (p : Int → Bool) (s : ByteArray) (k : Nat) : Bool := (List.range k).all fun i => p (byt s i)
theorem onl_succ (p : Int → Bool) (s : ByteArray) (k : Nat) : onl p s (k + 1) = (onl p s k && p (byt s k)) := by simp [onl, List.range_succ]
theorem onl_no {p : Int → Bool} {s : ByteArray} {k n : Nat} (hk : k < n) (h : p (byt s k) = false) : onl p s n = false := by
  unfold onl
  rw [List.all_eq_false]
  exact ⟨k, by simpa using hk, by simp [h]⟩
theorem idx_pc (y : Int) (h0 : 0 ≤ y) (h1 : y ≤ 255) : decide (Lib.indexByte (ByteArray.mk #[83, 72, 84, 66, 67]).data.toList y.toNat.toUInt8 < 0) = !pcC y := by
  have h : ∀ n : Fin 256, decide (Lib.indexByte (ByteArray.mk #[83, 72, 84, 66, 67]).data.toList (Int.toNat (n.val : Int)).toUInt8 < 0) = !pcC (n.val : Int) := by decide +kernel
  have := h ⟨y.toNat, by omega⟩
  rwa [show ((⟨y.toNat, by omega⟩ : Fin 256).val : Int) = y from by simp; omega] at this
theorem idx_wh (y : Int) (h0 : 0 ≤ y) (h1 : y ≤ 255) : decide (Lib.indexByte (ByteArray.mk #[83, 72]).data.toList y.toNat.toUInt8 < 0) = !whC y := by
  have h : ∀ n : Fin 256, decide (Lib.indexByte (ByteArray.mk #[83, 72]).data.toList (Int.toNat (n.val : Int)).toUInt8 < 0) = !whC (n.val : Int) := by decide +kernel
  have := h ⟨y.toNat, by omega⟩
  rwa [show ((⟨y.toNat, by omega⟩ : Fin 256).val : Int) = y from by simp; omega] at this
set_option maxHeartbeats 800000 in
theorem only_pc (s : ByteArray) (hs : s.size ≤ maxLen) (w : World) :
    Calls Tryz.prog 37 #[.string s, .string (ByteArray.mk #[83, 72, 84, 66, 67])] w (RetP (.bool (onl pcC s s.size)) w) := by
  unfold maxLen at hs
  obtain ⟨lt, hlt0⟩ : ∃ t, ByteArray.mk #[83, 72, 84, 66, 67] = t := ⟨_, rfl⟩
  have HL := Lib.hid hlt0
  rw [hlt0]
  clear hlt0
  go_enter Tryz.func37, Tryz.ntmps37
  go_wp2_with fail
  go_loop [8] (fun i => ∃ k : Nat, k ≤ s.size ∧ i = .int .i64 k ∧ Hid (onl pcC s k = true)) (fun i => s.size - (intOf i).toNat)
  case atStart => exact ⟨0, Nat.zero_le _, rfl, Lib.hid rfl⟩
  case round =>
    obtain ⟨k, hk, rfl, HT⟩ := hrel
    have e0 : (0:Int) ≤ k := by omega
    by_cases hlt : k < s.size
    · have e1 : (k:Int) < s.size := by omega
      have hy := byt_eq s k hlt
      have hyb := byt_bd s k
      have HQ := Lib.hid (fun (h : pcC (byt s k) = false) => onl_no (p := pcC) hlt h)
      have HS := Lib.hid (onl_succ pcC s k)
      obtain ⟨y, hyy⟩ : ∃ y, byt s k = y := ⟨_, rfl⟩
      rw [hyy] at hy hyb HQ HS
      clear hyy
      have HZ := Lib.hid (idx_pc y hyb.1 hyb.2)
      have HC := Lib.hid (fun w => Tryz.strings_IndexByte lt y w)
      go_wp2_with fail
      refine (show Calls _ _ _ _ _ from HC.out _).mono ?_
      rintro e w1 ⟨rfl, rfl⟩
      have hz : decide (Lib.indexByte lt.data.toList y.toNat.toUInt8 < 0) = !pcC y := by rw [← HL.out]; exact HZ.out
      generalize Lib.indexByte lt.data.toList y.toNat.toUInt8 = z at *
      clear hyb hy HC HZ
      cases hp : pcC y with
      | true =>
        rw [hp] at hz
        have hz' : ¬ z < 0 := by simpa using hz
        have HS2 : Hid (onl pcC s (k + 1) = true) := Lib.hid (by rw [HS.out, HT.out, hp]; rfl)
        clear hz hp
        go_wp2_with fail
        go_round
        case rel => exact ⟨k + 1, by omega, by go_num, HS2.out⟩
        case measure => simp [intOf]; omega
      | false =>
        rw [hp] at hz
        have hz' : z < 0 := by simpa using hz
        have HF := Lib.hid (HQ.out hp)
        clear hz hp
        go_wp2_with fail
        go_ret
        exact ⟨ret_bool HF.out.symm, rfl⟩
    · obtain rfl : k = s.size := by omega
      have e1 : ¬ (s.size:Int) < s.size := by omega
      go_wp2_with fail
      go_ret
      exact ⟨ret_bool HT.out.symm, rfl⟩
set_option maxHeartbeats 800000 in
theorem only_wh (s : ByteArray) (hs : s.size ≤ maxLen) (w : World) :
    Calls Tryz.prog 37 #[.string s, .string (ByteArray.mk #[83, 72])] w (RetP (.bool (onl whC s s.size)) w) := by
  unfold maxLen at hs
  obtain ⟨lt, hlt0⟩ : ∃ t, ByteArray.mk #[83, 72] = t := ⟨_, rfl⟩
  have HL := Lib.hid hlt0
  rw [hlt0]
  clear hlt0
  go_enter Tryz.func37, Tryz.ntmps37
  go_wp2_with fail
  go_loop [8] (fun i => ∃ k : Nat, k ≤ s.size ∧ i = .int .i64 k ∧ Hid (onl whC s k = true)) (fun i => s.size - (intOf i).toNat)
  case atStart => exact ⟨0, Nat.zero_le _, rfl, Lib.hid rfl⟩
  case round =>
    obtain ⟨k, hk, rfl, HT⟩ := hrel
    have e0 : (0:Int) ≤ k := by omega
    by_cases hlt : k < s.size
    · have e1 : (k:Int) < s.size := by omega
      have hy := byt_eq s k hlt
      have hyb := byt_bd s k
      have HQ := Lib.hid (fun (h : whC (byt s k) = false) => onl_no (p := whC) hlt h)
      have HS := Lib.hid (onl_succ whC s k)
      obtain ⟨y, hyy⟩ : ∃ y, byt s k = y := ⟨_, rfl⟩
      rw [hyy] at hy hyb HQ HS
      clear hyy
      have HZ := Lib.hid (idx_wh y hyb.1 hyb.2)
      have HC := Lib.hid (fun w => Tryz.strings_IndexByte lt y w)
      go_wp2_with fail
      refine (show Calls _ _ _ _ _ from HC.out _).mono ?_
      rintro e w1 ⟨rfl, rfl⟩
      have hz : decide (Lib.indexByte lt.data.toList y.toNat.toUInt8 < 0) = !whC y := by rw [← HL.out]; exact HZ.out
      generalize Lib.indexByte lt.data.toList y.toNat.toUInt8 = z at *
      clear hyb hy HC HZ
      cases hp : whC y with
      | true =>
        rw [hp] at hz
        have hz' : ¬ z < 0 := by simpa using hz
        have HS2 : Hid (onl whC s (k + 1) = true) := Lib.hid (by rw [HS.out, HT.out, hp]; rfl)
        clear hz hp
        go_wp2_with fail
        go_round
        case rel => exact ⟨k + 1, by omega, by go_num, HS2.out⟩
        case measure => simp [intOf]; omega
      | false =>
        rw [hp] at hz
        have hz' : z < 0 := by simpa using hz
        have HF := Lib.hid (HQ.out hp)
        clear hz hp
        go_wp2_with fail
        go_ret
        exact ⟨ret_bool HF.out.symm, rfl⟩
    · obtain rfl : k = s.size := by omega
      have e1 : ¬ (s.size:Int) < s.size := by omega
      go_wp2_with fail
      go_ret
      exact ⟨ret_bool HT.out.symm, rfl⟩

theorem pc_cases (y : Int) : (y = 83) ∨ (y = 84 ) ∨ y = 72 ∨ y = 66 ∨ y = 67 ∨ (y ≠ 83 ∧ y ≠ 84 ∧ y ≠ 72 ∧ y ≠ 66 ∧ y ≠ 67) := by omega
/-- Quarters of a piece. -/
def qC (y : Int) : Int := if y = 83 then 4 else if y = 84 then 3 else if y = 72 ∨ y = 66 then 2 else if y = 67 then 1 else 0
theorem qC_pc (y : Int) : (qC y == 0) = !pcC y := by
  rcases pc_cases y with rfl | rfl | rfl | rfl | rfl | ⟨h1, h2, h3, h4, h5⟩
  any_goals decide
  have e1 : pcC y = false := by simp [pcC, h1, h2, h3, h4, h5]
  have e2 : qC y = 0 := by simp [qC, h1, h2, h3, h4, h5]
  rw [e1, e2]; rfl
theorem spec_quarters (y : Int) (h0 : 0 ≤ y) (h1 : y ≤ 255) (w : World) : Calls Tryz.prog 66 #[.int .u8 y] w (RetP (.int .i64 (qC y)) w) := by
  rcases pc_cases y with rfl | rfl | rfl | rfl | rfl | ⟨h1, h2, h3, h4, h5⟩
  any_goals
    go_enter Tryz.func66, Tryz.ntmps66
    go_wp2_with fail
    go_ret
    exact ⟨rfl, rfl⟩
  have HX : Hid (qC y = 0) := Lib.hid (by simp [qC, h1, h2, h3, h4, h5])
  have f1 : (y == 83) = false := beq_eq_false_iff_ne.2 h1
  have f2 : (y == 84) = false := beq_eq_false_iff_ne.2 h2
  have f3 : (y == 72) = false := beq_eq_false_iff_ne.2 h3
  have f4 : (y == 66) = false := beq_eq_false_iff_ne.2 h4
  have f5 : (y == 67) = false := beq_eq_false_iff_ne.2 h5
  go_enter Tryz.func66, Tryz.ntmps66
  go_wp2_with fail
  go_ret
  exact ⟨ret_int HX.out.symm, rfl⟩
set_option maxHeartbeats 800000 in
theorem spec_pieces (s : ByteArray) (hs : s.size ≤ maxLen) (w : World) :
    Calls Tryz.prog 62 #[.string s] w (RetP (.bool (onl pcC s s.size)) w) := by
  unfold maxLen at hs
  go_enter Tryz.func62, Tryz.ntmps62
  go_wp2_with fail
  go_loop [3] (fun i => ∃ k : Nat, k ≤ s.size ∧ i = .int .i64 k ∧ Hid (onl pcC s k = true)) (fun i => s.size - (intOf i).toNat)
  case atStart => exact ⟨0, Nat.zero_le _, rfl, Lib.hid rfl⟩
  case round =>
    obtain ⟨k, hk, rfl, HT⟩ := hrel
    have e0 : (0:Int) ≤ k := by omega
    by_cases hlt : k < s.size
    · have e1 : (k:Int) < s.size := by omega
      have hy := byt_eq s k hlt
      have hyb := byt_bd s k
      have HQ := Lib.hid (fun (h : pcC (byt s k) = false) => onl_no (p := pcC) hlt h)
      have HS := Lib.hid (onl_succ pcC s k)
      obtain ⟨y, hyy⟩ : ∃ y, byt s k = y := ⟨_, rfl⟩
      rw [hyy] at hy hyb HQ HS
      clear hyy
      have HC := Lib.hid (fun w => spec_quarters y hyb.1 hyb.2 w)
      have hz := qC_pc y
      obtain ⟨z, hzz⟩ : ∃ z, qC y = z := ⟨_, rfl⟩
      rw [hzz] at HC hz
      clear hzz hyb
      cases hp : pcC y with
      | true =>
        rw [hp] at hz
        have HS2 : Hid (onl pcC s (k + 1) = true) := Lib.hid (by rw [HS.out, HT.out, hp]; rfl)
        clear hp
        go_wp2_with fail
        refine (show Calls _ _ _ _ _ from HC.out _).mono ?_
        rintro e w1 ⟨rfl, rfl⟩
        go_wp2_with fail
        go_round
        case rel => exact ⟨k + 1, by omega, by go_num, HS2.out⟩
        case measure => simp [intOf]; omega
      | false =>
        rw [hp] at hz
        have HF := Lib.hid (HQ.out hp)
        clear hp
        go_wp2_with fail
        refine (show Calls _ _ _ _ _ from HC.out _).mono ?_
        rintro e w1 ⟨rfl, rfl⟩
        go_wp2_with fail
        go_ret
        exact ⟨ret_bool HF.out.symm, rfl⟩
    · obtain rfl : k = s.size := by omega
      have e1 : ¬ (s.size:Int) < s.size := by omega
      go_wp2_with fail
      go_ret
      exact ⟨ret_bool HT.out.symm, rfl⟩
theorem wh_cases (y : Int) : (y = 83) ∨ (y = 72) ∨ (y ≠ 83 ∧ y ≠ 72) := by omega
set_option maxHeartbeats 800000 in
theorem spec_plain (s : ByteArray) (hs : s.size ≤ maxLen) (w : World) :
    Calls Tryz.prog 63 #[.string s] w (RetP (.bool (onl whC s s.size)) w) := by
  unfold maxLen at hs
  go_enter Tryz.func63, Tryz.ntmps63
  go_wp2_with fail
  go_loop [3] (fun i => ∃ k : Nat, k ≤ s.size ∧ i = .int .i64 k ∧ Hid (onl whC s k = true)) (fun i => s.size - (intOf i).toNat)
  case atStart => exact ⟨0, Nat.zero_le _, rfl, Lib.hid rfl⟩
  case round =>
    obtain ⟨k, hk, rfl, HT⟩ := hrel
    have e0 : (0:Int) ≤ k := by omega
    by_cases hlt : k < s.size
    · have e1 : (k:Int) < s.size := by omega
      have hy := byt_eq s k hlt
      have HQ := Lib.hid (fun (h : whC (byt s k) = false) => onl_no (p := whC) hlt h)
      have HS := Lib.hid (onl_succ whC s k)
      obtain ⟨y, hyy⟩ : ∃ y, byt s k = y := ⟨_, rfl⟩
      rw [hyy] at hy HQ HS
      clear hyy
      rcases wh_cases y with rfl | rfl | ⟨h1, h2⟩
      · have HS2 : Hid (onl whC s (k + 1) = true) := Lib.hid (by rw [HS.out, HT.out]; rfl)
        go_wp2_with fail
        go_round
        case rel => exact ⟨k + 1, by omega, by go_num, HS2.out⟩
        case measure => simp [intOf]; omega
      · have HS2 : Hid (onl whC s (k + 1) = true) := Lib.hid (by rw [HS.out, HT.out]; rfl)
        go_wp2_with fail
        go_round
        case rel => exact ⟨k + 1, by omega, by go_num, HS2.out⟩
        case measure => simp [intOf]; omega
      have f1 : (y == 83) = false := beq_eq_false_iff_ne.2 h1
      have f2 : (y == 72) = false := beq_eq_false_iff_ne.2 h2
      have g1 : (y != 83) = true := bne_iff_ne.2 h1
      have g2 : (y != 72) = true := bne_iff_ne.2 h2
      have HF := Lib.hid (HQ.out (by simp [whC, h1, h2]))
      go_wp2_with fail
      go_ret
      exact ⟨ret_bool HF.out.symm, rfl⟩
    · obtain rfl : k = s.size := by omega
      have e1 : ¬ (s.size:Int) < s.size := by omega
      go_wp2_with fail
      go_ret
      exact ⟨ret_bool HT.out.symm, rfl⟩
/-- A valid course. -/
def vC (o : CO) : Bool := decide (o.lead.size ≤ 6) && onl pcC o.lead o.lead.size && inB o.cyc.size 1 8 && onl whC o.cyc o.cyc.size
/-- A valid bond. -/
def vB (nm : ByteArray) (cs : List CO) : Bool := isN nm && inB cs.length 1 8 && cs.all vC
theorem vCall_no {es : List CO} {k : Nat} (hk : k < es.length) (h : vC (gd es k) = false) : es.all vC = false := by
  rw [List.all_eq_false]; exact ⟨gd es k, gd_mem hk, by simp [h]⟩
theorem vCall_succ {es : List CO} {k : Nat} (hk : k < es.length) : (es.take (k + 1)).all vC = ((es.take k).all vC && vC (gd es k)) := by rw [take_gd hk]; simp

set_option maxHeartbeats 1600000 in
theorem badco_fn (o : CO) (w : World) (hl : LenCO o) :
    Calls Tryz.prog 36 #[.agg #[.string o.lead, .string o.cyc]] w (Ret (.bool (!vC o)) w) := by
  obtain ⟨hl1, hl2⟩ := hl
  have HL := Lib.hid (fun w => only_pc o.lead hl1 w)
  have HC := Lib.hid (fun w => only_wh o.cyc hl2 w)
  unfold maxLen at hl1 hl2
  obtain ⟨a, c⟩ := o
  dsimp only at *
  by_cases h1 : a.size ≤ 6
  · have e1 : ¬ (6:Int) < a.size := by omega
    have HV : Hid (vC ⟨a, c⟩ = (onl pcC a a.size && inB c.size 1 8 && onl whC c c.size)) := Lib.hid (by unfold vC; rw [decide_eq_true h1]; rfl)
    obtain ⟨x, hx⟩ : ∃ x, onl pcC a a.size = x := ⟨_, rfl⟩
    obtain ⟨y, hy⟩ : ∃ y, inB c.size 1 8 = y := ⟨_, rfl⟩
    obtain ⟨z, hz⟩ : ∃ z, onl whC c c.size = z := ⟨_, rfl⟩
    have HI := Lib.hid (fun w => RetP.bool (impl_within (c.size : Int) 1 8 w) hy)
    rw [hx, hy, hz] at HV
    rw [hx] at HL
    rw [hz] at HC
    clear hx hy hz h1
    go_enter Tryz.func36, Tryz.ntmps36
    go_wp2_with fail
    refine (show Calls _ _ _ _ _ from HL.out _).mono ?_
    rintro e w1 ⟨rfl, rfl⟩
    cases x
    · go_wp2_with fail
      go_ret
      exact ⟨ret_bool (by rw [HV.out]; rfl), ext_alloc1 _ _⟩
    · go_wp2_with fail
      refine (show Calls _ _ _ _ _ from HI.out _).mono ?_
      rintro e w1 ⟨rfl, rfl⟩
      cases y
      · go_wp2_with fail
        go_ret
        exact ⟨ret_bool (by rw [HV.out]; rfl), ext_alloc1 _ _⟩
      · go_wp2_with fail
        refine (show Calls _ _ _ _ _ from HC.out _).mono ?_
        rintro e w1 ⟨rfl, rfl⟩
        go_wp2_with fail
        go_ret
        exact ⟨ret_bool (by rw [HV.out]; simp), ext_alloc1 _ _⟩
  · have e1 : (6:Int) < a.size := by omega
    have HV : Hid (vC ⟨a, c⟩ = false) := Lib.hid (by unfold vC; rw [decide_eq_false h1]; rfl)
    go_enter Tryz.func36, Tryz.ntmps36
    go_wp2_with fail
    go_ret
    exact ⟨ret_bool (by rw [HV.out]; rfl), ext_alloc1 _ _⟩
set_option maxHeartbeats 1600000 in
theorem badco_idx (v : Value) (es : List CO) (w : World) (hR : RCOS w v es) (hsm : LenCOS es) :
    Calls Tryz.prog 54 #[v, .func (.func 36) #[] #[]] w fun e w' => (∃ i : Int, e = .returned (.int .i64 i) ∧ (es.all vC = false → 0 ≤ i) ∧ (es.all vC = true → i = -1)) ∧ Below w.heap.size w w' := by
  obtain ⟨A, c, rfl, hc1, hc2⟩ := hR.open_
  have HR := Lib.hid hR; clear hR
  have HSM := Lib.hid hsm
  clear hsm
  unfold maxLen at hc2
  go_enter Tryz.func54, Tryz.ntmps54
  go_wp2_with fail
  go_loopw [8] (fun i wr => ∃ k : Nat, k ≤ es.length ∧ i = .int .i64 k ∧ Hid ((es.take k).all vC = true) ∧ Hid (Below w.heap.size w wr)) (fun i _ => es.length - (intOf i).toNat)
  case atStart => exact ⟨0, Nat.zero_le _, rfl, Lib.hid rfl, Lib.hid (ext_refl _)⟩
  case round =>
    obtain ⟨k, hk, rfl, HA, HB⟩ := hrel
    have e1 : (0 : Int) ≤ k := by omega
    by_cases hlt : k < es.length
    · have e2 : (k : Int) < es.length := by omega
      obtain ⟨ad, rfl, _, hc⟩ := (HR.out.ext HB.out).at hlt
      obtain ⟨p0, p1⟩ := hc k hlt
      have HL : Hid (LenCO (gd es k)) := Lib.hid (HSM.out.2 _ (gd_mem hlt))
      have HA2 := Lib.hid (vCall_succ hlt)
      clear hc
      have HQ := Lib.hid (fun h => vCall_no hlt h)
      obtain ⟨o, ho⟩ : ∃ o, gd es k = o := ⟨_, rfl⟩
      rw [ho] at p0 p1 HL HA2 HQ
      clear ho
      go_wp2_with fail
      refine (badco_fn o _ HL.out).mono ?_
      rintro e w3 ⟨rfl, hb3⟩
      have HB3 := Lib.hid (ext_trans HB.out hb3)
      clear hb3
      cases hv : vC o with
      | false =>
        have HF := Lib.hid (HQ.out hv)
        clear hv
        go_wp2_with fail
        go_ret
        exact ⟨⟨_, rfl, fun _ => by omega, fun h => by rw [HF.out] at h; cases h⟩, HB3.out⟩
      | true =>
        have HA3 : Hid ((es.take (k + 1)).all vC = true) := Lib.hid (by rw [HA2.out, HA.out, hv]; rfl)
        clear hv
        go_wp2_with fail
        go_roundw
        case rel => exact ⟨k + 1, by omega, by go_num, HA3.out, HB3⟩
        case measure => simp [intOf]; omega
    · obtain rfl : k = es.length := by omega
      have HAll : Hid (es.all vC = true) := Lib.hid (by have := HA.out; rwa [List.take_length] at this)
      go_wp2_with fail
      go_ret
      exact ⟨⟨-1, rfl, fun h => (by rw [HAll.out] at h; cases h), fun _ => rfl⟩, HB.out⟩
theorem badco_has (v : Value) (es : List CO) (w : World) (hR : RCOS w v es) (hsm : LenCOS es) :
    Calls Tryz.prog 35 #[v, .func (.func 36) #[] #[]] w (Ret (.bool (!es.all vC)) w) := by
  obtain ⟨A, c, rfl, hc1, hc2⟩ := hR.open_
  have HI := Lib.hid (badco_idx _ es w hR hsm)
  clear hR hsm
  go_enter Tryz.func35, Tryz.ntmps35
  go_wp2_with fail
  refine (show Calls _ _ _ _ _ from HI.out).mono ?_
  rintro e w' ⟨⟨i, rfl, hi1, hi2⟩, hb⟩
  have HB := Lib.hid hb
  clear hb HI
  cases hv : es.all vC with
  | false =>
    have h0 := hi1 hv
    have HX := Lib.hid hv
    clear hi1 hi2 hv
    go_wp2_with fail
    go_ret
    exact ⟨ret_bool (by simp [HX.out]), HB.out⟩
  | true =>
    obtain rfl := hi2 hv
    have HX := Lib.hid hv
    clear hi1 hi2 hv
    go_wp2_with fail
    go_ret
    exact ⟨ret_bool (by simp [HX.out]), HB.out⟩
set_option maxHeartbeats 1600000 in
theorem impl_ValidBond (A : Option Addr) (c : Nat) (nm : ByteArray) (cs : List CO) (w : World) (hn : nm.size ≤ maxLen) (hl : LenCOS cs) (ha : RCOS w (.slice A cs.length c) cs) :
    Calls Tryz.prog 19 #[.agg #[.string nm, .slice A cs.length c]] w (Ret (.bool (vB nm cs)) w) := by
  have HN := Lib.hid (fun w => impl_IsName nm hn w)
  have HC := Lib.hid (fun w h => badco_has (.slice A cs.length c) cs w h hl)
  have HA := Lib.hid ha
  have HV : Hid (vB nm cs = (isN nm && inB cs.length 1 8 && cs.all vC)) := Lib.hid rfl
  obtain ⟨x, hx⟩ : ∃ x, isN nm = x := ⟨_, rfl⟩
  obtain ⟨y, hy⟩ : ∃ y, inB cs.length 1 8 = y := ⟨_, rfl⟩
  obtain ⟨z, hz⟩ : ∃ z, cs.all vC = z := ⟨_, rfl⟩
  have HI := Lib.hid (fun w => RetP.bool (impl_within (cs.length : Int) 1 8 w) hy)
  rw [hx] at HN HV
  rw [hy] at HV
  rw [hz] at HC HV
  clear hx hy hz ha hl hn
  go_enter Tryz.func19, Tryz.ntmps19
  go_wp2_with fail
  refine (show Calls _ _ _ _ _ from HN.out _).mono ?_
  rintro e w1 ⟨rfl, rfl⟩
  cases x
  · go_wp2_with fail
    go_ret
    exact ⟨ret_bool (by rw [HV.out]; rfl), ext_alloc1 _ _⟩
  · go_wp2_with fail
    refine (show Calls _ _ _ _ _ from HI.out _).mono ?_
    rintro e w1 ⟨rfl, rfl⟩
    cases y
    · go_wp2_with fail
      go_ret
      exact ⟨ret_bool (by rw [HV.out]; rfl), ext_alloc1 _ _⟩
    · go_wp2_with fail
      refine (show Calls _ _ _ _ _ from HC.out _ (HA.out.alloc _)).mono ?_
      rintro e w1 ⟨rfl, hb⟩
      have HB := Lib.hid hb
      clear hb
      go_wp2_with fail
      go_ret
      exact ⟨ret_bool (by rw [HV.out]; simp), ext_trans (ext_alloc1 _ _) HB.out⟩
end Go.Proofs.YtoefoljhgnfoiaaGreatDoor
