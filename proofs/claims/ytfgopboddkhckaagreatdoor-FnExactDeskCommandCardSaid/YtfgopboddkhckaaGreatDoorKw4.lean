/-
  Parts of the proof: Bnd, AppG, Str, CoM.
-/
import Derived.Test.YtfgopboddkhckaaGreatDoorKw2
import Derived.Test.YtfgopboddkhckaaGreatDoorKw3
import Derived.Maps.AppendAt
namespace Go.Proofs.YtfgopboddkhckaaGreatDoor
open Go.ChangeShapes Go.WideShapes Go.ChangeAt Go.RowKit Go.Sort Go.Joins
set_option linter.unusedVariables false
set_option maxRecDepth 100000
def pcC (y : Int) : Bool := y == 83 || y == 72 || y == 84 || y == 66 || y == 67
def whC (y : Int) : Bool := y == 83 || y == 72
def onl (p : Int → Bool) (s : ByteArray) (k : Nat) : Bool := (List.range k).all fun i => p (byt s i)
theorem onl_succ (p : Int → Bool) (s : ByteArray) (k : Nat) : onl p s (k + 1) = (onl p s k && p (byt s k)) := by simp [onl, List.range_succ]
theorem onl_no {p : Int → Bool} {s : ByteArray} {k n : Nat} (hk : k < n) (h : p (byt s k) = false) : onl p s n = false := by
 unfold onl
 rw [List.all_eq_false]
 exact ⟨k, by simpa using hk, by simp [h]⟩
theorem idx_pc (y : Int) (h0 : 0 ≤ y) (h1 : y ≤ 255) : decide (Lib.indexByte (ByteArray.mk #[83, 72, 84, 66, 67]).data.toList y.toNat.toUInt8 < 0) = !pcC y := by
 have h : ∀ n : Fin 256, decide (Lib.indexByte (ByteArray.mk #[83, 72, 84, 66, 67]).data.toList (Int.toNat (n.val : Int)).toUInt8 < 0) = !pcC (n.val : Int) := by decide +kernel
 have := h ⟨y.toNat, by omega⟩
 rwa [show ((⟨y.toNat, by omega⟩ : Fin 256).val : Int) = y from by simp; omega] at this
theorem idx_wh (y : Int) (h0 : 0 ≤ y) (h1 : y ≤ 255) : decide (Lib.indexByte (ByteArray.mk #[83, 72]).data.toList y.toNat.toUInt8 < 0) = !whC y := by
 have h : ∀ n : Fin 256, decide (Lib.indexByte (ByteArray.mk #[83, 72]).data.toList (Int.toNat (n.val : Int)).toUInt8 < 0) = !whC (n.val : Int) := by decide +kernel
 have := h ⟨y.toNat, by omega⟩
 rwa [show ((⟨y.toNat, by omega⟩ : Fin 256).val : Int) = y from by simp; omega] at this
set_option maxHeartbeats 800000 in
theorem only_pc (s : ByteArray) (hs : s.size ≤ maxLen) (w : World) :
   Calls Tryz.prog 144 #[.string s, .string (ByteArray.mk #[83, 72, 84, 66, 67])] w (RetP (.bool (onl pcC s s.size)) w) := by
 unfold maxLen at hs
 obtain ⟨lt, hlt0⟩ : ∃ t, ByteArray.mk #[83, 72, 84, 66, 67] = t := ⟨_, rfl⟩
 have HL := Lib.hid hlt0
 rw [hlt0]
 clear hlt0
 go_enter Tryz.func144, Tryz.ntmps144
 go_wp2_with fail
 go_loop [8] (fun i => ∃ k : Nat, k ≤ s.size ∧ i = .int .i64 k ∧ Hid (onl pcC s k = true)) (fun i => s.size - (intOf i).toNat)
 case atStart => exact ⟨0, Nat.zero_le _, rfl, Lib.hid rfl⟩
 case round =>
   obtain ⟨k, hk, rfl, HT⟩ := hrel
   have e0 : (0:Int) ≤ k := by omega
   by_cases hlt : k < s.size
   · have e1 : (k:Int) < s.size := by omega
     have hy := byt_eq s k hlt
     have hyb := byt_bd s k
     have HQ := Lib.hid (fun (h : pcC (byt s k) = false) => onl_no (p := pcC) hlt h)
     have HS := Lib.hid (onl_succ pcC s k)
     obtain ⟨y, hyy⟩ : ∃ y, byt s k = y := ⟨_, rfl⟩
     rw [hyy] at hy hyb HQ HS
     clear hyy
     have HZ := Lib.hid (idx_pc y hyb.1 hyb.2)
     have HC := Lib.hid (fun w => Tryz.strings_IndexByte lt y w)
     go_wp2_with fail
     refine (show Calls _ _ _ _ _ from HC.out _).mono ?_
     rintro e w1 ⟨rfl, rfl⟩
     have hz : decide (Lib.indexByte lt.data.toList y.toNat.toUInt8 < 0) = !pcC y := by rw [← HL.out]; exact HZ.out
     generalize Lib.indexByte lt.data.toList y.toNat.toUInt8 = z at *
     clear hyb hy HC HZ
     cases hp : pcC y with
     | true =>
       rw [hp] at hz
       have hz' : ¬ z < 0 := by simpa using hz
       have HS2 : Hid (onl pcC s (k + 1) = true) := Lib.hid (by rw [HS.out, HT.out, hp]; rfl)
       clear hz hp
       go_wp2_with fail
       go_round
       case rel => exact ⟨k + 1, by omega, by go_num, HS2.out⟩
       case measure => simp [intOf]; omega
     | false =>
       rw [hp] at hz
       have hz' : z < 0 := by simpa using hz
       have HF := Lib.hid (HQ.out hp)
       clear hz hp
       go_wp2_with fail
       go_ret
       exact ⟨ret_bool HF.out.symm, rfl⟩
   · obtain rfl : k = s.size := by omega
     have e1 : ¬ (s.size:Int) < s.size := by omega
     go_wp2_with fail
     go_ret
     exact ⟨ret_bool HT.out.symm, rfl⟩
set_option maxHeartbeats 800000 in
theorem only_wh (s : ByteArray) (hs : s.size ≤ maxLen) (w : World) :
   Calls Tryz.prog 144 #[.string s, .string (ByteArray.mk #[83, 72])] w (RetP (.bool (onl whC s s.size)) w) := by
 unfold maxLen at hs
 obtain ⟨lt, hlt0⟩ : ∃ t, ByteArray.mk #[83, 72] = t := ⟨_, rfl⟩
 have HL := Lib.hid hlt0
 rw [hlt0]
 clear hlt0
 go_enter Tryz.func144, Tryz.ntmps144
 go_wp2_with fail
 go_loop [8] (fun i => ∃ k : Nat, k ≤ s.size ∧ i = .int .i64 k ∧ Hid (onl whC s k = true)) (fun i => s.size - (intOf i).toNat)
 case atStart => exact ⟨0, Nat.zero_le _, rfl, Lib.hid rfl⟩
 case round =>
   obtain ⟨k, hk, rfl, HT⟩ := hrel
   have e0 : (0:Int) ≤ k := by omega
   by_cases hlt : k < s.size
   · have e1 : (k:Int) < s.size := by omega
     have hy := byt_eq s k hlt
     have hyb := byt_bd s k
     have HQ := Lib.hid (fun (h : whC (byt s k) = false) => onl_no (p := whC) hlt h)
     have HS := Lib.hid (onl_succ whC s k)
     obtain ⟨y, hyy⟩ : ∃ y, byt s k = y := ⟨_, rfl⟩
     rw [hyy] at hy hyb HQ HS
     clear hyy
     have HZ := Lib.hid (idx_wh y hyb.1 hyb.2)
     have HC := Lib.hid (fun w => Tryz.strings_IndexByte lt y w)
     go_wp2_with fail
     refine (show Calls _ _ _ _ _ from HC.out _).mono ?_
     rintro e w1 ⟨rfl, rfl⟩
     have hz : decide (Lib.indexByte lt.data.toList y.toNat.toUInt8 < 0) = !whC y := by rw [← HL.out]; exact HZ.out
     generalize Lib.indexByte lt.data.toList y.toNat.toUInt8 = z at *
     clear hyb hy HC HZ
     cases hp : whC y with
     | true =>
       rw [hp] at hz
       have hz' : ¬ z < 0 := by simpa using hz
       have HS2 : Hid (onl whC s (k + 1) = true) := Lib.hid (by rw [HS.out, HT.out, hp]; rfl)
       clear hz hp
       go_wp2_with fail
       go_round
       case rel => exact ⟨k + 1, by omega, by go_num, HS2.out⟩
       case measure => simp [intOf]; omega
     | false =>
       rw [hp] at hz
       have hz' : z < 0 := by simpa using hz
       have HF := Lib.hid (HQ.out hp)
       clear hz hp
       go_wp2_with fail
       go_ret
       exact ⟨ret_bool HF.out.symm, rfl⟩
   · obtain rfl : k = s.size := by omega
     have e1 : ¬ (s.size:Int) < s.size := by omega
     go_wp2_with fail
     go_ret
     exact ⟨ret_bool HT.out.symm, rfl⟩
theorem pc_cases (y : Int) : (y = 83) ∨ (y = 84 ) ∨ y = 72 ∨ y = 66 ∨ y = 67 ∨ (y ≠ 83 ∧ y ≠ 84 ∧ y ≠ 72 ∧ y ≠ 66 ∧ y ≠ 67) := by omega
def qC (y : Int) : Int := if y = 83 then 4 else if y = 84 then 3 else if y = 72 ∨ y = 66 then 2 else if y = 67 then 1 else 0
theorem qC_pc (y : Int) : (qC y == 0) = !pcC y := by
 rcases pc_cases y with rfl | rfl | rfl | rfl | rfl | ⟨h1, h2, h3, h4, h5⟩
 any_goals decide
 have e1 : pcC y = false := by simp [pcC, h1, h2, h3, h4, h5]
 have e2 : qC y = 0 := by simp [qC, h1, h2, h3, h4, h5]
 rw [e1, e2]; rfl
theorem spec_quarters (y : Int) (h0 : 0 ≤ y) (h1 : y ≤ 255) (w : World) : Calls Tryz.prog 197 #[.int .u8 y] w (RetP (.int .i64 (qC y)) w) := by
 rcases pc_cases y with rfl | rfl | rfl | rfl | rfl | ⟨h1, h2, h3, h4, h5⟩
 any_goals
   go_enter Tryz.func197, Tryz.ntmps197
   go_wp2_with fail
   go_ret
   exact ⟨rfl, rfl⟩
 have HX : Hid (qC y = 0) := Lib.hid (by simp [qC, h1, h2, h3, h4, h5])
 have f1 : (y == 83) = false := beq_eq_false_iff_ne.2 h1
 have f2 : (y == 84) = false := beq_eq_false_iff_ne.2 h2
 have f3 : (y == 72) = false := beq_eq_false_iff_ne.2 h3
 have f4 : (y == 66) = false := beq_eq_false_iff_ne.2 h4
 have f5 : (y == 67) = false := beq_eq_false_iff_ne.2 h5
 go_enter Tryz.func197, Tryz.ntmps197
 go_wp2_with fail
 go_ret
 exact ⟨ret_int HX.out.symm, rfl⟩
set_option maxHeartbeats 800000 in
theorem spec_pieces (s : ByteArray) (hs : s.size ≤ maxLen) (w : World) :
   Calls Tryz.prog 194 #[.string s] w (RetP (.bool (onl pcC s s.size)) w) := by
 unfold maxLen at hs
 go_enter Tryz.func194, Tryz.ntmps194
 go_wp2_with fail
 go_loop [3] (fun i => ∃ k : Nat, k ≤ s.size ∧ i = .int .i64 k ∧ Hid (onl pcC s k = true)) (fun i => s.size - (intOf i).toNat)
 case atStart => exact ⟨0, Nat.zero_le _, rfl, Lib.hid rfl⟩
 case round =>
   obtain ⟨k, hk, rfl, HT⟩ := hrel
   have e0 : (0:Int) ≤ k := by omega
   by_cases hlt : k < s.size
   · have e1 : (k:Int) < s.size := by omega
     have hy := byt_eq s k hlt
     have hyb := byt_bd s k
     have HQ := Lib.hid (fun (h : pcC (byt s k) = false) => onl_no (p := pcC) hlt h)
     have HS := Lib.hid (onl_succ pcC s k)
     obtain ⟨y, hyy⟩ : ∃ y, byt s k = y := ⟨_, rfl⟩
     rw [hyy] at hy hyb HQ HS
     clear hyy
     have HC := Lib.hid (fun w => spec_quarters y hyb.1 hyb.2 w)
     have hz := qC_pc y
     obtain ⟨z, hzz⟩ : ∃ z, qC y = z := ⟨_, rfl⟩
     rw [hzz] at HC hz
     clear hzz hyb
     cases hp : pcC y with
     | true =>
       rw [hp] at hz
       have HS2 : Hid (onl pcC s (k + 1) = true) := Lib.hid (by rw [HS.out, HT.out, hp]; rfl)
       clear hp
       go_wp2_with fail
       refine (show Calls _ _ _ _ _ from HC.out _).mono ?_
       rintro e w1 ⟨rfl, rfl⟩
       go_wp2_with fail
       go_round
       case rel => exact ⟨k + 1, by omega, by go_num, HS2.out⟩
       case measure => simp [intOf]; omega
     | false =>
       rw [hp] at hz
       have HF := Lib.hid (HQ.out hp)
       clear hp
       go_wp2_with fail
       refine (show Calls _ _ _ _ _ from HC.out _).mono ?_
       rintro e w1 ⟨rfl, rfl⟩
       go_wp2_with fail
       go_ret
       exact ⟨ret_bool HF.out.symm, rfl⟩
   · obtain rfl : k = s.size := by omega
     have e1 : ¬ (s.size:Int) < s.size := by omega
     go_wp2_with fail
     go_ret
     exact ⟨ret_bool HT.out.symm, rfl⟩
theorem wh_cases (y : Int) : (y = 83) ∨ (y = 72) ∨ (y ≠ 83 ∧ y ≠ 72) := by omega
set_option maxHeartbeats 800000 in
theorem spec_plain (s : ByteArray) (hs : s.size ≤ maxLen) (w : World) :
   Calls Tryz.prog 195 #[.string s] w (RetP (.bool (onl whC s s.size)) w) := by
 unfold maxLen at hs
 go_enter Tryz.func195, Tryz.ntmps195
 go_wp2_with fail
 go_loop [3] (fun i => ∃ k : Nat, k ≤ s.size ∧ i = .int .i64 k ∧ Hid (onl whC s k = true)) (fun i => s.size - (intOf i).toNat)
 case atStart => exact ⟨0, Nat.zero_le _, rfl, Lib.hid rfl⟩
 case round =>
   obtain ⟨k, hk, rfl, HT⟩ := hrel
   have e0 : (0:Int) ≤ k := by omega
   by_cases hlt : k < s.size
   · have e1 : (k:Int) < s.size := by omega
     have hy := byt_eq s k hlt
     have HQ := Lib.hid (fun (h : whC (byt s k) = false) => onl_no (p := whC) hlt h)
     have HS := Lib.hid (onl_succ whC s k)
     obtain ⟨y, hyy⟩ : ∃ y, byt s k = y := ⟨_, rfl⟩
     rw [hyy] at hy HQ HS
     clear hyy
     rcases wh_cases y with rfl | rfl | ⟨h1, h2⟩
     · have HS2 : Hid (onl whC s (k + 1) = true) := Lib.hid (by rw [HS.out, HT.out]; rfl)
       go_wp2_with fail
       go_round
       case rel => exact ⟨k + 1, by omega, by go_num, HS2.out⟩
       case measure => simp [intOf]; omega
     · have HS2 : Hid (onl whC s (k + 1) = true) := Lib.hid (by rw [HS.out, HT.out]; rfl)
       go_wp2_with fail
       go_round
       case rel => exact ⟨k + 1, by omega, by go_num, HS2.out⟩
       case measure => simp [intOf]; omega
     have f1 : (y == 83) = false := beq_eq_false_iff_ne.2 h1
     have f2 : (y == 72) = false := beq_eq_false_iff_ne.2 h2
     have g1 : (y != 83) = true := bne_iff_ne.2 h1
     have g2 : (y != 72) = true := bne_iff_ne.2 h2
     have HF := Lib.hid (HQ.out (by simp [whC, h1, h2]))
     go_wp2_with fail
     go_ret
     exact ⟨ret_bool HF.out.symm, rfl⟩
   · obtain rfl : k = s.size := by omega
     have e1 : ¬ (s.size:Int) < s.size := by omega
     go_wp2_with fail
     go_ret
     exact ⟨ret_bool HT.out.symm, rfl⟩
def vC (o : CO) : Bool := decide (o.lead.size ≤ 6) && onl pcC o.lead o.lead.size && inB o.cyc.size 1 8 && onl whC o.cyc o.cyc.size
def vB (nm : ByteArray) (cs : List CO) : Bool := isN nm && inB cs.length 1 8 && cs.all vC
theorem vCall_no {es : List CO} {k : Nat} (hk : k < es.length) (h : vC (gd es k) = false) : es.all vC = false := by
 rw [List.all_eq_false]; exact ⟨gd es k, gd_mem hk, by simp [h]⟩
theorem vCall_succ {es : List CO} {k : Nat} (hk : k < es.length) : (es.take (k + 1)).all vC = ((es.take k).all vC && vC (gd es k)) := by rw [take_gd hk]; simp
set_option maxHeartbeats 1600000 in
theorem badco_fn (o : CO) (w : World) (hl : LenCO o) :
   Calls Tryz.prog 143 #[.agg #[.string o.lead, .string o.cyc]] w (Ret (.bool (!vC o)) w) := by
 obtain ⟨hl1, hl2⟩ := hl
 have HL := Lib.hid (fun w => only_pc o.lead hl1 w)
 have HC := Lib.hid (fun w => only_wh o.cyc hl2 w)
 unfold maxLen at hl1 hl2
 obtain ⟨a, c⟩ := o
 dsimp only at *
 by_cases h1 : a.size ≤ 6
 · have e1 : ¬ (6:Int) < a.size := by omega
   have HV : Hid (vC ⟨a, c⟩ = (onl pcC a a.size && inB c.size 1 8 && onl whC c c.size)) := Lib.hid (by unfold vC; rw [decide_eq_true h1]; rfl)
   obtain ⟨x, hx⟩ : ∃ x, onl pcC a a.size = x := ⟨_, rfl⟩
   obtain ⟨y, hy⟩ : ∃ y, inB c.size 1 8 = y := ⟨_, rfl⟩
   obtain ⟨z, hz⟩ : ∃ z, onl whC c c.size = z := ⟨_, rfl⟩
   have HI := Lib.hid (fun w => RetP.bool (impl_within (c.size : Int) 1 8 w) hy)
   rw [hx, hy, hz] at HV
   rw [hx] at HL
   rw [hz] at HC
   clear hx hy hz h1
   go_enter Tryz.func143, Tryz.ntmps143
   go_wp2_with fail
   refine (show Calls _ _ _ _ _ from HL.out _).mono ?_
   rintro e w1 ⟨rfl, rfl⟩
   cases x
   · go_wp2_with fail
     go_ret
     exact ⟨ret_bool (by rw [HV.out]; rfl), ext_alloc1 _ _⟩
   · go_wp2_with fail
     refine (show Calls _ _ _ _ _ from HI.out _).mono ?_
     rintro e w1 ⟨rfl, rfl⟩
     cases y
     · go_wp2_with fail
       go_ret
       exact ⟨ret_bool (by rw [HV.out]; rfl), ext_alloc1 _ _⟩
     · go_wp2_with fail
       refine (show Calls _ _ _ _ _ from HC.out _).mono ?_
       rintro e w1 ⟨rfl, rfl⟩
       go_wp2_with fail
       go_ret
       exact ⟨ret_bool (by rw [HV.out]; simp), ext_alloc1 _ _⟩
 · have e1 : (6:Int) < a.size := by omega
   have HV : Hid (vC ⟨a, c⟩ = false) := Lib.hid (by unfold vC; rw [decide_eq_false h1]; rfl)
   go_enter Tryz.func143, Tryz.ntmps143
   go_wp2_with fail
   go_ret
   exact ⟨ret_bool (by rw [HV.out]; rfl), ext_alloc1 _ _⟩
set_option maxHeartbeats 1600000 in
theorem badco_idx (v : Value) (es : List CO) (w : World) (hR : RCOS w v es) (hsm : LenCOS es) :
   Calls Tryz.prog 198 #[v, .func (.func 143) #[] #[]] w fun e w' => (∃ i : Int, e = .returned (.int .i64 i) ∧ (es.all vC = false → 0 ≤ i) ∧ (es.all vC = true → i = -1)) ∧ Below w.heap.size w w' := by
 obtain ⟨A, c, rfl, hc1, hc2⟩ := hR.open_
 have HR := Lib.hid hR; clear hR
 have HSM := Lib.hid hsm
 clear hsm
 unfold maxLen at hc2
 go_enter Tryz.func198, Tryz.ntmps198
 go_wp2_with fail
 go_loopw [8] (fun i wr => ∃ k : Nat, k ≤ es.length ∧ i = .int .i64 k ∧ Hid ((es.take k).all vC = true) ∧ Hid (Below w.heap.size w wr)) (fun i _ => es.length - (intOf i).toNat)
 case atStart => exact ⟨0, Nat.zero_le _, rfl, Lib.hid rfl, Lib.hid (ext_refl _)⟩
 case round =>
   obtain ⟨k, hk, rfl, HA, HB⟩ := hrel
   have e1 : (0 : Int) ≤ k := by omega
   by_cases hlt : k < es.length
   · have e2 : (k : Int) < es.length := by omega
     obtain ⟨ad, rfl, _, hc⟩ := (HR.out.ext HB.out).at hlt
     obtain ⟨p0, p1⟩ := hc k hlt
     have HL : Hid (LenCO (gd es k)) := Lib.hid (HSM.out.2 _ (gd_mem hlt))
     have HA2 := Lib.hid (vCall_succ hlt)
     clear hc
     have HQ := Lib.hid (fun h => vCall_no hlt h)
     obtain ⟨o, ho⟩ : ∃ o, gd es k = o := ⟨_, rfl⟩
     rw [ho] at p0 p1 HL HA2 HQ
     clear ho
     go_wp2_with fail
     refine (badco_fn o _ HL.out).mono ?_
     rintro e w3 ⟨rfl, hb3⟩
     have HB3 := Lib.hid (ext_trans HB.out hb3)
     clear hb3
     cases hv : vC o with
     | false =>
       have HF := Lib.hid (HQ.out hv)
       clear hv
       go_wp2_with fail
       go_ret
       exact ⟨⟨_, rfl, fun _ => by omega, fun h => by rw [HF.out] at h; cases h⟩, HB3.out⟩
     | true =>
       have HA3 : Hid ((es.take (k + 1)).all vC = true) := Lib.hid (by rw [HA2.out, HA.out, hv]; rfl)
       clear hv
       go_wp2_with fail
       go_roundw
       case rel => exact ⟨k + 1, by omega, by go_num, HA3.out, HB3⟩
       case measure => simp [intOf]; omega
   · obtain rfl : k = es.length := by omega
     have HAll : Hid (es.all vC = true) := Lib.hid (by have := HA.out; rwa [List.take_length] at this)
     go_wp2_with fail
     go_ret
     exact ⟨⟨-1, rfl, fun h => (by rw [HAll.out] at h; cases h), fun _ => rfl⟩, HB.out⟩
theorem badco_has (v : Value) (es : List CO) (w : World) (hR : RCOS w v es) (hsm : LenCOS es) :
   Calls Tryz.prog 142 #[v, .func (.func 143) #[] #[]] w (Ret (.bool (!es.all vC)) w) := by
 obtain ⟨A, c, rfl, hc1, hc2⟩ := hR.open_
 have HI := Lib.hid (badco_idx _ es w hR hsm)
 clear hR hsm
 go_enter Tryz.func142, Tryz.ntmps142
 go_wp2_with fail
 refine (show Calls _ _ _ _ _ from HI.out).mono ?_
 rintro e w' ⟨⟨i, rfl, hi1, hi2⟩, hb⟩
 have HB := Lib.hid hb
 clear hb HI
 cases hv : es.all vC with
 | false =>
   have h0 := hi1 hv
   have HX := Lib.hid hv
   clear hi1 hi2 hv
   go_wp2_with fail
   go_ret
   exact ⟨ret_bool (by simp [HX.out]), HB.out⟩
 | true =>
   obtain rfl := hi2 hv
   have HX := Lib.hid hv
   clear hi1 hi2 hv
   go_wp2_with fail
   go_ret
   exact ⟨ret_bool (by simp [HX.out]), HB.out⟩
set_option maxHeartbeats 1600000 in
theorem impl_ValidBond (A : Option Addr) (c : Nat) (nm : ByteArray) (cs : List CO) (w : World) (hn : nm.size ≤ maxLen) (hl : LenCOS cs) (ha : RCOS w (.slice A cs.length c) cs) :
   Calls Tryz.prog 78 #[.agg #[.string nm, .slice A cs.length c]] w (Ret (.bool (vB nm cs)) w) := by
 have HN := Lib.hid (fun w => impl_IsName nm hn w)
 have HC := Lib.hid (fun w h => badco_has (.slice A cs.length c) cs w h hl)
 have HA := Lib.hid ha
 have HV : Hid (vB nm cs = (isN nm && inB cs.length 1 8 && cs.all vC)) := Lib.hid rfl
 obtain ⟨x, hx⟩ : ∃ x, isN nm = x := ⟨_, rfl⟩
 obtain ⟨y, hy⟩ : ∃ y, inB cs.length 1 8 = y := ⟨_, rfl⟩
 obtain ⟨z, hz⟩ : ∃ z, cs.all vC = z := ⟨_, rfl⟩
 have HI := Lib.hid (fun w => RetP.bool (impl_within (cs.length : Int) 1 8 w) hy)
 rw [hx] at HN HV
 rw [hy] at HV
 rw [hz] at HC HV
 clear hx hy hz ha hl hn
 go_enter Tryz.func78, Tryz.ntmps78
 go_wp2_with fail
 refine (show Calls _ _ _ _ _ from HN.out _).mono ?_
 rintro e w1 ⟨rfl, rfl⟩
 cases x
 · go_wp2_with fail
   go_ret
   exact ⟨ret_bool (by rw [HV.out]; rfl), ext_alloc1 _ _⟩
 · go_wp2_with fail
   refine (show Calls _ _ _ _ _ from HI.out _).mono ?_
   rintro e w1 ⟨rfl, rfl⟩
   cases y
   · go_wp2_with fail
     go_ret
     exact ⟨ret_bool (by rw [HV.out]; rfl), ext_alloc1 _ _⟩
   · go_wp2_with fail
     refine (show Calls _ _ _ _ _ from HC.out _ (HA.out.alloc _)).mono ?_
     rintro e w1 ⟨rfl, hb⟩
     have HB := Lib.hid hb
     clear hb
     go_wp2_with fail
     go_ret
     exact ⟨ret_bool (by rw [HV.out]; simp), ext_trans (ext_alloc1 _ _) HB.out⟩
end Go.Proofs.YtfgopboddkhckaaGreatDoor
namespace Go.Proofs.YtfgopboddkhckaaGreatDoor
open Go.ChangeShapes Go.WideShapes Go.ChangeAt Go.RowKit Go.Sort
theorem run_append_rd {P : Program} (w : World) (base : Nat) (t ty e : TypeId) (i : TypeInfo) (z : Value) (size bytes : Nat) (ht : P.underlying t = some (.slice e)) (hi : P.info? e = some i) (hz : i.zero = some z)
   (hsize : i.size = size) (hby : i.bytes = bytes) (hzs : z.cells.size = size) (hsz : 0 < size)
   (v : Value) (n : Nat) (xs : List Value) (hown : w.ownsRow base e size v n xs)
   (A : Option Addr) (m c : Nat) (news : List Value) (hr : Rd w size (.slice A m c) m news) (h1 : ∀ u ∈ news, u.oneCell' = true)
   (h63 : n + m ≤ maxLen) (hbytes : (n + m) * bytes ≤ 140737488355328) (hbase : base ≤ w.heap.size) :
   ∃ v' w', (Builtin.append_ #[t, t] ty #[v, .slice A m c]).run P w = .ok v' w' ∧ w'.ownsRow base e size v' (n + m) (xs ++ news) ∧ w.grownBy w' v.ownBlock ∧
     (v'.ownBlock = v.ownBlock ∨ v'.ownBlock = some w.heap.size) := by
 obtain ⟨hl, A', c', hv, _, _, hc⟩ := hr
 injection hv with e1 e2 e3
 subst e1 e3
 rcases A with _ | ad
 · have hm : m = 0 := by
     rcases Nat.eq_zero_or_pos m with h0 | h0
     · exact h0
     · obtain ⟨ad, h, _⟩ := hc h0
       cases h
   subst hm
   have hn : news = [] := List.eq_nil_of_length_eq_zero (by simpa using hl)
   subst hn
   refine ⟨v, w, ?_, by simpa using hown, World.grownBy.refl w _, .inl rfl⟩
   rcases hown.2 with ⟨rfl, rfl⟩ | ⟨g, cap, cur, rfl, _, _, hnc, _⟩
   · simp [Builtin.append_, run_underlying ht, sizeOf, typeInfo, hi, Builtin.lenOf, Builtin.firstCells]
   · simp [Builtin.append_, run_underlying ht, sizeOf, typeInfo, hi, Builtin.lenOf, Builtin.firstCells, hnc, storeCells]
 · have hcells : ∀ j u, news[j]? = some u → w.cell? (ad.add j) = some u := by
     intro j u hu
     rcases Nat.eq_zero_or_pos m with h0 | h0
     · subst h0
       have hn : news = [] := List.eq_nil_of_length_eq_zero (by simpa using hl)
       subst hn
       simp at hu
     · obtain ⟨ad', h, _, hc'⟩ := hc h0
       injection h with h
       subst h
       exact hc' j u hu
   obtain ⟨v', w', hrun, h2, h3, _, h5⟩ := run_append_own_at (P := P) w base t ty e i z size bytes ht hi hz hsize hby hzs hsz v n xs hown ad m c news hl hcells h1 h63 hbytes hbase
   exact ⟨v', w', hrun, h2, h3, h5⟩
theorem wpList_append_rd {P : Program} {w : World} {ops : Array Oper} {rest : List Oper} {o : Oper} {a : Act} {Q : Exit → Act → World → Prop} (hgd : o.guard = none) (s x : Operand) (t : TypeId)
   (ho : o.op = .call { callee := .builtin .append, args := #[s, x], argTypes := #[t, t] })
   (base : Nat) (e : TypeId) (i : TypeInfo) (z : Value) (size bytes : Nat) (ht : P.underlying t = some (.slice e)) (hi : P.info? e = some i) (hz : i.zero = some z)
   (hsize : i.size = size) (hby : i.bytes = bytes) (hzs : z.cells.size = size) (hsz : 0 < size)
   (v : Value) (n : Nat) (xs : List Value) (hs : a.eval s = v) (hown : w.ownsRow base e size v n xs)
   (A : Option Addr) (m c : Nat) (news : List Value) (hx : a.eval x = .slice A m c) (hr : Rd w size (.slice A m c) m news) (h1 : ∀ u ∈ news, u.oneCell' = true)
   (h63 : n + m ≤ maxLen) (hbytes : (n + m) * bytes ≤ 140737488355328) (hbase : base ≤ w.heap.size)
   (h : ∀ v' w', w'.ownsRow base e size v' (n + m) (xs ++ news) → w.grownBy w' v.ownBlock → (v'.ownBlock = v.ownBlock ∨ v'.ownBlock = some w.heap.size) → wpList P ops Q rest (a.put o.dst v') w') : wpList P ops Q (o :: rest) a w := by
 obtain ⟨v', w', hrun, h2, h3, h4⟩ := run_append_rd (P := P) w base t o.type e i z size bytes ht hi hz hsize hby hzs hsz v n xs hown A m c news hr h1 h63 hbytes hbase
 refine wpList_plain hgd fun K hK => ?_
 unfold Oper.wp execOp
 simp only [ho, resolve, invoke, builtin, Sem.run_bind, Sem.run_pure, Result.andThen_ok, List.map_toArray, List.map_cons, List.map_nil, hs, hx, hrun]
 exact hK _ _ (h v' w' h2 h3 h4)
end Go.Proofs.YtfgopboddkhckaaGreatDoor
namespace Go.Proofs.YtfgopboddkhckaaGreatDoor
open Go.ChangeShapes Go.WideShapes Go.ChangeAt Go.RowKit Go.Sort
set_option linter.unusedVariables false
set_option maxRecDepth 8000
def RStr (w : World) (v : Value) (l : List ByteArray) : Prop := Rd w 1 v l.length (l.map Value.string)
theorem RStr.ext {w w' : World} {v : Value} {l : List ByteArray} (h : RStr w v l) (hb : Below w.heap.size w w') : RStr w' v l := Rd.ext h hb
theorem RStr.alloc {w : World} {v : Value} {l : List ByteArray} (h : RStr w v l) (o : Obj) : RStr (w.alloc o) v l := Rd.alloc h o
theorem RStr.open_ {w : World} {v : Value} {l : List ByteArray} (h : RStr w v l) : ∃ A c, v = .slice A l.length c ∧ l.length ≤ c ∧ c ≤ maxLen := by
 obtain ⟨_, A, c, h1, h2, h3, _⟩ := h; exact ⟨A, c, h1, h2, h3⟩
theorem RStr.at {w : World} {A : Option Addr} {n cp : Nat} {l : List ByteArray} (h : RStr w (.slice A n cp) l) {k : Nat} (hk : k < l.length) : ∃ ad, A = some ad ∧ ad.block < w.heap.size ∧ ∀ k, k < l.length → w.cell? (ad.add k) = some (.string (gd l k)) := by
 obtain ⟨_, A', c', hv, h2, h3, h4⟩ := h
 injection hv with e1 e2 e3
 subst e1
 obtain ⟨ad, rfl, hlt, hc⟩ := h4 (by omega)
 exact ⟨ad, rfl, hlt, fun k hk => hc k _ (by rw [List.getElem?_map, List.getElem?_eq_getElem hk, gd_eq hk]; rfl)⟩
def OStr (w : World) (base : Nat) (v : Value) (l : List ByteArray) : Prop := w.ownsRow base 9 1 v l.length (l.map Value.string)
theorem OStr.rd {w : World} {base : Nat} {v : Value} {l : List ByteArray} (h : OStr w base v l) : RStr w v l := own_rd h
theorem OStr.ext {w w' : World} {base : Nat} {v : Value} {l : List ByteArray} (h : OStr w base v l) (hb : Below w.heap.size w w') : OStr w' base v l := own_ext h hb
theorem OStr.mono {w : World} {base base' : Nat} {v : Value} {l : List ByteArray} (h : OStr w base v l) (hb : base' ≤ base) : OStr w base' v l := own_mono h hb
theorem OStr.chg {S : Nat → Prop} {w w' : World} {base : Nat} {v : Value} {l : List ByteArray} (h : OStr w base v l) (hb : Chg S w w') (hS : ∀ k, v.ownBlock = some k → ¬ S k) : OStr w' base v l := own_chg h hb hS
theorem OStr.ge {w : World} {base : Nat} {v : Value} {l : List ByteArray} (h : OStr w base v l) : ∀ k, BI v k → base ≤ k ∧ k < w.heap.size := World.ownsRow.lt h
abbrev BStr := BI
theorem ostr_nil (w : World) (base : Nat) : OStr w base (.slice none 0 0) [] := ⟨rfl, .inl ⟨rfl, rfl⟩⟩
theorem ostr_lit (w : World) (base : Nat) (h : base ≤ w.heap.size) : OStr (w.alloc (.cells #[] 9)) base (.slice (some ⟨w.heap.size, 0, none⟩) 0 0) [] :=
 World.ownsRow_lit _ #[] 0 h (by simp [maxLen]) (by simp)
theorem info_str : (Tryz.prog.info? 9).map (fun i => (i.zero, i.size, i.bytes)) = some (some (.string ⟨#[]⟩), 1, 16) := by kernel_rfl
def SmStr (l : List ByteArray) : Prop := l.length ≤ 1048576
theorem wpList_append_str {w0 : World} {ops : Array Oper} {rest : List Oper} {o : Oper} {a : Act} {Q : Exit → Act → World → Prop} (hgd : o.guard = none) (s x : Operand)
   (ho : o.op = .call { callee := .builtin .append, args := #[s, x], argTypes := #[29, 29] })
   (base : Nat) (v : Value) (l : List ByteArray) (n : ByteArray) (hs : a.eval s = v) (hx : a.eval x = .slice (some ⟨w0.heap.size, 0, none⟩) 1 1) (hO : OStr w0 base v l)
   (hl : l.length ≤ 1099511627776) (hbase : base ≤ w0.heap.size)
   (h : ∀ g cap w', OStr w' base (.slice (some ⟨g, 0, none⟩) (l.length + 1) cap) (l ++ [n]) → Chg (BI v) w0 w' → w0.heap.size < w'.heap.size → wpList Tryz.prog ops Q rest (a.put o.dst (.slice (some ⟨g, 0, none⟩) (l.length + 1) cap)) w') :
   wpList Tryz.prog ops Q (o :: rest) a (w0.alloc (.cells #[.string n] 9)) := by
 obtain ⟨i0, hi, hz0, hz1, hz2⟩ := info_parts info_str
 refine wpList_append_lies _ hgd s x _ ho base 9 i0 (.string ⟨#[]⟩) 1 16 Tryz.underlying29 hi hz0 hz1 hz2 rfl (by omega) v l.length (l.map Value.string) hs (World.ownsRow.alloc hO _)
   ⟨w0.heap.size, 0, none⟩ 1 1 [.string n] hx rfl (cell_one_new _ _ _) (by simp [Value.oneCell']) (by omega) (by unfold maxLen; omega) (by omega) (by simp; omega) (w0.heap.size + 1) (by simp) ?_
 intro g cap w1 hown hgrow hat hlt
 refine h g cap w1 ?_ ((Chg.of_below (ext_alloc1 _ _) _).trans (Chg.of_grown hgrow)) (by have := hgrow.size; simp at this; omega)
 unfold OStr
 simpa using hown
def mkStr (j : Int) (n : Nat) : List ByteArray := (List.range n).map fun (i : Nat) => mtx (j + (i : Int))
theorem mkStr_len (j : Int) (n : Nat) : (mkStr j n).length = n := by simp [mkStr]
theorem mkStr_gd {j : Int} {n i : Nat} (h : i < n) : gd (mkStr j n) i = mtx (j + (i : Int)) := by rw [gd_eq (by rw [mkStr_len]; exact h)]; simp [mkStr]
theorem mkStr_take (j : Int) (n i : Nat) (h : i < n) : (mkStr j n).take (i + 1) = (mkStr j n).take i ++ [mtx (j + (i : Int))] := by
 rw [take_gd (by rw [mkStr_len]; exact h), mkStr_gd h]
theorem set_str {xs : List ByteArray} {n k : Nat} (hk : k < n) (hn : xs.length = n) (u : ByteArray) (m : List ByteArray) (hm : m.length = k) :
   (m.map Value.string ++ (xs.drop k).map Value.string).set k (.string u) = (m ++ [u]).map Value.string ++ (xs.drop (k + 1)).map Value.string := by
 rw [List.set_append_right k _ (by simp; omega)]
 simp only [List.length_map, hm, Nat.sub_self, List.map_append, List.append_assoc, List.append_cancel_left_eq]
 rw [List.drop_eq_getElem_cons (i := k) (l := xs) (by omega)]
 simp only [List.map_cons, List.set_cons_zero, List.map_nil, List.cons_append, List.nil_append]
set_option maxHeartbeats 800000 in
theorem eq_Str (v1 v2 : Value) (l : List ByteArray) (w : World) (ha : RStr w v1 l) (hb : RStr w v2 l) :
   Calls Tryz.prog 13 #[v1, v2] w (Ret (.bool true) w) := by
 obtain ⟨A, c, rfl, hc1, hc2⟩ := ha.open_
 obtain ⟨B, d, rfl, hd1, hd2⟩ := hb.open_
 have HA := Lib.hid ha; clear ha
 have HB := Lib.hid hb; clear hb
 unfold maxLen at hc2 hd2
 go_enter Tryz.func13, Tryz.ntmps13
 go_wp2_with fail
 go_loopw [5] (fun i wr => ∃ k q : Nat, k ≤ l.length ∧ i = .int .i64 k ∧ wr = w.drewN q) (fun i _ => l.length - (intOf i).toNat)
 case atStart => exact ⟨0, 0, Nat.zero_le _, rfl, rfl⟩
 case round =>
   obtain ⟨k, q, hk, rfl, rfl⟩ := hrel
   by_cases hlt : k < l.length
   · obtain ⟨ad, rfl, _, hc⟩ := HA.out.at hlt
     obtain ⟨bd, rfl, _, hd⟩ := HB.out.at hlt
     replace hc := hc k hlt
     replace hd := hd k hlt
     have e1 : (0:Int) ≤ k := by omega
     have e2 : (k:Int) < l.length := by omega
     go_wp2_with fail
     go_quiet (fail)
     go_wp2_with fail
     go_roundw
     case rel => exact ⟨k + 1, _, by omega, by go_num, rfl⟩
     case measure => simp [intOf]; omega
   · have hkn : k = l.length := by omega
     subst hkn
     go_wp2_with fail
     go_ret
     exact ⟨rfl, ext_drewN (ext_refl w) _⟩
set_option maxHeartbeats 1600000 in
theorem mark_Str (base : Nat) (v : Value) (l : List ByteArray) (j : Int) (hj0 : 0 ≤ j) (hj : j ≤ 1099511627776) (w : World) (hsm : SmStr l) (hO : OStr w base v l) :
   Calls Tryz.prog 15 #[v, .int .i64 j] w fun e w' => e = .returned (.int .i64 (j + (l.length : Int))) ∧ OStr w' base v (mkStr j l.length) ∧ Chg (BStr v) w w' := by
 unfold SmStr at hsm
 have hO' := hO
 obtain ⟨h1, h2⟩ := hO'
 rcases h2 with ⟨rfl, h0⟩ | ⟨g, cap, cur, rfl, hg, hh, hn, hm, hs, ht⟩
 · clear hO h1
   have hx : l = [] := List.eq_nil_of_length_eq_zero h0
   subst hx
   go_enter Tryz.func15, Tryz.ntmps15
   go_wp2_with fail
   refine wp_loop_rounds 1 ?_
   rw [rounds_succ]
   go_wp2_with fail
   go_ret
   exact ⟨ret_int (by simp), World.ownsRow_nil _ _ _ _, Chg.of_below (ext_refl _) _⟩
 · clear h1 hh hn hs ht cur
   have HO0 := Lib.hid hO; clear hO
   obtain ⟨n, hnn⟩ : ∃ n, l.length = n := ⟨_, rfl⟩
   unfold OStr at HO0
   rw [hnn] at HO0 hsm
   rw [hnn]
   unfold OStr
   rw [mkStr_len]
   have HN := Lib.hid hnn; clear hnn
   unfold maxLen at hm
   go_enter Tryz.func15, Tryz.ntmps15
   go_wp2_with fail
   go_loopw [5, 1] (fun i q wr => ∃ (k : Nat), k ≤ n ∧ i = .int .i64 k ∧ q = .int .i64 (j + (k : Int)) ∧ Hid (wr.ownsRow base 9 1 (.slice (some ⟨g, 0, none⟩) n cap) n (((mkStr j n).take k).map Value.string ++ (l.drop k).map Value.string)) ∧ Hid (Chg (fun b => b = g) w wr)) (fun i _ _ => n - (intOf i).toNat)
   case atStart => exact ⟨0, Nat.zero_le _, rfl, by simp, (by simpa [Hid] using HO0.out), Chg.of_below (ext_refl _) _⟩
   case round =>
     obtain ⟨k, hk, rfl, rfl, HO, HC⟩ := hrel
     by_cases hlt : k < n
     · have e1 : (0:Int) ≤ k := by omega
       have e2 : (k:Int) < n := by omega
       go_wp2_with fail
       refine (mark_text _ (by omega) (by omega) _).mono ?_
       rintro e w2 ⟨rfl, hb⟩
       have HO1 := Lib.hid (own_ext HO.out hb)
       have HC1 := Lib.hid (HC.out.trans (Chg.of_below hb _))
       clear hb
       have hfr := HO1.out.frozenAt k
       have hsome : w2.cell? ⟨g, k, none⟩ = some (.string (gd l k)) := by
         rw [HO1.out.cellAt k (by omega), List.getElem?_append_right (by simp; omega)]
         simp only [List.length_map, List.length_take, mkStr_len]
         rw [show min k n = k from by omega, List.getElem?_map, List.getElem?_drop]
         simp only [Nat.sub_self, Nat.add_zero]
         rw [List.getElem?_eq_getElem (by rw [HN.out]; omega), gd_eq (by rw [HN.out]; omega)]
         rfl
       go_wp2_with fail
       go_roundw
       case rel =>
         refine ⟨k + 1, by omega, by go_num, ?_, ?_, ?_⟩
         · exact (by rw [show (j + (k:Int) + 1) = j + ((k + 1 : Nat) : Int) from by omega])
         · have h1 := (HO1.out.stored k (.string (mtx (j + (k : Int))))).1
           rw [set_str hlt HN.out _ _ (by simp [mkStr_len]; omega)] at h1
           unfold Hid
           rw [mkStr_take j n k hlt]
           exact h1
         · exact HC1.out.trans (Chg.setCell (S := fun b => b = g) _ (p := ⟨g, k, none⟩) rfl _)
       case measure => simp [intOf]; omega
     · have hkn : k = n := by omega
       subst hkn
       go_wp2_with fail
       go_ret
       refine ⟨rfl, ?_, HC.out.mono fun b hb => by rw [hb]; rfl⟩
       have := HO.out
       rw [List.take_of_length_le (by rw [mkStr_len]; omega), List.drop_of_length_le (by rw [HN.out]; omega)] at this
       simpa using this
set_option maxHeartbeats 1600000 in
theorem held_Str (v : Value) (l : List ByteArray) (j : Int) (hj0 : 0 ≤ j) (hj : j ≤ 1099511627776) (w : World) (hsm : SmStr l) (ha : RStr w v (mkStr j l.length)) :
   Calls Tryz.prog 17 #[v, .int .i64 j] w (Ret (.int .i64 (j + (l.length : Int))) w) := by
 unfold SmStr at hsm
 obtain ⟨n, hn⟩ : ∃ n, l.length = n := ⟨_, rfl⟩
 rw [hn] at ha hsm
 rw [hn]
 clear hn
 obtain ⟨A, c, rfl, hc1, hc2⟩ := ha.open_
 have HA := Lib.hid ha; clear ha
 rw [mkStr_len] at hc1 HA
 rw [mkStr_len]
 unfold maxLen at hc2
 go_enter Tryz.func17, Tryz.ntmps17
 go_wp2_with fail
 go_loopw [5, 1] (fun i q wr => ∃ k : Nat, k ≤ n ∧ i = .int .i64 k ∧ q = .int .i64 (j + (k : Int)) ∧ Below w.heap.size w wr) (fun i _ _ => n - (intOf i).toNat)
 case atStart => exact ⟨0, Nat.zero_le _, rfl, by simp, ext_refl _⟩
 case round =>
   obtain ⟨k, hk, rfl, rfl, hbw⟩ := hrel
   have HAw := Lib.hid (HA.out.ext hbw)
   have HW := Lib.hid hbw; clear hbw
   by_cases hlt : k < n
   · obtain ⟨ad, rfl, _, hc⟩ := RStr.at (l := mkStr j n) (n := n) HAw.out (show k < (mkStr j n).length by rw [mkStr_len]; exact hlt)
     have hp := hc k (by rw [mkStr_len]; exact hlt)
     rw [mkStr_gd hlt] at hp
     clear hc
     have h1 : ∀ d os, (grow (redrawn wr d) os).cell? (ad.add k) = some (.string (mtx (j + (k : Int)))) := fun d os => cell_regrown hp d os
     clear hp
     have e1 : (0:Int) ≤ k := by omega
     have e2 : (k:Int) < n := by omega
     go_wp2_with fail
     refine wp_region_quiet_below (by kernel_rfl) (by kernel_rfl) ?_
     repeat (go_big_quiet_step ((go_at_call 48; exact regrown_r (mark_text _ (by omega) (by omega) _))))
     refine wpQuiet_nil ?_
     intro w' hw'
     obtain ⟨p, rfl⟩ := hw'
     have HWL := Lib.hid (ext_trans HW.out (below_regrown wr p.d p.os))
     clear h1
     generalize grow (redrawn wr p.d) p.os = w2 at *
     go_wp2_with fail
     go_roundw
     case rel => exact ⟨k + 1, by omega, by go_num, by rw [show (j + (k : Int) + 1) = j + ((k + 1 : Nat) : Int) from by omega], HWL.out⟩
     case measure => simp [intOf]; omega
   · have hkn : k = n := by omega
     subst hkn
     go_wp2_with fail
     go_ret
     exact ⟨rfl, HW.out⟩
end Go.Proofs.YtfgopboddkhckaaGreatDoor
namespace Go.Proofs.YtfgopboddkhckaaGreatDoor
open Go.ChangeShapes Go.WideShapes Go.ChangeAt Go.RowKit Go.Sort Go.Joins
set_option linter.unusedVariables false
def mkCO1 (j : Int) (i : Nat) : CO := ⟨mtx (j + 2 * (i : Int)), mtx (j + 2 * (i : Int) + 1)⟩
def mkCO (j : Int) (n : Nat) : List CO := (List.range n).map (mkCO1 j)
theorem mkCO_len (j : Int) (n : Nat) : (mkCO j n).length = n := by simp [mkCO]
theorem mkCO_gd {j : Int} {n i : Nat} (h : i < n) : gd (mkCO j n) i = mkCO1 j i := by rw [gd_eq (by rw [mkCO_len]; exact h)]; simp [mkCO]
set_option maxHeartbeats 3200000 in
theorem mark_COS (base : Nat) (v : Value) (l : List CO) (j : Int) (hj0 : 0 ≤ j) (hj : j ≤ 1099511627776) (w : World) (hsm : SmCOS l) (hO : OCOS w base v l) :
   Calls Tryz.prog 104 #[v, .int .i64 j] w fun e w' => e = .returned (.int .i64 (j + 2 * (l.length : Int))) ∧ OCOS w' base v (mkCO j l.length) ∧ Chg (BCOS v) w w' := by
 unfold SmCOS at hsm
 have hO' := hO
 obtain ⟨h1, h2⟩ := hO'
 rcases h2 with ⟨rfl, h0⟩ | ⟨g, cap, cur, rfl, hg, hh, hn, hm, hs, ht⟩
 · clear hO h1
   have hx : l = [] := List.eq_nil_of_length_eq_zero h0
   subst hx
   go_enter Tryz.func104, Tryz.ntmps104
   go_wp2_with fail
   refine wp_loop_rounds 1 ?_
   rw [rounds_succ]
   go_wp2_with fail
   go_ret
   exact ⟨ret_int (by simp), World.ownsRow_nil _ _ _ _, Chg.of_below (ext_refl _) _⟩
 · clear h1 hh hn hs ht cur
   have HO0 := Lib.hid (ORow.of hO); clear hO
   have hlen : l.length ≤ 1048576 := by omega
   clear hsm
   obtain ⟨n, hnn⟩ : ∃ n, l.length = n := ⟨_, rfl⟩
   rw [hnn] at HO0 hlen
   rw [hnn]
   unfold OCOS
   rw [mkCO_len]
   have HN := Lib.hid hnn; clear hnn
   unfold maxLen at hm
   go_enter Tryz.func104, Tryz.ntmps104
   go_wp2_with fail
   go_loopw [5, 1] (fun i q wr => ∃ (k : Nat) (F : Nat → Value), k ≤ n ∧ i = .int .i64 k ∧ q = .int .i64 (j + 2 * (k : Int)) ∧ Hid (ORow wr base 102 2 (.slice (some ⟨g, 0, none⟩) n cap) n F) ∧ Hid (∀ x, x < k * 2 → F x = cf cCO 2 (mkCO j n) x) ∧ Hid (Chg (fun b => b = g) w wr)) (fun i _ _ => n - (intOf i).toNat)
   case atStart => exact ⟨0, _, Nat.zero_le _, rfl, by simp, HO0.out, (fun x hx => by omega), Chg.of_below (ext_refl _) _⟩
   case round =>
     obtain ⟨k, F, hk, rfl, rfl, HO, HF, HC⟩ := hrel
     by_cases hlt : k < n
     · have e1 : (0:Int) ≤ k := by omega
       have e2 : (k:Int) < n := by omega
       go_wp2_with fail
       refine (mark_text _ (by omega) (by omega) _).mono ?_
       rintro e w2 ⟨rfl, hb⟩
       have HO1 := Lib.hid (HO.out.ext hb)
       have HC1 := Lib.hid (HC.out.trans (Chg.of_below hb _))
       clear hb
       have hc0 := HO1.out.cell (j := k * 2) (by omega)
       have hf0 := HO1.out.frozen (k * 2)
       go_wp2_with fail
       refine (mark_text _ (by omega) (by omega) _).mono ?_
       rintro e w3 ⟨rfl, hb⟩
       have HO2 := Lib.hid ((HO1.out.set (k * 2) (.string (mtx (j + 2 * (k : Int))))).ext hb)
       have HC2 := Lib.hid ((HC1.out.trans (Chg.setCell (S := fun b => b = g) _ (p := ⟨g, k * 2, none⟩) rfl (.string (mtx (j + 2 * (k : Int)))))).trans (Chg.of_below hb _))
       clear hb hc0 hf0
       have hc1 := HO2.out.cell (j := k * 2 + 1) (by omega)
       have hf1 := HO2.out.frozen (k * 2 + 1)
       go_wp2_with fail
       have HOL := Lib.hid (HO2.out.set (k * 2 + 1) (.string (mtx (j + 2 * (k : Int) + 1))))
       have HCL := Lib.hid (HC2.out.trans (Chg.setCell (S := fun b => b = g) _ (p := ⟨g, k * 2 + 1, none⟩) rfl (.string (mtx (j + 2 * (k : Int) + 1)))))
       go_roundw
       case rel =>
         refine ⟨k + 1, _, by omega, by go_num, by rw [show (j + 2 * (k : Int) + 1 + 1) = j + 2 * ((k + 1 : Nat) : Int) from by omega], HOL.out, (fun x hx => ?_), HCL.out⟩
         rcases (show x < k * 2 ∨ x = k * 2 ∨ x = k * 2 + 1 by omega) with h | rfl | rfl
         · have hg := HF.out x h
           rw [if_neg (by omega)]; rw [if_neg (by omega)]
           exact hg
         · rw [if_neg (by omega)]; rw [if_pos rfl, ← Nat.add_zero (k * 2), cf_at cCO 2 (by omega), mkCO_gd hlt]; rfl
         · rw [if_pos rfl, cf_at cCO 2 (by omega), mkCO_gd hlt]; rfl
       case measure => simp [intOf]; omega
     · have hkn : k = n := by omega
       subst hkn
       go_wp2_with fail
       go_ret
       refine ⟨rfl, ?_, HC.out.mono fun b hb => by rw [hb]; rfl⟩
       have h9 := HO.out
       have h8 := ORow.flat (l := mkCO j k) cCO_len (by omega) (by rw [mkCO_len]; exact h9) (by rw [mkCO_len]; exact fun x hx => HF.out x hx)
       rwa [mkCO_len] at h8
set_option maxHeartbeats 3200000 in
theorem held_COS (v : Value) (l : List CO) (j : Int) (hj0 : 0 ≤ j) (hj : j ≤ 1099511627776) (w : World) (hsm : SmCOS l) (ha : RCOS w v (mkCO j l.length)) :
   Calls Tryz.prog 105 #[v, .int .i64 j] w (Ret (.int .i64 (j + 2 * (l.length : Int))) w) := by
 unfold SmCOS at hsm
 have hlen : l.length ≤ 1048576 := by omega
 clear hsm
 obtain ⟨n, hn⟩ : ∃ n, l.length = n := ⟨_, rfl⟩
 rw [hn] at ha hlen
 rw [hn]
 clear hn
 obtain ⟨A, c, rfl, hc1, hc2⟩ := ha.open_
 have HA := Lib.hid ha; clear ha
 rw [mkCO_len] at hc1
 rw [mkCO_len]
 unfold maxLen at hc2
 go_enter Tryz.func105, Tryz.ntmps105
 go_wp2_with fail
 go_loopw [5, 1] (fun i q wr => ∃ k : Nat, k ≤ n ∧ i = .int .i64 k ∧ q = .int .i64 (j + 2 * (k : Int)) ∧ Below w.heap.size w wr) (fun i _ _ => n - (intOf i).toNat)
 case atStart => exact ⟨0, Nat.zero_le _, rfl, by simp, ext_refl _⟩
 case round =>
   obtain ⟨k, hk, rfl, rfl, hbw⟩ := hrel
   have HAw := Lib.hid (HA.out.ext hbw)
   have HW := Lib.hid hbw; clear hbw
   by_cases hlt : k < n
   · have hA := HAw.out
     unfold RCOS at hA
     rw [mkCO_len] at hA
     obtain ⟨ad, rfl, _, hc⟩ := RCOS.at (l := mkCO j n) (n := n) (by unfold RCOS; rw [mkCO_len]; exact hA) (show k < (mkCO j n).length by rw [mkCO_len]; exact hlt)
     have hp := hc k (by rw [mkCO_len]; exact hlt)
     rw [mkCO_gd hlt] at hp
     clear hA hc
     have h0 : ∀ d os, (grow (redrawn wr d) os).cell? (ad.add (k * 2)) = some (.string (mtx (j + 2 * (k : Int)))) := fun d os => cell_regrown hp.1 d os
     have h1 : wr.cell? (⟨(ad.add (k * 2)).block, (ad.add (k * 2)).off + 1, none⟩) = some (.string (mtx (j + 2 * (k : Int) + 1))) := hp.2
     clear hp
     have e1 : (0:Int) ≤ k := by omega
     have e2 : (k:Int) < n := by omega
     go_wp2_with fail
     refine wp_region_quiet_below (by kernel_rfl) (by kernel_rfl) ?_
     repeat (go_big_quiet_step ((go_at_call 48; exact regrown_r (mark_text _ (by omega) (by omega) _))))
     refine wpQuiet_nil ?_
     intro w' hw'
     obtain ⟨p, rfl⟩ := hw'
     have HWL := Lib.hid (ext_trans HW.out (below_regrown wr p.d p.os))
     have h2 := cell_keep h1 (below_regrown wr p.d p.os)
     replace h1 : ∀ d os, (grow (redrawn (grow (redrawn wr p.d) p.os) d) os).cell? (⟨(ad.add (k * 2)).block, (ad.add (k * 2)).off + 1, none⟩) = some (.string (mtx (j + 2 * (k : Int) + 1))) := fun d os => cell_regrown h2 d os
     clear h0 h2
     generalize grow (redrawn wr p.d) p.os = w2 at *
     go_wp2_with fail
     refine wp_region_quiet_below (by kernel_rfl) (by kernel_rfl) ?_
     repeat (go_big_quiet_step ((go_at_call 48; exact regrown_r (mark_text _ (by omega) (by omega) _))))
     refine wpQuiet_nil ?_
     intro w' hw'
     obtain ⟨p2, rfl⟩ := hw'
     have HWM := Lib.hid (ext_trans HWL.out (below_regrown w2 p2.d p2.os))
     clear h1
     generalize grow (redrawn w2 p2.d) p2.os = w3 at *
     go_wp2_with fail
     go_roundw
     case rel => exact ⟨k + 1, by omega, by go_num, by rw [show (j + 2 * (k : Int) + 1 + 1) = j + 2 * ((k + 1 : Nat) : Int) from by omega], HWM.out⟩
     case measure => simp [intOf]; omega
   · have hkn : k = n := by omega
     subst hkn
     go_wp2_with fail
     go_ret
     exact ⟨rfl, HW.out⟩
end Go.Proofs.YtfgopboddkhckaaGreatDoor
