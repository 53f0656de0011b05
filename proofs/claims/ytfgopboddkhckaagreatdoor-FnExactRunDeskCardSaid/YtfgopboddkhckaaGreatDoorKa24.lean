/-
  Parts of the proof: Lay3, Lay4X, Ss1, Ss2, PerX.
-/
import Derived.Test.YtfgopboddkhckaaGreatDoorKa5
import Derived.Test.YtfgopboddkhckaaGreatDoorKa6
import Derived.Test.YtfgopboddkhckaaGreatDoorKa7
import Derived.Test.YtfgopboddkhckaaGreatDoorKa8
import Derived.Test.YtfgopboddkhckaaGreatDoorKa14
import Derived.Test.YtfgopboddkhckaaGreatDoorKa17
import Derived.Test.YtfgopboddkhckaaGreatDoorKa18
import Derived.Test.YtfgopboddkhckaaGreatDoorKa21
import Derived.Test.YtfgopboddkhckaaGreatDoorKa22
import Derived.Test.YtfgopboddkhckaaGreatDoorKa23
namespace Go.Proofs.YtfgopboddkhckaaGreatDoor
open Go.ChangeShapes Go.WideShapes Go.ChangeAt Go.RowKit Go.Sort Go.Joins
set_option linter.unusedVariables false
set_option maxRecDepth 100000

set_option maxHeartbeats 3200000 in
theorem spec_lay6 (b : Nat) (A0 : Option Addr) (c0 : Nat) (nm : ByteArray) (cs : List CO) (k0 : Nat) (L : Int) (hk0 : k0 ≤ 1000) (hL0 : 1 ≤ L) (hL : L ≤ 200) (hv : vB nm cs = true) (w : World) (ha : RCOS w (.slice A0 cs.length c0) cs) (hb1 : w.cell? ⟨b, 1, none⟩ = some (.slice A0 cs.length c0)) :
    Calls Tryz.prog 188 #[.pointer (some ⟨b, 0, none⟩), .int .i64 k0, .int .i64 L] w
      (Ret (.string (layT (gd cs (k0 % cs.length)) L)) w) := by
  have hvv : 1 ≤ cs.length ∧ cs.length ≤ 8 ∧ ∀ k, k < cs.length → vC (gd cs k) = true := by
    unfold vB at hv
    simp only [Bool.and_eq_true] at hv
    have h2 := inB_iff.1 hv.1.2
    exact ⟨by omega, by omega, fun k hk => List.all_eq_true.1 hv.2 _ (gd_mem hk)⟩
  have HC := Lib.hid (fun w h => spec_course4 b 0 A0 c0 cs k0 hk0 hvv.1 hvv.2.1 w h)
  have HA := Lib.hid ha
  have hvc := hvv.2.2 (k0 % cs.length) (Nat.mod_lt _ (by omega))
  obtain ⟨co, hco⟩ : ∃ co, gd cs (k0 % cs.length) = co := ⟨_, rfl⟩
  rw [hco] at HC hvc
  rw [hco]
  have HV := Lib.hid hvc
  clear hco ha hvv hv hvc
  have HH := Lib.hid hb1
  clear hb1
  go_enter Tryz.func188, Tryz.ntmps188
  go_wp2_with fail
  refine (show Calls _ _ _ _ _ from HC.out _ HA.out HH.out).mono ?_
  rintro e w1 ⟨rfl, hb⟩
  have HB := Lib.hid hb
  clear hb
  go_wp2_with fail
  have HS : Hid (LST w ((w1.alloc (.cells #[.string co.lead, .string co.cyc] 102)).alloc (.cells #[] 5)) w1.heap.size co (some ⟨w1.heap.size + 1, 0, none⟩) 0 []) := Lib.hid (by
    have ho := ob_lit (w1.alloc (.cells #[.string co.lead, .string co.cyc] 102)) w.heap.size (by have := HB.out.size; simp; omega)
    rw [show (w1.alloc (.cells #[.string co.lead, .string co.cyc] 102)).heap.size = w1.heap.size + 1 by simp] at ho
    refine ⟨ext_alloc (ext_alloc HB.out _) _, by simp; omega, by simp [go_sem], by simp [go_sem], ho, fun k hk => ?_⟩
    obtain rfl : w1.heap.size + 1 = k := Option.some.inj hk
    omega)
  generalize (w1.alloc (.cells #[.string co.lead, .string co.cyc] 102)).alloc (.cells #[] 5) = wb at *
  generalize w1.heap.size + 1 = g0 at *
  generalize w1.heap.size = q at *
  have HAT := Lib.hid (LayAt.zero (c := co) (L := L) (by omega))
  go_loopw [8, 9, 10] (fun u a i wr => ∃ (k : Nat) (A : Option Addr) (cp : Nat), k ≤ 200 ∧ u = .slice A k cp ∧ a = .int .i64 (atK co k) ∧ i = .int .i64 k ∧ Hid (LayAt co L k) ∧ Hid (LST w wr q co A cp (layL co k))) (fun u _ _ _ => 201 - (match u with | .slice _ n _ => n | _ => 0))
  case atStart => exact ⟨0, some ⟨g0, 0, none⟩, 0, by omega, rfl, rfl, rfl, HAT, HS⟩
  case round =>
    obtain ⟨k, A, cp, hk, rfl, rfl, rfl, HT, HR⟩ := hrel
    have p0 := HR.out.c0
    have p1 := HR.out.c1
    have HP := Lib.hid (fun w => spec_letter4 co k HV.out (by omega) w)
    have hbd := ltr_bd co k
    have hq := ltr_q HV.out k
    have hab := atK_bd HV.out k
    have HQ := Lib.hid (fun w => spec_quarters (ltr co k) hbd.1 hbd.2 w)
    have HK : Hid (atK co (k + 1) = atK co k + qC (ltr co k)) := Lib.hid rfl
    have HB8 := Lib.hid (ltr_u8 co k)
    have HLS := Lib.hid (layL_succ co k)
    obtain ⟨y, hy⟩ : ∃ y, ltr co k = y := ⟨_, rfl⟩
    obtain ⟨z, hz⟩ : ∃ z, qC (ltr co k) = z := ⟨_, rfl⟩
    obtain ⟨t, ht⟩ : ∃ t, atK co k = t := ⟨_, rfl⟩
    rw [hz] at hq HK HQ
    rw [hy] at HP HQ HB8 HLS
    rw [ht] at hab HK
    rw [ht]
    have htt := Lib.hid ht
    clear hy hz ht hbd
    go_wp2_with fail
    refine (show Calls _ _ _ _ _ from HP.out _).mono ?_
    rintro e w3 ⟨rfl, hb⟩
    replace HR := Lib.hid (HR.out.ext hb)
    clear hb p0 p1
    have p0 := HR.out.c0
    have p1 := HR.out.c1
    by_cases hgo : L < t + z
    · have HN : Hid (lenN co L = k) := Lib.hid (HT.out.stop (by rw [HK.out]; exact hgo))
      have HLT0 : layT co L = ⟨(layL co k ++ lastC (L - atK co k)).toArray⟩ := by unfold layT; rw [HN.out]
      have hll := layL_len co k
      rw [htt.out] at HLT0
      obtain ⟨bs, hbs⟩ : ∃ bs, layL co k = bs := ⟨_, rfl⟩
      rw [hbs] at HR HLT0 hll
      have HLL := Lib.hid hll
      have HLT := Lib.hid HLT0
      have hbl : bs.length ≤ 200 := by omega
      have HO := Lib.hid (show OB w3 w.heap.size (.slice A k cp) bs from by have := HR.out.own; rwa [HLL.out] at this)
      have HSZ := Lib.hid HR.out.b.size
      clear hbs hll HLT0
      go_wp2_with fail
      refine (show Calls _ _ _ _ _ from HQ.out _).mono ?_
      rintro e w4 ⟨rfl, rfl⟩
      by_cases h1 : L - t = 1
      · have e1 : (L - t == 1) = true := by simpa using h1
        replace HLT : Hid (layT co L = ⟨(bs ++ [67]).toArray⟩) := Lib.hid (by rw [HLT.out]; unfold lastC; rw [if_pos h1])
        go_wp2_with (at_builtin; refine wpList_append_byL rfl _ _ rfl w3.heap.size rfl w.heap.size (.slice A k cp) bs 67 67 rfl rfl rfl HO.out (by omega) HSZ.out ?_; intro g cp2 w5 hO5 hC5 hat5; have HB5 := Lib.hid (Chg.ext HR.out.b hC5 (fun j hj => (HO.out.ge j hj).1)); have hcv := conv_rb hO5.rd)
        all_goals (go_ret; rw [HLT.out]; exact ⟨rfl, HB5.out⟩)
      · have e1 : (L - t == 1) = false := by simpa using h1
        by_cases h2 : L - t = 2
        · have e2 : (L - t == 2) = true := by simpa using h2
          replace HLT : Hid (layT co L = ⟨(bs ++ [66]).toArray⟩) := Lib.hid (by rw [HLT.out]; unfold lastC; rw [if_neg h1, if_pos h2])
          go_wp2_with (at_builtin; refine wpList_append_byL rfl _ _ rfl w3.heap.size rfl w.heap.size (.slice A k cp) bs 66 66 rfl rfl rfl HO.out (by omega) HSZ.out ?_; intro g cp2 w5 hO5 hC5 hat5; have HB5 := Lib.hid (Chg.ext HR.out.b hC5 (fun j hj => (HO.out.ge j hj).1)); have hcv := conv_rb hO5.rd)
          all_goals (go_ret; rw [HLT.out]; exact ⟨rfl, HB5.out⟩)
        · have e2 : (L - t == 2) = false := by simpa using h2
          by_cases h3 : L - t = 3
          · have e3 : (L - t == 3) = true := by simpa using h3
            replace HLT : Hid (layT co L = ⟨(bs ++ [84]).toArray⟩) := Lib.hid (by rw [HLT.out]; unfold lastC; rw [if_neg h1, if_neg h2, if_pos h3])
            go_wp2_with (at_builtin; refine wpList_append_byL rfl _ _ rfl w3.heap.size rfl w.heap.size (.slice A k cp) bs 84 84 rfl rfl rfl HO.out (by omega) HSZ.out ?_; intro g cp2 w5 hO5 hC5 hat5; have HB5 := Lib.hid (Chg.ext HR.out.b hC5 (fun j hj => (HO.out.ge j hj).1)); have hcv := conv_rb hO5.rd)
            all_goals (go_ret; rw [HLT.out]; exact ⟨rfl, HB5.out⟩)
          · have e3 : (L - t == 3) = false := by simpa using h3
            replace HLT : Hid (layT co L = ⟨bs.toArray⟩) := Lib.hid (by rw [HLT.out]; unfold lastC; rw [if_neg h1, if_neg h2, if_neg h3]; simp)
            have HB5 := Lib.hid HR.out.b
            have hcv := conv_rb (show RB w3 (.slice A k cp) bs from by have := HO.out.rd; exact this)
            go_wp2_with fail
            all_goals (go_ret; rw [HLT.out]; exact ⟨rfl, HB5.out⟩)
    · have HT2 := Lib.hid (HT.out.next HV.out hL (by rw [HK.out]; exact hgo))
      go_wp2_with fail
      refine (show Calls _ _ _ _ _ from HQ.out _).mono ?_
      rintro e w4 ⟨rfl, rfl⟩
      have hll := layL_len co k
      obtain ⟨bs, hbs⟩ : ∃ bs, layL co k = bs := ⟨_, rfl⟩
      rw [hbs] at HR HLS hll
      have HLL := Lib.hid hll
      have hbl : bs.length ≤ 200 := by omega
      have HO := Lib.hid (show OB w3 w.heap.size (.slice A k cp) bs from by have := HR.out.own; rwa [HLL.out] at this)
      have HSZ := Lib.hid HR.out.b.size
      clear hbs hll
      go_wp2_with (at_builtin; refine wpList_append_byL rfl _ _ rfl w3.heap.size rfl w.heap.size (.slice A k cp) bs y y.toNat.toUInt8 HB8.out rfl rfl HO.out (by omega) HSZ.out ?_; intro g cp2 w5 hO5 hC5 hat5)
      go_wp2_with fail
      refine (show Calls _ _ _ _ _ from HQ.out _).mono ?_
      rintro e w6 ⟨rfl, rfl⟩
      have HR2 := Lib.hid (HR.out.app hO5 (by rw [HLL.out]; exact hC5) (by rw [HLL.out]; exact hat5))
      rw [← HLS.out] at HR2
      have hrr : Hid (bs.length + 1 = k + 1) := Lib.hid (by rw [HLL.out])
      go_wp2_with fail
      go_roundw
      case rel => exact ⟨k + 1, some ⟨g, 0, none⟩, cp2, by have := HT2.out.1; omega, by rw [hrr.out], by rw [HK.out], by go_num, HT2, HR2⟩
      case measure => have := HLL.out; simp; omega
end Go.Proofs.YtfgopboddkhckaaGreatDoor
namespace Go.Proofs.YtfgopboddkhckaaGreatDoor
open Go.ChangeShapes Go.WideShapes Go.ChangeAt Go.RowKit Go.Sort Go.Joins
set_option linter.unusedVariables false
set_option maxRecDepth 100000

def l4C (nm : ByteArray) (cs : List CO) (L : Int) : Int := if vB nm cs = true then (if inB L 1 200 = true then 0 else 2) else 1
set_option maxHeartbeats 3200000 in
theorem spec_code4 (b : Nat) (A0 : Option Addr) (c0 : Nat) (nm : ByteArray) (cs : List CO) (L : Int) (w : World) (l1 : nm.size ≤ maxLen) (l2 : LenCOS cs) (ha : RCOS w (.slice A0 cs.length c0) cs)
    (h0 : w.cell? ⟨b, 0, none⟩ = some (.string nm)) (h1 : w.cell? ⟨b, 1, none⟩ = some (.slice A0 cs.length c0)) :
    Calls Tryz.prog 187 #[.pointer (some ⟨b, 0, none⟩), .int .i64 0, .int .i64 L] w (Ret (.int .i64 (l4C nm cs L)) w) := by
  have HV : Hid (l4C nm cs L = if vB nm cs = true then (if inB L 1 200 = true then 0 else 2) else 1) := Lib.hid rfl
  have HVB := Lib.hid (spec_okB b 0 A0 c0 nm cs w l1 l2 ha h0 h1)
  obtain ⟨v, hv⟩ : ∃ v, vB nm cs = v := ⟨_, rfl⟩
  obtain ⟨x, hx⟩ : ∃ x, inB L 1 200 = x := ⟨_, rfl⟩
  have HI := Lib.hid (fun w => RetP.bool (spec_in L 1 200 w) hx)
  have HJ := Lib.hid (fun w => spec_in 0 0 1000 w)
  rw [hv] at HVB
  rw [hv, hx] at HV
  clear hv hx ha h0 h1 l1 l2
  go_enter Tryz.func187, Tryz.ntmps187
  go_wp2_with fail
  refine (show Calls _ _ _ _ _ from HVB.out).mono ?_
  rintro e w1 ⟨rfl, hb⟩
  have HB := Lib.hid hb
  clear hb
  cases v
  · go_wp2_with fail
    go_ret
    exact ⟨ret_int (by rw [HV.out]; rfl), HB.out⟩
  go_wp2_with fail
  refine (show Calls _ _ _ _ _ from HJ.out _).mono ?_
  rintro e w2 ⟨rfl, rfl⟩
  go_wp2_with fail
  refine (show Calls _ _ _ _ _ from HI.out _).mono ?_
  rintro e w2 ⟨rfl, rfl⟩
  cases x
  · go_wp2_with fail
    go_ret
    exact ⟨ret_int (by rw [HV.out]; rfl), HB.out⟩
  · go_wp2_with fail
    go_ret
    exact ⟨ret_int (by rw [HV.out]; rfl), HB.out⟩
set_option maxHeartbeats 3200000 in
theorem spec_LayWall (A0 : Option Addr) (c0 : Nat) (nm : ByteArray) (cs : List CO) (L n : Int) (w : World) (l1 : nm.size ≤ maxLen) (l2 : LenCOS cs) (ha : RCOS w (.slice A0 cs.length c0) cs) :
    Calls Tryz.prog 130 #[.agg #[.string nm, .slice A0 cs.length c0], .int .i64 L, .int .i64 n] w (RetL (mLayWall nm cs L n).1 (mLayWall nm cs L n).2 w) := by
  have HA := Lib.hid ha; clear ha
  have HVB := Lib.hid (fun w2 h h0 h1 => spec_code4 w.heap.size A0 c0 nm cs L w2 l1 l2 h h0 h1)
  clear l1 l2
  obtain ⟨v, hv⟩ : ∃ v, vB nm cs = v := ⟨_, rfl⟩
  obtain ⟨x, hx⟩ : ∃ x, inB L 1 200 = x := ⟨_, rfl⟩
  obtain ⟨y, hy⟩ : ∃ y, inB n 1 40 = y := ⟨_, rfl⟩
  have HJ := Lib.hid (fun w => RetP.bool (spec_in n 1 40 w) hy)
  have HX := Lib.hid hx
  have HY := Lib.hid hy
  have HV := Lib.hid hv
  unfold l4C at HVB
  rw [hv, hx] at HVB
  clear hv hx hy
  go_enter Tryz.func130, Tryz.ntmps130
  go_wp2_with fail
  refine (show Calls _ _ _ _ _ from HVB.out _ (HA.out.alloc _) (by simp [go_sem]) (by simp [go_sem])).mono ?_
  rintro e w1 ⟨rfl, hb⟩
  have HB := Lib.hid (ext_trans (ext_alloc1 _ _) hb)
  have HP1 : Hid (w1.cell? ⟨w.heap.size, 1, none⟩ = some (.slice A0 cs.length c0)) := Lib.hid (cell_keep (by simp [go_sem]) hb)
  clear hb HVB
  cases v
  · have HM := Lib.hid (mLW_0 (L := L) (n := n) HV.out)
    dsimp only [Bool.false_eq_true, if_false]
    go_wp2_with fail
    go_ret2
    rw [HM.out]
    exact RetL.no HB.out
  cases x
  · have HM := Lib.hid (mLW_1 (n := n) HV.out (by rw [HX.out]; rfl))
    dsimp only [Bool.false_eq_true, if_false, if_true]
    go_wp2_with fail
    go_ret2
    rw [HM.out]
    exact RetL.no HB.out
  go_wp2_with fail
  refine (show Calls _ _ _ _ _ from HJ.out _).mono ?_
  rintro e w2 ⟨rfl, rfl⟩
  cases y
  · have HM := Lib.hid (mLW_1 (L := L) HV.out (by rw [HY.out]; simp))
    go_wp2_with fail
    go_ret2
    rw [HM.out]
    exact RetL.no HB.out
  have HM := Lib.hid (mLW_2 HV.out (by rw [HX.out, HY.out]; rfl))
  have hL := inB_iff.1 HX.out
  have hn := inB_iff.1 HY.out
  have hcl := vB_lens HV.out
  clear HX HY HJ
  obtain ⟨m, hm⟩ : ∃ m : Nat, n = m := ⟨n.toNat, by omega⟩
  subst hm
  rw [Int.toNat_natCast] at HM
  have hm1 : m ≤ 40 := by omega
  have HC := Lib.hid (fun (k : Nat) (hk : k ≤ 1000) w2 h h1 => spec_lay6 w.heap.size A0 c0 nm cs k L hk hL.1 hL.2 HV.out w2 h h1)
  clear hn
  go_wp2_with fail
  go_loopw [9, 10] (fun u i wr => ∃ (k g cq : Nat), k ≤ m ∧ i = .int .i64 k ∧ u = .slice (some ⟨g, 0, none⟩) k cq ∧ Hid (lwB cs L k = true) ∧ Hid (OStr wr w1.heap.size (.slice (some ⟨g, 0, none⟩) k cq) (lwL cs L k)) ∧ Hid (Below w1.heap.size w1 wr)) (fun _ i _ => m - (intOf i).toNat)
  case atStart => exact ⟨0, w1.heap.size, 0, Nat.zero_le _, rfl, rfl, Lib.hid rfl, Lib.hid (ostr_lit _ _ (Nat.le_refl _)), Lib.hid (ext_alloc1 _ _)⟩
  case round =>
    obtain ⟨k, g, cq, hk, rfl, rfl, HT, HO, HBB⟩ := hrel
    have e1 : (0 : Int) ≤ k := by omega
    by_cases hlt : k < m
    · have e2 : (k : Int) < m := by omega
      have HC2 := Lib.hid (HC.out k (by omega) wr (HA.out.ext (ext_trans HB.out HBB.out)) (cell_keep HP1.out HBB.out))
      have HLS := Lib.hid (lwL_succ cs L k)
      have HBS := Lib.hid (lwB_succ cs L k)
      have HNO : Hid (¬ (layT (gd cs (k % cs.length)) L).size ≤ 60 → lwB cs L m = false) := Lib.hid fun h => lwB_no hlt h
      have HKL : Hid ((lwL cs L k).length = k) := Lib.hid (lwL_len _ _ _)
      obtain ⟨ls, hls⟩ : ∃ ls, lwL cs L k = ls := ⟨_, rfl⟩
      rw [hls] at HO HLS HKL
      clear hls
      obtain ⟨t, ht⟩ : ∃ t, layT (gd cs (k % cs.length)) L = t := ⟨_, rfl⟩
      rw [ht] at HC2 HLS HBS HNO
      clear ht
      by_cases h60 : t.size ≤ 60
      · have h60' : ¬ (60 : Int) < t.size := by omega
        have HT3 : Hid (lwB cs L (k + 1) = true) := Lib.hid (by rw [HBS.out, HT.out, decide_eq_true h60]; rfl)
        go_wp2_with fail
        refine (show Calls _ _ _ _ _ from HC2.out).mono ?_
        rintro e w3 ⟨rfl, hb3⟩
        have HB3 := Lib.hid (ext_trans HBB.out hb3)
        have HO3 := Lib.hid (HO.out.ext hb3)
        have hsz3 := HB3.out.size
        clear hb3 h60
        go_wp2_with (at_builtin; refine wpList_append_str rfl _ _ rfl w1.heap.size (.slice (some ⟨g, 0, none⟩) k cq) ls t rfl rfl HO3.out (by rw [HKL.out]; omega) hsz3 ?_; intro g2 cap w4 hO4 hg4 hlt4)
        go_roundw
        case rel =>
          refine ⟨k + 1, g2, cap, by omega, by go_num, by rw [HKL.out], HT3, Lib.hid ?_, Lib.hid (Chg.ext HB3.out hg4 (fun j hj => (HO3.out.ge j hj).1))⟩
          rw [HLS.out]
          rw [HKL.out] at hO4
          exact hO4
        case measure => simp [intOf]; omega
      · have h60' : (60 : Int) < t.size := by omega
        have HF : Hid (mLayWall nm cs L m = ([], 5)) := Lib.hid (by rw [HM.out, HNO.out h60]; rfl)
        clear h60
        go_wp2_with fail
        refine (show Calls _ _ _ _ _ from HC2.out).mono ?_
        rintro e w3 ⟨rfl, hb3⟩
        have HB3 := Lib.hid (ext_trans HBB.out hb3)
        clear hb3
        go_wp2_with fail
        go_ret2
        rw [HF.out]
        exact RetL.no (ext_trans HB.out HB3.out)
    · obtain rfl : k = m := by omega
      have HF : Hid (mLayWall nm cs L k = (lwL cs L k, 0)) := Lib.hid (by rw [HM.out, if_pos HT.out])
      have HKL : Hid ((lwL cs L k).length = k) := Lib.hid (lwL_len _ _ _)
      go_wp2_with fail
      go_ret2
      rw [HF.out]
      refine ⟨some ⟨g, 0, none⟩, cq, by rw [HKL.out]; rfl, ?_, ext_trans HB.out HBB.out⟩
      rw [HKL.out]
      exact HO.out.mono HB.out.size
end Go.Proofs.YtfgopboddkhckaaGreatDoor
namespace Go.Proofs.YtfgopboddkhckaaGreatDoor
open Go.ChangeShapes Go.WideShapes Go.ChangeAt Go.RowKit Go.Sort Go.Joins
set_option linter.unusedVariables false
set_option maxRecDepth 100000

theorem wpList_append_str4 {w0 : World} {ops : Array Oper} {rest : List Oper} {o : Oper} {a : Act} {Q : Exit → Act → World → Prop} (hgd : o.guard = none) (s x : Operand)
    (ho : o.op = .call { callee := .builtin .append, args := #[s, x], argTypes := #[29, 29] })
    (base : Nat) (v : Value) (l : List ByteArray) (n : ByteArray) (hs : a.eval s = v) (hx : a.eval x = .slice (some ⟨w0.heap.size, 0, none⟩) 1 1) (hO : OStr w0 base v l)
    (hl : l.length ≤ 1099511627776) (hbase : base ≤ w0.heap.size)
    (h : ∀ g cap w', OStr w' base (.slice (some ⟨g, 0, none⟩) (l.length + 1) cap) (l ++ [n]) → Chg (BI v) w0 w' → w0.heap.size < w'.heap.size → (BI v g ∨ w0.heap.size ≤ g) → wpList Tryz.prog ops Q rest (a.put o.dst (.slice (some ⟨g, 0, none⟩) (l.length + 1) cap)) w') :
    wpList Tryz.prog ops Q (o :: rest) a (w0.alloc (.cells #[.string n] 9)) := by
  obtain ⟨i0, hi, hz0, hz1, hz2⟩ := info_parts info_str
  refine wpList_append_lies _ hgd s x _ ho base 9 i0 (.string ⟨#[]⟩) 1 16 Tryz.underlying29 hi hz0 hz1 hz2 rfl (by omega) v l.length (l.map Value.string) hs (World.ownsRow.alloc hO _)
    ⟨w0.heap.size, 0, none⟩ 1 1 [.string n] hx rfl (cell_one_new _ _ _) (by simp [Value.oneCell']) (by omega) (by unfold maxLen; omega) (by omega) (by simp; omega) (w0.heap.size + 1) (by simp) ?_
  intro g cap w1 hown hgrow hat hlt
  refine h g cap w1 ?_ ((Chg.of_below (ext_alloc1 _ _) _).trans (Chg.of_grown hgrow)) (by have := hgrow.size; simp at this; omega) (hat.elim (fun h => .inl h) fun h => .inr (by omega))
  unfold OStr
  simpa using hown
theorem wpList_append_rs4 {w : World} {ops : Array Oper} {rest : List Oper} {o : Oper} {a : Act} {Q : Exit → Act → World → Prop} (hgd : o.guard = none) (s x : Operand)
    (ho : o.op = .call { callee := .builtin .append, args := #[s, x], argTypes := #[29, 29] })
    (base : Nat) (v v2 : Value) (xs ys : List ByteArray) (hs : a.eval s = v) (hx : a.eval x = v2) (hO : OStr w base v xs) (hR : RStr w v2 ys)
    (hl : xs.length ≤ 1099511627776) (hl2 : ys.length ≤ 1099511627776) (hbase : base ≤ w.heap.size)
    (h : ∀ A c w', OStr w' base (.slice A (xs.length + ys.length) c) (xs ++ ys) → Chg (BI v) w w' → (∀ j, BI (.slice A (xs.length + ys.length) c) j → BI v j ∨ w.heap.size ≤ j) → wpList Tryz.prog ops Q rest (a.put o.dst (.slice A (xs.length + ys.length) c)) w') : wpList Tryz.prog ops Q (o :: rest) a w := by
  obtain ⟨i0, hi, hz0, hz1, hz2⟩ := info_parts info_str
  have hR' := hR
  obtain ⟨_, A, c, rfl, _⟩ := hR'
  refine wpList_append_rd hgd s x _ ho base 9 i0 (.string ⟨#[]⟩) 1 16 Tryz.underlying29 hi hz0 hz1 hz2 rfl (by omega) v xs.length (xs.map Value.string) hs hO A ys.length c (ys.map Value.string) hx hR (by simp [Value.oneCell']) (by unfold maxLen; omega) (by omega) hbase ?_
  intro v' w' hown hgrow hat
  have hO' : OStr w' base v' (xs ++ ys) := by unfold OStr; simpa using hown
  have hO2 := hO'
  obtain ⟨_, A', c', rfl, _⟩ := hO2.rd
  simp only [List.length_append] at hO' hat ⊢
  refine h A' c' w' hO' (Chg.of_grown hgrow) fun j hj => ?_
  rcases hat with hat | hat
  · left; unfold BI at *; rw [hat] at hj; exact hj
  · right; unfold BI at hj; rw [hat] at hj; obtain rfl := Option.some.inj hj; exact Nat.le_refl _

/-- The box of the reference's console at q: the state, the lines said, numbers and texts. -/
structure SX (W : World) (B0 q : Nat) (d : DK) (A : Option Addr) (c : Nat) (B : Option Addr) (e : Nat) (O : Option Addr) (co : Nat) (out : List ByteArray) (N T : Value) : Prop where
  bx : DB W B0 q d A c B e
  k8 : W.cell? ⟨q, 8, none⟩ = some (.slice O out.length co)
  k9 : W.cell? ⟨q, 9, none⟩ = some N
  k10 : W.cell? ⟨q, 10, none⟩ = some T
  own : OStr W B0 (.slice O out.length co) out
  ap : ∀ j, BI (.slice O out.length co) j → j ≠ q ∧ ¬ BI (.slice A d.cs.length c) j ∧ ¬ BI (.slice B d.wall.length e) j
section
variable {W W' : World} {B0 q : Nat} {d : DK} {A : Option Addr} {c : Nat} {B : Option Addr} {e : Nat} {O : Option Addr} {co : Nat} {out : List ByteArray} {N T : Value}
theorem SX.lt (h : SX W B0 q d A c B e O co out N T) : q < W.heap.size := h.bx.lt
theorem SX.ext (h : SX W B0 q d A c B e O co out N T) (hb : Below W.heap.size W W') : SX W' B0 q d A c B e O co out N T :=
  ⟨h.bx.ext hb, cell_keep h.k8 hb, cell_keep h.k9 hb, cell_keep h.k10 hb, h.own.ext hb, h.ap⟩
theorem PDK.to {p : Nat} (h : PDK W p d A c B e) {W' : World} (hk : ∀ j v, j < 8 → W.cell? ⟨p, j, none⟩ = some v → W'.cell? ⟨p, j, none⟩ = some v) : PDK W' p d A c B e :=
  ⟨hk _ _ (by omega) h.k0, hk _ _ (by omega) h.k1, hk _ _ (by omega) h.k2, hk _ _ (by omega) h.k3, hk _ _ (by omega) h.k4, hk _ _ (by omega) h.k5, hk _ _ (by omega) h.k6, hk _ _ (by omega) h.k7⟩
/-- One cell of the box turned, behind a change of the lines. -/
theorem SX.put8 (h : SX W B0 q d A c B e O co out N T) {W' : World} (hc : Chg (BI (.slice O out.length co)) W W') {O' : Option Addr} {co' : Nat} {out' : List ByteArray} (hO : OStr W' B0 (.slice O' out'.length co') out')
    (hg : ∀ j, BI (.slice O' out'.length co') j → BI (.slice O out.length co) j ∨ W.heap.size ≤ j) : SX (W'.setCell ⟨q, 8, none⟩ (.slice O' out'.length co')) B0 q d A c B e O' co' out' N T := by
  have hq : ¬ BI (.slice O out.length co) q := fun hh => (h.ap q hh).1 rfl
  have hlt := h.lt
  have hfar : ∀ j, BI (.slice O' out'.length co') j → j ≠ q ∧ ¬ BI (.slice A d.cs.length c) j ∧ ¬ BI (.slice B d.wall.length e) j := fun j hj => by
    rcases hg j hj with h1 | h1
    · exact h.ap j h1
    · exact ⟨by omega, fun hk => by have := (h.bx.own.1.ge j hk).2; omega, fun hk => by have := (h.bx.own.2.1.ge j hk).2; omega⟩
  have hA : ∀ k, BI (.slice A d.cs.length c) k → ¬ BI (.slice O out.length co) k := fun k hk h2 => (h.ap k h2).2.1 hk
  have hB : ∀ k, BI (.slice B d.wall.length e) k → ¬ BI (.slice O out.length co) k := fun k hk h2 => (h.ap k h2).2.2 hk
  have hD := h.bx.chg hc hq hA hB
  have hs : Chg (fun k => k = q) W' (W'.setCell ⟨q, 8, none⟩ (.slice O' out'.length co')) := Chg.setCell (S := fun k => k = q) _ (p := ⟨q, 8, none⟩) rfl _
  have k9 := hc.cell h.k9 hq
  have k10 := hc.cell h.k10 hq
  have k8 := hc.cell h.k8 hq
  have hne : ∀ j, j < 8 → (⟨q, j, none⟩ : Addr) ≠ ⟨q, 8, none⟩ := fun j hj e => by injection e with _ e2; omega
  have hP : PDK (W'.setCell ⟨q, 8, none⟩ (.slice O' out'.length co')) q d A c B e := hD.cells.to fun j v hj hv => (World.cell?_setCell_other _ _ _ _ (fun e => hne j hj e.symm)).trans hv
  have hDB : DB (W'.setCell ⟨q, 8, none⟩ (.slice O' out'.length co')) B0 q d A c B e := ⟨hP, ⟨hD.own.1.chg hs (fun k hk => hD.fa k hk), hD.own.2.1.chg hs (fun k hk => hD.fb k hk), hD.own.2.2⟩, hD.fa, hD.fb, fun j => by rw [World.frozen?_setCell]; exact hD.fz j, hD.ge⟩
  have h9 : (W'.setCell ⟨q, 8, none⟩ (.slice O' out'.length co')).cell? ⟨q, 9, none⟩ = some N := (World.cell?_setCell_other _ _ _ _ (by simp)).trans k9
  have h10 : (W'.setCell ⟨q, 8, none⟩ (.slice O' out'.length co')).cell? ⟨q, 10, none⟩ = some T := (World.cell?_setCell_other _ _ _ _ (by simp)).trans k10
  have h8 : (W'.setCell ⟨q, 8, none⟩ (.slice O' out'.length co')).cell? ⟨q, 8, none⟩ = some (.slice O' out'.length co') := World.cell?_setCell_same _ _ _ k8
  have h5 : OStr (W'.setCell ⟨q, 8, none⟩ (.slice O' out'.length co')) B0 (.slice O' out'.length co') out' := hO.chg hs (fun k hk => (hfar k hk).1)
  exact ⟨hDB, h8, h9, h10, h5, hfar⟩
end
/-- What a step leaves: the state d, the lines out. -/
def SP (W : World) (B0 q : Nat) (O : Option Addr) (n co : Nat) (d : DK) (out : List ByteArray) (N T : Value) : World → Prop := fun W' => ∃ A c B e O' co', SX W' B0 q d A c B e O' co' out N T ∧ Chg (fun k => k = q ∨ BI (.slice O n co) k) W W' ∧ (∀ j, BI (.slice O' out.length co') j → BI (.slice O n co) j ∨ W.heap.size ≤ j)
theorem SP.pre {W W1 W' : World} {B0 q : Nat} {O : Option Addr} {n co : Nat} {d : DK} {out : List ByteArray} {N T : Value} (h : SP W1 B0 q O n co d out N T W') (hc : Chg (fun k => k = q) W W1) : SP W B0 q O n co d out N T W' := by
  obtain ⟨A, c, B, e, O', co', h1, h2, h3⟩ := h
  have hs := hc.size
  exact ⟨A, c, B, e, O', co', h1, (hc.mono (fun k hk => .inl hk)).trans h2, fun j hj => (h3 j hj).imp id fun h => by omega⟩
set_option maxHeartbeats 1600000 in
theorem spec_say (W : World) (B0 q : Nat) (d : DK) (A : Option Addr) (c : Nat) (B : Option Addr) (e : Nat) (O : Option Addr) (co : Nat) (out : List ByteArray) (N T : Value) (h : SX W B0 q d A c B e O co out N T) (t : ByteArray) (hl : out.length ≤ 1073741824) :
    Calls Tryz.prog 27 #[.pointer (some ⟨q, 0, none⟩), .string t] W (fun e' W' => e' = .returned (.tuple #[]) ∧ SP W B0 q O out.length co d (out ++ [t]) N T W') := by
  have HX := Lib.hid h
  have hlt := h.lt
  have k8 := h.k8
  have hfz := h.bx.fz 8
  have hge : B0 ≤ W.heap.size := by have := h.bx.ge; omega
  clear h
  go_enter Tryz.func27, Tryz.ntmps27
  go_wp2_with (at_builtin; refine wpList_append_str4 rfl _ _ rfl B0 (.slice O out.length co) out t rfl rfl HX.out.own (by omega) hge ?_; intro g cap w' hO hc hlt2 hg; (have k8' := hc.cell k8 (fun hh => (HX.out.ap q hh).1 rfl)); (have hfz' : w'.frozen? ⟨q, 8, none⟩ = false := by rw [World.frozen?_of_block (hc.block q hlt (fun hh => (HX.out.ap q hh).1 rfl))]; exact hfz))
  refine bodyPost_end (v := .tuple #[]) (by simp [results, Tryz.results27, go_sem]) rfl ?_
  refine ⟨rfl, A, c, B, e, some ⟨g, 0, none⟩, cap, ?_⟩
  have hO2 : OStr w' B0 (.slice (some ⟨g, 0, none⟩) (out ++ [t]).length cap) (out ++ [t]) := by rw [List.length_append]; exact hO
  have hgj : ∀ j, BI (.slice (some ⟨g, 0, none⟩) (out ++ [t]).length cap) j → BI (.slice O out.length co) j ∨ W.heap.size ≤ j := fun j hj => by obtain rfl : g = j := Option.some.inj hj; exact hg
  have hX := HX.out.put8 hc hO2 hgj
  rw [List.length_append] at hX
  refine ⟨hX, (hc.mono fun k hk => .inr hk).trans (Chg.setCell (S := fun k => k = q ∨ BI (.slice O out.length co) k) _ (p := ⟨q, 8, none⟩) (.inl rfl) _), hgj⟩
set_option maxHeartbeats 1600000 in
theorem spec_report0 (W : World) (p : Value) : Calls Tryz.prog 25 #[p, .int .i64 0] W (fun e' W' => e' = .returned (.bool false) ∧ W' = W) := by
  go_enter Tryz.func25, Tryz.ntmps25
  go_wp2_with fail
  go_ret
  exact ⟨rfl, rfl⟩
theorem spec_report1 (W : World) (B0 q : Nat) (d : DK) (A : Option Addr) (c : Nat) (B : Option Addr) (e : Nat) (O : Option Addr) (co : Nat) (out : List ByteArray) (N T : Value) (h : SX W B0 q d A c B e O co out N T) (x : Int) (hx : x ≠ 0) (h0 : 0 ≤ x) (h1 : x ≤ 10) (hl : out.length ≤ 1073741824) :
    Calls Tryz.prog 25 #[.pointer (some ⟨q, 0, none⟩), .int .i64 x] W (fun e' W' => e' = .returned (.bool true) ∧ SP W B0 q O out.length co d (out ++ [erT x]) N T W') := by
  have HX := Lib.hid h
  have HCN := Lib.hid (fun W => spec_CodeName x h0 h1 W)
  have hb : (x == 0) = false := by simpa using hx
  have hcz := cnT_size x
  have c1 : ¬ 9223372036854775807 < 6 + (cnT x).size := by omega
  have HER : Hid (erT x = ⟨#[101, 114, 114, 111, 114, 32]⟩ ++ cnT x) := Lib.hid rfl
  obtain ⟨ct, hct⟩ : ∃ y, cnT x = y := ⟨_, rfl⟩
  rw [hct] at HCN c1 HER
  clear hct hcz h
  go_enter Tryz.func25, Tryz.ntmps25
  go_wp2_with fail
  refine (show Calls _ _ _ _ _ from HCN.out _).mono ?_
  rintro e' w1 ⟨rfl, hb1⟩
  have hX1 := HX.out.ext hb1
  have HS := Lib.hid (spec_say w1 B0 q d A c B e O co out N T hX1 (erT x) hl)
  rw [HER.out] at HS
  have HB1 := Lib.hid hb1
  clear hX1 hb1
  go_wp2_with fail
  refine (show Calls _ _ _ _ _ from HS.out).mono ?_
  rintro e' w2 ⟨rfl, hp⟩
  have HP := Lib.hid (hp.pre (Chg.of_below HB1.out _))
  clear hp
  go_wp2_with fail
  go_ret
  exact ⟨rfl, by rw [HER.out]; exact HP.out⟩
end Go.Proofs.YtfgopboddkhckaaGreatDoor
namespace Go.Proofs.YtfgopboddkhckaaGreatDoor
open Go.ChangeShapes Go.WideShapes Go.ChangeAt Go.RowKit Go.Sort Go.Joins
set_option linter.unusedVariables false
set_option maxRecDepth 100000

theorem chg_more {S S' : Nat → Prop} {w a b : World} (h : Chg S w a) (k : Chg S' a b) (hS : ∀ j, S' j → S j ∨ w.heap.size ≤ j) : Chg S w b :=
  ⟨k.os.trans h.os, k.tape.trans h.tape, k.output.trans h.output, Nat.le_trans h.size k.size, fun i hi hn => (k.block i (Nat.lt_of_lt_of_le hi h.size) (fun hs => (hS i hs).elim hn (fun h2 => by omega))).trans (h.block i hi hn)⟩
theorem SP.of {W W1 W' : World} {B0 q : Nat} {O O1 : Option Addr} {n co n1 co1 : Nat} {d : DK} {out : List ByteArray} {N T : Value} (h : SP W1 B0 q O1 n1 co1 d out N T W') (hc : Chg (fun k => k = q ∨ BI (.slice O n co) k) W W1)
    (ha : ∀ j, BI (.slice O1 n1 co1) j → BI (.slice O n co) j ∨ W.heap.size ≤ j) : SP W B0 q O n co d out N T W' := by
  obtain ⟨A, c, B, e, O', co', h1, h2, h3⟩ := h
  have hs := hc.size
  refine ⟨A, c, B, e, O', co', h1, chg_more hc h2 fun j hj => ?_, fun j hj => ?_⟩
  · rcases hj with hj | hj
    · exact .inl (.inl hj)
    · exact (ha j hj).imp (fun h => .inr h) id
  · rcases h3 j hj with h4 | h4
    · exact ha j h4
    · right; omega
theorem SP.low {W W1 W' : World} {B0 q : Nat} {O : Option Addr} {n co : Nat} {d : DK} {out : List ByteArray} {N T : Value} (h : SP W1 B0 q O n co d out N T W') (hb : Below W.heap.size W W1) : SP W B0 q O n co d out N T W' := h.pre (Chg.of_below hb _)

/-! ### Numbers between blanks -/
theorem take_succ_gi {xs : List Int} {k : Nat} (h : k < xs.length) : xs.take (k + 1) = xs.take k ++ [gi xs k] := by
  rw [List.take_add_one, List.getElem?_eq_getElem h]
  unfold gi
  rw [List.getD_eq_getElem?_getD, List.getElem?_eq_getElem h]
  rfl
theorem nmT_one (n : Int) : nmT [n] = itb n := rfl
theorem nmT_snoc {xs : List Int} (h : xs ≠ []) (n : Int) : nmT (xs ++ [n]) = nmT xs ++ ⟨#[32]⟩ ++ itb n := by
  unfold nmT
  rw [List.map_append, List.map_singleton, jnL_snoc 32 _ _ (by simpa using h)]
  apply ba_ext
  simp [bsq, itb]
set_option maxHeartbeats 1600000 in
theorem spec_list (W : World) (B0 q : Nat) (d : DK) (A : Option Addr) (c : Nat) (B : Option Addr) (e : Nat) (O : Option Addr) (co : Nat) (out : List ByteArray) (N T : Value) (h : SX W B0 q d A c B e O co out N T) (Al : Option Addr) (cl : Nat) (ls : List ByteArray) (hR : RStr W (.slice Al ls.length cl) ls) (hl : out.length ≤ 1000000000) (hls : ls.length ≤ 1048576) :
    Calls Tryz.prog 127 #[.pointer (some ⟨q, 0, none⟩), .slice Al ls.length cl] W (fun e' W' => e' = .returned (.tuple #[]) ∧ SP W B0 q O out.length co d (out ++ (ls ++ [okT ls.length])) N T W') := by
  have HX := Lib.hid h
  have HR := Lib.hid hR
  have hlt := h.lt
  have k8 := h.k8
  have hfz := h.bx.fz 8
  have hge : B0 ≤ W.heap.size := by have := h.bx.ge; omega
  have hz := itb_size ls.length (by omega) (by omega)
  have c1 : ¬ 9223372036854775807 < 3 + (itb ls.length).size := by omega
  have HOK : Hid (okT ls.length = ⟨#[111, 107, 32]⟩ ++ itb ls.length) := Lib.hid rfl
  have HD := Lib.hid (fun w => spec_Dec ls.length (by omega) (by omega) w)
  obtain ⟨tx, htx⟩ : ∃ x, itb ls.length = x := ⟨_, rfl⟩
  rw [htx] at HOK HD c1
  clear h hR hz htx
  go_enter Tryz.func127, Tryz.ntmps127
  go_wp2_with (at_builtin; refine wpList_append_rs4 rfl _ _ rfl B0 (.slice O out.length co) (.slice Al ls.length cl) out ls rfl rfl HX.out.own HR.out (by omega) (by omega) hge ?_; intro A1 c1 w' hO hc hg; (have k8' := hc.cell k8 (fun hh => (HX.out.ap q hh).1 rfl)); (have hfz' : w'.frozen? ⟨q, 8, none⟩ = false := by rw [World.frozen?_of_block (hc.block q hlt (fun hh => (HX.out.ap q hh).1 rfl))]; exact hfz))
  have hO2 : OStr w' B0 (.slice A1 (out ++ ls).length c1) (out ++ ls) := by rw [List.length_append]; exact hO
  have hgj : ∀ j, BI (.slice A1 (out ++ ls).length c1) j → BI (.slice O out.length co) j ∨ W.heap.size ≤ j := by rw [List.length_append]; exact hg
  have HX2 := Lib.hid (HX.out.put8 hc hO2 hgj)
  have HC2 := Lib.hid ((hc.mono fun k hk => Or.inr hk).trans (Chg.setCell (S := fun k => k = q ∨ BI (.slice O out.length co) k) _ (p := ⟨q, 8, none⟩) (.inl rfl) (.slice A1 (out ++ ls).length c1)))
  have HG2 := Lib.hid hgj
  have hle : (out ++ ls).length = out.length + ls.length := List.length_append
  have HS := Lib.hid (fun w1 (hb : Below _ _ w1) => spec_say w1 B0 q d A c B e A1 c1 (out ++ ls) N T (HX2.out.ext hb) (okT ls.length) (by omega))
  rw [hle] at HX2 HC2 HG2 HS
  rw [HOK.out] at HS
  clear hle hO2 hgj hO hc hg k8 k8' hfz hfz'
  refine (show Calls _ _ _ _ _ from HD.out _).mono ?_
  rintro e' w2 ⟨rfl, hb2⟩
  have HB2 := Lib.hid hb2
  clear hb2
  go_wp2_with fail
  refine (show Calls _ _ _ _ _ from HS.out _ HB2.out).mono ?_
  rintro e' w3 ⟨rfl, hp⟩
  have HP := Lib.hid ((hp.low HB2.out).of HC2.out HG2.out)
  clear hp
  go_wp2_with fail
  refine bodyPost_end (v := .tuple #[]) (by simp [results, Tryz.results127, go_sem]) rfl ⟨rfl, ?_⟩
  rw [HOK.out, ← List.append_assoc]
  exact HP.out
set_option maxHeartbeats 1600000 in
theorem spec_row (W : World) (B0 q : Nat) (d : DK) (A : Option Addr) (c : Nat) (B : Option Addr) (e : Nat) (O : Option Addr) (co : Nat) (out : List ByteArray) (N T : Value) (h : SX W B0 q d A c B e O co out N T) (Al : Option Addr) (cl : Nat) (xs : List Int) (hR : RI W (.slice Al xs.length cl) xs) (hl : out.length ≤ 1000000000) (hls : xs.length ≤ 1048576) (hx : ∀ k, k < xs.length → -9223372036854775808 ≤ gi xs k ∧ gi xs k ≤ 9223372036854775807) :
    Calls Tryz.prog 117 #[.pointer (some ⟨q, 0, none⟩), .slice Al xs.length cl] W (fun e' W' => e' = .returned (.tuple #[]) ∧ SP W B0 q O out.length co d (out ++ [nmT xs]) N T W') := by
  have HX := Lib.hid h
  have HR := Lib.hid hR
  have HXB := Lib.hid hx
  have HZ : Hid (∀ k, k ≤ xs.length → (nmT (xs.take k)).size ≤ 21 * xs.length) := Lib.hid fun k hk => by
    have h1 := nmT_size (xs := xs.take k) (fun x hx2 => by
      obtain ⟨j, hj, e⟩ := List.getElem_of_mem (List.mem_of_mem_take hx2)
      have := hx j hj
      have e2 : gi xs j = x := by unfold gi; rw [List.getD_eq_getElem?_getD, List.getElem?_eq_getElem hj, ← e]; rfl
      omega)
    have h2 : (xs.take k).length ≤ xs.length := by rw [List.length_take]; omega
    have h3 : 21 * (xs.take k).length ≤ 21 * xs.length := Nat.mul_le_mul_left _ h2
    omega
  clear h hR hx
  go_enter Tryz.func117, Tryz.ntmps117
  go_wp2_with fail
  go_loopw [4, 5] (fun u i wr => ∃ (k : Nat) (acc : ByteArray), k ≤ xs.length ∧ i = .int .i64 k ∧ u = .string acc ∧ Hid (acc = nmT (xs.take k)) ∧ Hid (Below W.heap.size W wr)) (fun _ i _ => xs.length - (intOf i).toNat)
  case atStart => exact ⟨0, ⟨#[]⟩, Nat.zero_le _, rfl, rfl, Lib.hid rfl, Lib.hid (ext_refl _)⟩
  case round =>
    obtain ⟨k, acc, hk, rfl, rfl, HACC, HB⟩ := hrel
    have e1 : (0 : Int) ≤ k := by omega
    by_cases hlt : k < xs.length
    · have e2 : (k : Int) < xs.length := by omega
      obtain ⟨ad, rfl, _, hc⟩ := (HR.out.ext HB.out).at2 hlt
      have wl := hc k hlt
      have hb1 := HXB.out k hlt
      have hz1 := HZ.out k hk
      rw [← HACC.out] at hz1
      obtain ⟨x, hxk⟩ : ∃ x, gi xs k = x := ⟨_, rfl⟩
      have HXK : Hid (xs.take (k + 1) = xs.take k ++ [x]) := Lib.hid (by rw [← hxk]; exact take_succ_gi hlt)
      rw [hxk] at wl hb1
      have HD := Lib.hid (fun w => spec_Dec x hb1.1 hb1.2 w)
      have hzx := itb_size x hb1.1 hb1.2
      obtain ⟨tx, htx⟩ : ∃ y, itb x = y := ⟨_, rfl⟩
      have HTX := Lib.hid htx
      rw [htx] at HD hzx
      clear htx hc hb1 hxk
      by_cases hk0 : k = 0
      · have HNEW : Hid (acc ++ tx = nmT (xs.take (k + 1))) := Lib.hid (by
          rw [HXK.out, HACC.out, hk0, List.take_zero, List.nil_append, nmT_one, ← HTX.out]
          apply ba_ext; rfl)
        have e3 : ¬ (0 : Int) < k := by omega
        have c1 : ¬ 9223372036854775807 < acc.size + tx.size := by omega
        clear hk0 hz1 hzx
        go_wp2_with fail
        refine (show Calls _ _ _ _ _ from HD.out _).mono ?_
        rintro e' w2 ⟨rfl, hb2⟩
        have HB2 := Lib.hid (ext_trans HB.out hb2)
        clear hb2
        go_wp2_with fail
        go_roundw
        case rel => exact ⟨k + 1, acc ++ tx, hlt, by go_num, rfl, HNEW, HB2⟩
        case measure => simp [intOf]; omega
      · have HNEW : Hid (acc ++ ⟨#[32]⟩ ++ tx = nmT (xs.take (k + 1))) := Lib.hid (by
          rw [HXK.out, HACC.out, nmT_snoc (by intro h; have := congrArg List.length h; rw [List.length_take, List.length_nil] at this; omega), ← HTX.out])
        have e3 : (0 : Int) < k := by omega
        have c0 : ¬ 9223372036854775807 < acc.size + 1 := by omega
        have c1 : ¬ 9223372036854775807 < acc.size + 1 + tx.size := by omega
        clear hk0 hz1 hzx
        go_wp2_with fail
        refine (show Calls _ _ _ _ _ from HD.out _).mono ?_
        rintro e' w2 ⟨rfl, hb2⟩
        have HB2 := Lib.hid (ext_trans HB.out hb2)
        clear hb2
        go_wp2_with fail
        go_roundw
        case rel => exact ⟨k + 1, acc ++ ⟨#[32]⟩ ++ tx, hlt, by go_num, rfl, HNEW, HB2⟩
        case measure => simp [intOf]; omega
    · have e2 : ¬ (k : Int) < xs.length := by omega
      have HF : Hid (acc = nmT xs) := Lib.hid (by have : k = xs.length := by omega
                                                  rw [HACC.out, this, List.take_length])
      have HS := Lib.hid (fun w1 (hb : Below _ _ w1) => spec_say w1 B0 q d A c B e O co out N T (HX.out.ext hb) acc (by omega))
      go_wp2_with fail
      refine (show Calls _ _ _ _ _ from HS.out _ HB.out).mono ?_
      rintro e' w3 ⟨rfl, hp⟩
      have HP := Lib.hid (hp.low HB.out)
      clear hp
      go_wp2_with fail
      refine bodyPost_end (v := .tuple #[]) (by simp [results, Tryz.results117, go_sem]) rfl ⟨rfl, ?_⟩
      rw [← HF.out]
      exact HP.out
end Go.Proofs.YtfgopboddkhckaaGreatDoor
namespace Go.Proofs.YtfgopboddkhckaaGreatDoor
open Go.ChangeShapes Go.WideShapes Go.ChangeAt Go.RowKit Go.Sort Go.Joins
set_option linter.unusedVariables false
set_option maxRecDepth 100000

set_option maxHeartbeats 1600000 in
theorem spec_perps (s : ByteArray) (h1 : 1 ≤ s.size) (hs : s.size ≤ 60) (w : World) :
    Calls Tryz.prog 223 #[.string s] w (RetO1 (perp s) w) := by
  obtain ⟨n, hn⟩ : ∃ n, s.size = n + 1 := ⟨s.size - 1, by omega⟩
  have HN : Hid (s.size - 1 = n) := Lib.hid (by omega)
  have HPL : Hid ((perp s).length = n) := Lib.hid (by rw [perp_len, hn]; rfl)
  have hn1 : (s.size : Int) - 1 = n := by omega
  have hn2 : n ≤ 59 := by omega
  have HSZ := Lib.hid hn
  clear h1 hs hn
  go_enter Tryz.func223, Tryz.ntmps223
  go_wp2_with fail
  go_loopw [3, 4, 5] (fun u a i wr => ∃ (k g cp : Nat), k ≤ n ∧ u = .slice (some ⟨g, 0, none⟩) k cp ∧ a = .int .i64 (lenQ s k) ∧ i = .int .i64 k ∧ Hid (OI wr w.heap.size (.slice (some ⟨g, 0, none⟩) k cp) ((perp s).take k)) ∧ Hid (Below w.heap.size w wr)) (fun _ _ i _ => n - (intOf i).toNat)
  case atStart => exact ⟨0, w.heap.size, 0, Nat.zero_le _, rfl, rfl, rfl, Lib.hid (oi_lit0 _ _ (Nat.le_refl _)), Lib.hid (ext_alloc1 _ _)⟩
  case round =>
    obtain ⟨k, g, cp, hk, rfl, rfl, rfl, HO, HB⟩ := hrel
    have e0 : (0:Int) ≤ k := by omega
    have hsz := HB.out.size
    by_cases hlt : k < n
    · have hlt2 : k < s.size := by have := HSZ.out; omega
      have e1 : (k:Int) < n := by omega
      have e2 : (k:Int) < s.size := by omega
      have e3 : (k:Int) + 1 < s.size := by omega
      have hy := byt_eq s k hlt2
      have hyb := byt_bd s k
      have hb1 := lenQ_bd s k
      have hb2 := qC_bd (byt s k)
      have HS : Hid (lenQ s (k + 1) = lenQ s k + qC (byt s k)) := Lib.hid rfl
      have HTK : Hid ((perp s).take (k + 1) = (perp s).take k ++ [lenQ s (k + 1)]) := Lib.hid (perp_take (by rw [HN.out]; exact hlt))
      have HKL : Hid (((perp s).take k).length = k) := Lib.hid (by rw [List.length_take, HPL.out]; omega)
      obtain ⟨y, hyy⟩ : ∃ y, byt s k = y := ⟨_, rfl⟩
      rw [hyy] at hy hyb HS hb2
      clear hyy
      have HC := Lib.hid (fun w => spec_quarters y hyb.1 hyb.2 w)
      obtain ⟨z, hzz⟩ : ∃ z, qC y = z := ⟨_, rfl⟩
      rw [hzz] at HC HS hb2
      obtain ⟨t, htt⟩ : ∃ t, lenQ s k = t := ⟨_, rfl⟩
      rw [htt] at HS hb1
      rw [HS.out] at HTK
      rw [htt]
      obtain ⟨ls, hls⟩ : ∃ ls, (perp s).take k = ls := ⟨_, rfl⟩
      rw [hls] at HO HTK HKL
      clear hzz htt hyb hls
      go_wp2_with fail
      refine (show Calls _ _ _ _ _ from HC.out _).mono ?_
      rintro e w1 ⟨rfl, rfl⟩
      go_wp2_with (at_builtin; refine wpList_append_i rfl _ _ rfl w.heap.size (.slice (some ⟨g, 0, none⟩) k cp) ls (t + z) rfl rfl HO.out (by rw [HKL.out]; omega) hsz ?_; intro g2 cap w4 hO4 hg4 hlt4)
      go_roundw
      case rel =>
        refine ⟨k + 1, g2, cap, by omega, by rw [HKL.out], by rw [HS.out], by go_num, Lib.hid ?_, Lib.hid (Chg.ext HB.out hg4 (fun j hj => (HO.out.ge j hj).1))⟩
        rw [HTK.out]
        rw [HKL.out] at hO4
        exact hO4
      case measure => simp [intOf]; omega
    · obtain rfl : k = n := by omega
      have e1 : ¬ (k:Int) < k := by omega
      have e3 : ¬ (k:Int) + 1 < s.size := by have := HSZ.out; omega
      go_wp2_with fail
      go_ret
      refine ⟨some ⟨g, 0, none⟩, cp, by rw [HPL.out]; rfl, ?_, HB.out⟩
      rw [HPL.out]
      have h := HO.out
      rwa [List.take_of_length_le (by rw [HPL.out]; exact Nat.le_refl _)] at h
theorem spec_sizeI (n : Int) (h1 : -1000000 ≤ n) (w : World) : Calls Tryz.prog 224 #[.int .i64 n] w (RetP (.int .i64 (if n < 0 then -n else n)) w) := by
  by_cases h : n < 0
  · rw [if_pos h]
    go_enter Tryz.func224, Tryz.ntmps224
    go_wp2_with fail
    go_ret
    exact ⟨rfl, rfl⟩
  · rw [if_neg h]
    go_enter Tryz.func224, Tryz.ntmps224
    go_wp2_with fail
    go_ret
    exact ⟨rfl, rfl⟩
theorem apt_size (a b : Int) : (if a - b < 0 then -(a - b) else a - b) = apt a b := by unfold apt; split <;> split <;> omega
theorem spec_sizeD (a b : Int) (h1 : 0 ≤ a ∧ a ≤ 1000000) (h2 : 0 ≤ b ∧ b ≤ 1000000) (w : World) : Calls Tryz.prog 224 #[.int .i64 (a - b)] w (RetP (.int .i64 (apt a b)) w) := by
  rw [← apt_size]; exact spec_sizeI (a - b) (by omega) w
set_option maxHeartbeats 800000 in
theorem spec_wallC (A : Option Addr) (c : Nat) (l : List ByteArray) (lap : Int) (w : World) (hR : RStr w (.slice A l.length c) l) (hsm : SmWall l) :
    Calls Tryz.prog 175 #[.slice A l.length c, .int .i64 lap] w (Ret (.int .i64 (wlC l lap)) w) := by
  have HV : Hid (wlC l lap = if vW l then (if inB lap 1 4 then 0 else 2) else 1) := Lib.hid rfl
  have HF := Lib.hid (spec_okW A c l w hR hsm)
  obtain ⟨x, hx⟩ : ∃ x, vW l = x := ⟨_, rfl⟩
  obtain ⟨y, hy⟩ : ∃ y, inB lap 1 4 = y := ⟨_, rfl⟩
  have HI := Lib.hid (fun w => RetP.bool (spec_in lap 1 4 w) hy)
  rw [hx, hy] at HV
  rw [hx] at HF
  clear hx hy hR hsm
  go_enter Tryz.func175, Tryz.ntmps175
  go_wp2_with fail
  refine (show Calls _ _ _ _ _ from HF.out).mono ?_
  rintro e w1 ⟨rfl, hb⟩
  have HB := Lib.hid hb
  clear hb
  cases x
  · go_wp2_with fail
    go_ret
    exact ⟨ret_int (by rw [HV.out]; rfl), HB.out⟩
  go_wp2_with fail
  refine (show Calls _ _ _ _ _ from HI.out _).mono ?_
  rintro e w2 ⟨rfl, rfl⟩
  cases y
  · go_wp2_with fail
    go_ret
    exact ⟨ret_int (by rw [HV.out]; rfl), HB.out⟩
  go_wp2_with fail
  go_ret
  exact ⟨ret_int (by rw [HV.out]; rfl), HB.out⟩
end Go.Proofs.YtfgopboddkhckaaGreatDoor
