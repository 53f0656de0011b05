/-
  The law FnStock: its walk. Printed by mkstk.py.
-/
import Derived.Test.YthcckonkhbmcmaaStkP
import Derived.Test.YthcckonkhbmcmaaDrwO4
import Derived.Test.YthcckonkhbmcmaaF6
import Derived.Test.YthcckonkhbmcmaaInts
import Derived.Deep.DeepCutAuto
import Derived.BigQuiet
namespace Go.Proofs.Ythcckonkhbmcmaa
open Go.ChangeShapes Go.WideShapes Go.ChangeAt Go.RowKit Go.Sort
set_option linter.unusedVariables false
set_option maxRecDepth 100000

set_option maxHeartbeats 6400000 in
theorem law_FnStock (v0 : Value) (x0 : List UInt8) (w : World) (h0 : RB w v0 x0) :
    Calls Try.prog 3 #[v0] w (Ret (.bool true) w) := by
  have H0 := Lib.hid h0
  clear h0
  go_enter Try.func3, Try.ntmps3
  go_wp2_with fail
  refine (f6_big v0 x0 _ H0.out).mono ?_
  rintro e w1 ⟨rfl, rfl⟩
  cases hlg : decide (4096 < x0.length) with
  | true =>
    clear hlg
    go_wp2_with fail
    go_ret
    exact ⟨rfl, ext_refl _⟩
  | false =>
  clear hlg
  go_wp2_with fail
  refine (draw_ReserveStock v0 x0 _ (H0.out)).mono ?_
  rintro e w2 ⟨u, l1, stock, rfl, hO, hsm, hb⟩
  obtain ⟨A1, c1, rfl, hc11, hc12⟩ := hO.rd.open_
  have HA1 := Lib.hid hO.rd
  have HS1 := Lib.hid hsm
  have HB := Lib.hid hb
  clear hO hsm hb
  obtain ⟨M1, k1, hm1⟩ : ∃ a c, mReserveStock l1 stock = (a, c) := ⟨_, _, rfl⟩
  have HM1 := Lib.hid hm1
  have hI := impl_ReserveStock _ l1 stock w2 HA1.out HS1.out
  rw [hm1] at hI
  have HI := Lib.hid hI
  clear hI
  go_wp2_with fail
  refine (show Calls _ _ _ _ _ from HI.out).mono ?_
  rintro e w3 ⟨u, rfl, hO, hsm, hb⟩
  obtain ⟨B1, d1, rfl, hd1, hd2, _⟩ := hO.rd.open2
  have HR1 := Lib.hid hO.rd
  replace HA1 := Lib.hid (HA1.out.ext hb)
  replace HB := Lib.hid (ext_trans HB.out hb)
  clear HI hO hsm hb
  have hI := spec_ReserveStock _ l1 stock w3 HA1.out HS1.out
  rw [hm1] at hI
  have HI := Lib.hid hI
  clear hI
  go_wp2_with fail
  refine (show Calls _ _ _ _ _ from HI.out).mono ?_
  rintro e w4 ⟨u, rfl, hO, hsm, hb⟩
  obtain ⟨B2, d2, rfl, hd1, hd2, _⟩ := hO.rd.open2
  have HR2 := Lib.hid hO.rd
  replace HA1 := Lib.hid (HA1.out.ext hb)
  replace HR1 := Lib.hid (HR1.out.ext hb)
  replace HB := Lib.hid (ext_trans HB.out hb)
  clear HI hO hsm hb
  obtain ⟨M2, k2, hm2⟩ : ∃ a c, mOrdersByDue l1 = (a, c) := ⟨_, _, rfl⟩
  have HM2 := Lib.hid hm2
  have hI := impl_OrdersByDue _ l1 w4 HA1.out HS1.out
  rw [hm2] at hI
  have HI := Lib.hid hI
  clear hI
  go_wp2_with fail
  refine (show Calls _ _ _ _ _ from HI.out).mono ?_
  rintro e w5 ⟨u, rfl, hO, hsm, hb⟩
  obtain ⟨B3, d3, rfl, hd1, hd2, _⟩ := hO.rd.open2
  have HR3 := Lib.hid hO.rd
  replace HA1 := Lib.hid (HA1.out.ext hb)
  replace HR1 := Lib.hid (HR1.out.ext hb)
  replace HR2 := Lib.hid (HR2.out.ext hb)
  replace HB := Lib.hid (ext_trans HB.out hb)
  clear HI hO hsm hb
  have hI := spec_OrdersByDue _ l1 w5 HA1.out HS1.out
  rw [hm2] at hI
  have HI := Lib.hid hI
  clear hI
  go_wp2_with fail
  refine (show Calls _ _ _ _ _ from HI.out).mono ?_
  rintro e w6 ⟨u, rfl, hO, hsm, hb⟩
  obtain ⟨B4, d4, rfl, hd1, hd2, _⟩ := hO.rd.open2
  have HR4 := Lib.hid hO.rd
  replace HA1 := Lib.hid (HA1.out.ext hb)
  replace HR1 := Lib.hid (HR1.out.ext hb)
  replace HR2 := Lib.hid (HR2.out.ext hb)
  replace HR3 := Lib.hid (HR3.out.ext hb)
  replace HB := Lib.hid (ext_trans HB.out hb)
  clear HI hO hsm hb
  go_wp2_with fail
  refine (draw_StockNeeded v0 x0 _ (H0.out.ext HB.out)).mono ?_
  rintro e w7 ⟨u, l2, each, rfl, hO, hsm, hb⟩
  obtain ⟨A2, c2, rfl, hc21, hc22⟩ := hO.rd.open_
  have HA2 := Lib.hid hO.rd
  have HS2 := Lib.hid hsm
  replace HA1 := Lib.hid (HA1.out.ext hb)
  replace HR1 := Lib.hid (HR1.out.ext hb)
  replace HR2 := Lib.hid (HR2.out.ext hb)
  replace HR3 := Lib.hid (HR3.out.ext hb)
  replace HR4 := Lib.hid (HR4.out.ext hb)
  replace HB := Lib.hid (ext_trans HB.out hb)
  clear hO hsm hb
  obtain ⟨nd, k3, hm3⟩ : ∃ a c, mStockNeeded l2 each = (a, c) := ⟨_, _, rfl⟩
  have HM3 := Lib.hid hm3
  have hI := impl_StockNeeded _ l2 each w7 HA2.out HS2.out
  rw [hm3] at hI
  have HI := Lib.hid hI
  clear hI
  go_wp2_with fail
  refine (show Calls _ _ _ _ _ from HI.out).mono ?_
  rintro e w8 ⟨rfl, hb⟩
  replace HA1 := Lib.hid (HA1.out.ext hb)
  replace HR1 := Lib.hid (HR1.out.ext hb)
  replace HR2 := Lib.hid (HR2.out.ext hb)
  replace HR3 := Lib.hid (HR3.out.ext hb)
  replace HR4 := Lib.hid (HR4.out.ext hb)
  replace HA2 := Lib.hid (HA2.out.ext hb)
  replace HB := Lib.hid (ext_trans HB.out hb)
  clear HI hb
  have hI := spec_StockNeeded _ l2 each w8 HA2.out HS2.out
  rw [hm3] at hI
  have HI := Lib.hid hI
  clear hI
  go_wp2_with fail
  refine (show Calls _ _ _ _ _ from HI.out).mono ?_
  rintro e w9 ⟨rfl, hb⟩
  replace HA1 := Lib.hid (HA1.out.ext hb)
  replace HR1 := Lib.hid (HR1.out.ext hb)
  replace HR2 := Lib.hid (HR2.out.ext hb)
  replace HR3 := Lib.hid (HR3.out.ext hb)
  replace HR4 := Lib.hid (HR4.out.ext hb)
  replace HA2 := Lib.hid (HA2.out.ext hb)
  replace HB := Lib.hid (ext_trans HB.out hb)
  clear HI hb
  go_wp2_with fail
  refine (draw_FirstShort v0 x0 _ (H0.out.ext HB.out)).mono ?_
  rintro e w10 ⟨u, l3, has, made, rfl, hO, hsm, hb⟩
  obtain ⟨A3, c3, rfl, hc31, hc32⟩ := hO.rd.open_
  have HA3 := Lib.hid hO.rd
  have HS3 := Lib.hid hsm
  replace HA1 := Lib.hid (HA1.out.ext hb)
  replace HR1 := Lib.hid (HR1.out.ext hb)
  replace HR2 := Lib.hid (HR2.out.ext hb)
  replace HR3 := Lib.hid (HR3.out.ext hb)
  replace HR4 := Lib.hid (HR4.out.ext hb)
  replace HA2 := Lib.hid (HA2.out.ext hb)
  replace HB := Lib.hid (ext_trans HB.out hb)
  clear hO hsm hb
  obtain ⟨fd, fs, k4, hm4⟩ : ∃ a b c, mFirstShort l3 has made = (a, b, c) := ⟨_, _, _, rfl⟩
  have HM4 := Lib.hid hm4
  have hI := impl_FirstShort _ l3 has made w10 HA3.out HS3.out
  rw [hm4] at hI
  have HI := Lib.hid hI
  clear hI
  go_wp2_with fail
  refine (show Calls _ _ _ _ _ from HI.out).mono ?_
  rintro e w11 ⟨rfl, hb⟩
  replace HA1 := Lib.hid (HA1.out.ext hb)
  replace HR1 := Lib.hid (HR1.out.ext hb)
  replace HR2 := Lib.hid (HR2.out.ext hb)
  replace HR3 := Lib.hid (HR3.out.ext hb)
  replace HR4 := Lib.hid (HR4.out.ext hb)
  replace HA2 := Lib.hid (HA2.out.ext hb)
  replace HA3 := Lib.hid (HA3.out.ext hb)
  replace HB := Lib.hid (ext_trans HB.out hb)
  clear HI hb
  have hI := spec_FirstShort _ l3 has made w11 HA3.out HS3.out
  rw [hm4] at hI
  have HI := Lib.hid hI
  clear hI
  go_wp2_with fail
  refine (show Calls _ _ _ _ _ from HI.out).mono ?_
  rintro e w12 ⟨rfl, hb⟩
  replace HA1 := Lib.hid (HA1.out.ext hb)
  replace HR1 := Lib.hid (HR1.out.ext hb)
  replace HR2 := Lib.hid (HR2.out.ext hb)
  replace HR3 := Lib.hid (HR3.out.ext hb)
  replace HR4 := Lib.hid (HR4.out.ext hb)
  replace HA2 := Lib.hid (HA2.out.ext hb)
  replace HA3 := Lib.hid (HA3.out.ext hb)
  replace HB := Lib.hid (ext_trans HB.out hb)
  clear HI hb
  go_wp2_with fail
  refine (draw_LateOrders v0 x0 _ (H0.out.ext HB.out)).mono ?_
  rintro e w13 ⟨u, l4, on, rfl, hO, hsm, hb⟩
  obtain ⟨A4, c4, rfl, hc41, hc42⟩ := hO.rd.open_
  have HA4 := Lib.hid hO.rd
  have HS4 := Lib.hid hsm
  replace HA1 := Lib.hid (HA1.out.ext hb)
  replace HR1 := Lib.hid (HR1.out.ext hb)
  replace HR2 := Lib.hid (HR2.out.ext hb)
  replace HR3 := Lib.hid (HR3.out.ext hb)
  replace HR4 := Lib.hid (HR4.out.ext hb)
  replace HA2 := Lib.hid (HA2.out.ext hb)
  replace HA3 := Lib.hid (HA3.out.ext hb)
  replace HB := Lib.hid (ext_trans HB.out hb)
  clear hO hsm hb
  obtain ⟨M5, k5, hm5⟩ : ∃ a c, mLateOrders l4 on = (a, c) := ⟨_, _, rfl⟩
  have HM5 := Lib.hid hm5
  have hI := impl_LateOrders _ l4 on w13 HA4.out HS4.out
  rw [hm5] at hI
  have HI := Lib.hid hI
  clear hI
  go_wp2_with fail
  refine (show Calls _ _ _ _ _ from HI.out).mono ?_
  rintro e w14 ⟨u, rfl, hO, hsm, hb⟩
  obtain ⟨B5, d5, rfl, hd1, hd2, _⟩ := hO.rd.open2
  have HR5 := Lib.hid hO.rd
  replace HA1 := Lib.hid (HA1.out.ext hb)
  replace HR1 := Lib.hid (HR1.out.ext hb)
  replace HR2 := Lib.hid (HR2.out.ext hb)
  replace HR3 := Lib.hid (HR3.out.ext hb)
  replace HR4 := Lib.hid (HR4.out.ext hb)
  replace HA2 := Lib.hid (HA2.out.ext hb)
  replace HA3 := Lib.hid (HA3.out.ext hb)
  replace HA4 := Lib.hid (HA4.out.ext hb)
  replace HB := Lib.hid (ext_trans HB.out hb)
  clear HI hO hsm hb
  have hI := spec_LateOrders _ l4 on w14 HA4.out HS4.out
  rw [hm5] at hI
  have HI := Lib.hid hI
  clear hI
  go_wp2_with fail
  refine (show Calls _ _ _ _ _ from HI.out).mono ?_
  rintro e w15 ⟨u, rfl, hO, hsm, hb⟩
  obtain ⟨B6, d6, rfl, hd1, hd2, _⟩ := hO.rd.open2
  have HR6 := Lib.hid hO.rd
  replace HA1 := Lib.hid (HA1.out.ext hb)
  replace HR1 := Lib.hid (HR1.out.ext hb)
  replace HR2 := Lib.hid (HR2.out.ext hb)
  replace HR3 := Lib.hid (HR3.out.ext hb)
  replace HR4 := Lib.hid (HR4.out.ext hb)
  replace HA2 := Lib.hid (HA2.out.ext hb)
  replace HA3 := Lib.hid (HA3.out.ext hb)
  replace HA4 := Lib.hid (HA4.out.ext hb)
  replace HR5 := Lib.hid (HR5.out.ext hb)
  replace HB := Lib.hid (ext_trans HB.out hb)
  clear HI hO hsm hb
  have hI := f6ints_any _ _ M1 M1 w15 HR1.out HR2.out
  rw [show decide (M1 = M1) = true from decide_eq_true rfl] at hI
  have HI := Lib.hid hI
  clear hI
  go_wp2_with fail
  refine (show Calls _ _ _ _ _ from HI.out).mono ?_
  rintro e w16 ⟨rfl, hb⟩
  replace HA1 := Lib.hid (HA1.out.ext hb)
  replace HR1 := Lib.hid (HR1.out.ext hb)
  replace HR2 := Lib.hid (HR2.out.ext hb)
  replace HR3 := Lib.hid (HR3.out.ext hb)
  replace HR4 := Lib.hid (HR4.out.ext hb)
  replace HA2 := Lib.hid (HA2.out.ext hb)
  replace HA3 := Lib.hid (HA3.out.ext hb)
  replace HA4 := Lib.hid (HA4.out.ext hb)
  replace HR5 := Lib.hid (HR5.out.ext hb)
  replace HR6 := Lib.hid (HR6.out.ext hb)
  replace HB := Lib.hid (ext_trans HB.out hb)
  clear HI hb
  clear HR1
  have hI := f6ints_any _ _ M2 M2 w16 HR3.out HR4.out
  rw [show decide (M2 = M2) = true from decide_eq_true rfl] at hI
  have HI := Lib.hid hI
  clear hI
  go_wp2_with fail
  refine (show Calls _ _ _ _ _ from HI.out).mono ?_
  rintro e w17 ⟨rfl, hb⟩
  replace HA1 := Lib.hid (HA1.out.ext hb)
  replace HR2 := Lib.hid (HR2.out.ext hb)
  replace HR3 := Lib.hid (HR3.out.ext hb)
  replace HR4 := Lib.hid (HR4.out.ext hb)
  replace HA2 := Lib.hid (HA2.out.ext hb)
  replace HA3 := Lib.hid (HA3.out.ext hb)
  replace HA4 := Lib.hid (HA4.out.ext hb)
  replace HR5 := Lib.hid (HR5.out.ext hb)
  replace HR6 := Lib.hid (HR6.out.ext hb)
  replace HB := Lib.hid (ext_trans HB.out hb)
  clear HI hb
  clear HR3
  have hI := f6ints_any _ _ M5 M5 w17 HR5.out HR6.out
  rw [show decide (M5 = M5) = true from decide_eq_true rfl] at hI
  have HI := Lib.hid hI
  clear hI
  go_wp2_with fail
  refine (show Calls _ _ _ _ _ from HI.out).mono ?_
  rintro e w18 ⟨rfl, hb⟩
  replace HA1 := Lib.hid (HA1.out.ext hb)
  replace HR2 := Lib.hid (HR2.out.ext hb)
  replace HR4 := Lib.hid (HR4.out.ext hb)
  replace HA2 := Lib.hid (HA2.out.ext hb)
  replace HA3 := Lib.hid (HA3.out.ext hb)
  replace HA4 := Lib.hid (HA4.out.ext hb)
  replace HR5 := Lib.hid (HR5.out.ext hb)
  replace HR6 := Lib.hid (HR6.out.ext hb)
  replace HB := Lib.hid (ext_trans HB.out hb)
  clear HI hb
  clear HR5
  clear HA3 HA4
  go_upto_region 19 with fail
  go_cut [190] from 185 to 190 (fun s wx => s = .bool false ∧ wx = w18)
  case first =>
    by_cases hk : k4 = 0
    · subst hk
      have hf := fs_pos HM4.out
      have e1 : decide (fs < 1) = false := decide_eq_false (by omega)
      have e2 : ¬ fs < 1 := by omega
      go_wp2_with fail
      go_meet
      exact ⟨rfl, rfl⟩
    · have e1 : (k4 == 0) = false := by simp [hk]
      go_wp2_with fail
      go_meet
      exact ⟨rfl, rfl⟩
  case rest =>
  obtain ⟨rfl, rfl⟩ := hcut
  clear hm4 HM4 hm5 HM5 HR6
  go_upto_region 21 with fail
  go_cut [196] from 191 to 196 (fun s wx => s = .bool (decide (k3 = 0 ∧ nd ≤ 10000000)) ∧ wx = wc)
  case first =>
    by_cases hk : k3 = 0
    · have e2 : (k3 == 0) = true := by simp [hk]
      by_cases hle : nd ≤ 10000000
      · have HE := Lib.hid (decide_eq_true (show k3 = 0 ∧ nd ≤ 10000000 from ⟨hk, hle⟩))
        have e3 : decide (nd ≤ 10000000) = true := decide_eq_true hle
        clear hk
        go_wp2_with fail
        go_meet
        exact ⟨congrArg Value.bool HE.out.symm, rfl⟩
      · have HE := Lib.hid (decide_eq_false (show ¬ (k3 = 0 ∧ nd ≤ 10000000) from fun h => hle h.2))
        have e3 : decide (nd ≤ 10000000) = false := decide_eq_false hle
        clear hk
        go_wp2_with fail
        go_meet
        exact ⟨congrArg Value.bool HE.out.symm, rfl⟩
    · have HE := Lib.hid (decide_eq_false (show ¬ (k3 = 0 ∧ nd ≤ 10000000) from fun h => hk h.1))
      have e2 : (k3 == 0) = false := by simp [hk]
      go_wp2_with fail
      go_meet
      exact ⟨congrArg Value.bool HE.out.symm, rfl⟩
  case rest =>
  obtain ⟨rfl, rfl⟩ := hcut
  go_upto_if 196 with fail
  go_cut [34, 35, 36, 37, 38, 39] from 196 to 223 (fun _ _ _ _ _ _ wx => RowKit.Below wc.heap.size wc wx)
  case first =>
    by_cases hk : k3 = 0 ∧ nd ≤ 10000000
    · rw [decide_eq_true hk]
      obtain ⟨rfl, hle⟩ := hk
      have hnn := need_nn HM3.out
      have hF1 := impl_FirstShort _ l2 nd each wc HA2.out HS2.out
      rw [need_none HM3.out hle] at hF1
      have HF1 := Lib.hid hF1
      clear hF1
      go_wp2_with fail
      refine (show Calls _ _ _ _ _ from HF1.out).mono ?_
      rintro e wa ⟨rfl, hb⟩
      have HWA := Lib.hid hb
      have HA2a := Lib.hid (HA2.out.ext hb)
      clear hb HF1
      by_cases h0 : 0 < nd
      · obtain ⟨dd, hd⟩ := need_some HM3.out hle h0
        have hF2 := impl_FirstShort _ l2 (nd - 1) each wa HA2a.out HS2.out
        rw [hd] at hF2
        have HF2 := Lib.hid hF2
        clear hF2 hd
        go_wp2_with fail
        refine (show Calls _ _ _ _ _ from HF2.out).mono ?_
        rintro e wb ⟨rfl, hb⟩
        have HWB := Lib.hid (ext_trans HWA.out hb)
        clear hb HF2
        go_wp2_with fail
        go_meet
        exact HWB.out
      · have e2 : ¬ 0 < nd := h0
        go_wp2_with fail
        go_meet
        exact HWA.out
    · rw [decide_eq_false hk]
      clear hk
      go_wp2_with fail
      go_meet
      exact ext_refl _
  case rest =>
  have HX := Lib.hid hcut
  clear hcut
  replace HA1 := Lib.hid (HA1.out.ext HX.out)
  replace HR2 := Lib.hid (HR2.out.ext HX.out)
  replace HR4 := Lib.hid (HR4.out.ext HX.out)
  replace HB := Lib.hid (ext_trans HB.out HX.out)
  clear HX HA2 hm3 HM3
  by_cases hk : k1 = 0
  · subst hk
    obtain ⟨hv, hst0, hst1, hM1⟩ := rsv_out HM1.out
    have hM2 : M2 = dueTo l1 l1.length := by
      have := HM2.out
      unfold mOrdersByDue at this
      rw [hv] at this
      simp only [cond_true, Prod.mk.injEq] at this
      exact this.1.symm
    have HV := Lib.hid hv
    have hlen := v_len hv
    have hm1l : M1.length = l1.length := by rw [hM1, rou_len]
    have HDA := Lib.hid (fun k h => due_at (l := l1) (m := l1.length) (k := k) h)
    have HRA := Lib.hid (fun k h => rou_at (l := l1) (s := stock) (dueTo l1 l1.length).length (Nat.le_refl _) k h)
    have HRS := Lib.hid (rou_sum (l := l1) (s := stock) (dueTo l1 l1.length).length (Nat.le_refl _))
    have HRB := Lib.hid (rou_bd (l := l1) (s := stock) hv hst0 hst1 (dueTo l1 l1.length).length (Nat.le_refl _))
    have HRD := Lib.hid (fun k h => rst_bd hv hst0 hst1 k h)
    have HDO := Lib.hid (fun k h => due_open hv k h)
    have HRL := Lib.hid (fun k h => rst_le hv hst0 hst1 k h)
    rw [← hM2] at HDA HRA HRS HRB HRD HDO HRL hM1
    rw [← hM1] at HRA HRS HRB
    have hql : M2.length ≤ l1.length := by rw [hM2]; exact due_len _ _
    have HL1 := Lib.hid hm1l
    have HSM : Hid (∀ k, k ≤ M1.length → 0 ≤ (M1.take k).sum ∧ (M1.take k).sum ≤ 1000000000000000) := Lib.hid fun k hk => by
      have := psum_bd' (xs := M1) (B := 10000000) (fun j hj => HRB.out j (by rw [← HL1.out]; exact hj)) k hk
      omega
    clear hm1 HM1 hm2 HM2 hM1 hM2 hv hm1l
    go_wp2_with fail
    go_loopw [40, 41, 42] (fun s h i wr => ∃ (k : Nat) (hb : Bool), k ≤ M2.length ∧ i = .int .i64 k ∧ h = .bool hb ∧ s = .int .i64 (stock - rst l1 M2 stock k) ∧ Hid (hb = true → rst l1 M2 stock k = 0) ∧ RowKit.Below wc.heap.size wc wr) (fun _ _ i _ => M2.length - (intOf i).toNat)
    case atStart => exact ⟨0, false, Nat.zero_le _, rfl, rfl, congrArg (Value.int .i64) (by rw [rst]; omega), Lib.hid (fun h => by cases h), ext_refl _⟩
    case round =>
      obtain ⟨k, hb, hk, rfl, rfl, rfl, HH, hbw⟩ := hrel
      have HBW := Lib.hid hbw
      have HA := Lib.hid (HA1.out.ext hbw)
      have HM := Lib.hid (HR2.out.ext hbw)
      have HQ := Lib.hid (HR4.out.ext hbw)
      clear hbw
      by_cases hlt : k < M2.length
      · obtain ⟨j, hj1, hj2, _⟩ := HDA.out k hlt
        obtain ⟨qd, rfl, _, hcq⟩ := HQ.out.at2 hlt
        have hq := hcq k hlt
        rw [hj1] at hq
        have hjM : j < M1.length := by rw [HL1.out]; exact hj2
        obtain ⟨md, rfl, _, hcm⟩ := HM.out.at2 hjM
        have hm := hcm j hjM
        have hmv := HRA.out k hlt
        rw [hj1, Int.toNat_natCast] at hmv
        have ho := HDO.out k hlt
        have hoj : oI l1 (j : Int) = opn (gd l1 j) := by unfold oI; rw [Int.toNat_natCast]
        have hr := HRD.out k hk
        have hrs := HRL.out k hk
        have hst := (show rst l1 M2 stock (k + 1) = rst l1 M2 stock k - min (rst l1 M2 stock k) (oI l1 (gi M2 k)) from rfl)
        rw [hj1, hoj] at hst ho
        rw [hoj] at hmv
        have HST := Lib.hid hst
        clear hst hoj
        obtain ⟨ad, rfl, _, hc⟩ := HA.out.at hj2
        obtain ⟨p0, p1, p2, p3, p4⟩ := hc j hj2
        have hbd := opn_bd HV.out hj2
        have hop : opn (gd l1 j) = (gd l1 j).br - (gd l1 j).sent := rfl
        have hbs : (1 ≤ (gd l1 j).br ∧ (gd l1 j).br ≤ 1000000) ∧ (0 ≤ (gd l1 j).sent ∧ (gd l1 j).sent ≤ (gd l1 j).br) := by
          obtain ⟨_, _, g3, _, g5⟩ := oneO_iff.1 (v_one HV.out hj2)
          exact ⟨g3, g5⟩
        obtain ⟨m, hmm⟩ : ∃ m, gi M1 j = m := ⟨_, rfl⟩
        rw [hmm] at hm hmv
        obtain ⟨r, hrr⟩ : ∃ r, rst l1 M2 stock k = r := ⟨_, rfl⟩
        rw [hrr] at hmv hr hrs HH HST
        rw [hrr]
        obtain ⟨br, hbr⟩ : ∃ x, (gd l1 j).br = x := ⟨_, rfl⟩
        obtain ⟨sn, hsn⟩ : ∃ x, (gd l1 j).sent = x := ⟨_, rfl⟩
        rw [hbr] at p2 hop hbs
        rw [hsn] at p4 hop hbs
        rw [hop] at hmv ho HST
        have HMV := Lib.hid hmv
        have e1 : (0:Int) ≤ k := by omega
        have e2 : (k:Int) < M2.length := by omega
        have e3 : (0:Int) ≤ j := by omega
        have e4 : (j:Int) < l1.length := by omega
        have e5 : (j:Int) < M1.length := by omega
        have e6 : ¬ m < 0 := by omega
        have e7 : ¬ br - sn < m := by omega
        have e8 : decide (m < 0) = false := decide_eq_false e6
        have e9 : decide (br - sn < m) = false := decide_eq_false e7
        have HNEW : Hid (stock - r + m = stock - rst l1 M2 stock (k + 1)) := Lib.hid (by have := HST.out; omega)
        have hsb : 0 ≤ stock - r + m ∧ stock - r + m ≤ 10000000 := by omega
        have hsb2 : 0 ≤ stock - r ∧ stock - r ≤ 10000000 := by omega
        clear hmv hbd hop hmm hrr hbr hsn hc hcm hcq p0 p1 p3
        cases hb with
        | true =>
          have hr0 : r = 0 := HH.out rfl
          have e10 : ¬ 0 < m := by have := HMV.out; omega
          have e11 : decide (0 < m) = false := decide_eq_false e10
          go_wp2_with fail
          go_quiet (fail)
          go_wp2_with fail
          go_quiet (fail)
          go_wp2_with fail
          go_roundw
          case rel => exact ⟨k + 1, true, hlt, by go_num, rfl, congrArg (Value.int .i64) (by have := HNEW.out; omega), Lib.hid (fun _ => by have := HST.out; have := HMV.out; omega), ext_drewN HBW.out _⟩
          case measure => simp [intOf]; omega
        | false =>
          go_wp2_with fail
          go_quiet (fail)
          go_wp2_with fail
          go_quiet (fail)
          go_wp2_with fail
          go_roundw
          case rel => exact ⟨k + 1, decide (m < br - sn), hlt, by go_num, rfl, congrArg (Value.int .i64) (by have := HNEW.out; omega), Lib.hid (fun h => by have h2 := of_decide_eq_true h; have := HST.out; have := HMV.out; omega), ext_drewN HBW.out _⟩
          case measure => simp [intOf]; omega
      · obtain rfl : k = M2.length := by omega
        have hrd := HRD.out M2.length (Nat.le_refl _)
        have hrl := HRL.out M2.length (Nat.le_refl _)
        have hS := f6_sum _ M1 wr HM.out HSM.out
        rw [HRS.out] at hS
        have HSS := Lib.hid hS
        clear hS
        obtain ⟨r, hrr⟩ : ∃ r, rst l1 M2 stock M2.length = r := ⟨_, rfl⟩
        rw [hrr] at hrd hrl HSS HH
        rw [hrr]
        clear hrr
        have e1 : ¬ (M2.length : Int) < M2.length := by omega
        have e2 : stock - r ≤ stock := by omega
        have e3 : decide (stock - r ≤ stock) = true := decide_eq_true e2
        cases hb with
        | true =>
          obtain rfl : r = 0 := HH.out rfl
          have e4 : stock - 0 = stock := by omega
          rw [e4] at HSS
          go_wp2_with fail
          refine (show Calls _ _ _ _ _ from HSS.out).mono ?_
          rintro e wz ⟨rfl, hbz⟩
          have HBZ := Lib.hid hbz
          clear hbz
          go_wp2_with fail
          go_ret
          exact ⟨rfl, ext_trans HB.out (ext_trans HBW.out HBZ.out)⟩
        | false =>
          go_wp2_with fail
          refine (show Calls _ _ _ _ _ from HSS.out).mono ?_
          rintro e wz ⟨rfl, hbz⟩
          have HBZ := Lib.hid hbz
          clear hbz
          go_wp2_with fail
          go_ret
          exact ⟨rfl, ext_trans HB.out (ext_trans HBW.out HBZ.out)⟩
  · have e1 : (k1 == 0) = false := by simp [hk]
    have e2 : (k1 != 0) = true := by simp [hk]
    go_wp2_with fail
    go_ret
    exact ⟨rfl, HB.out⟩

end Go.Proofs.Ythcckonkhbmcmaa
