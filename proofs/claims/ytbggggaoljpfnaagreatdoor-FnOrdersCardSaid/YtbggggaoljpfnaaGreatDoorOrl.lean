/-
  The law FnOrders: its walk. Printed by mkorl.py.
-/
import Derived.Test.YtbggggaoljpfnaaGreatDoorOrlP
import Derived.Test.YtbggggaoljpfnaaGreatDoorDrwO7
import Derived.Test.YtbggggaoljpfnaaGreatDoorOrders12
import Derived.Test.YtbggggaoljpfnaaGreatDoorCust2
import Derived.Test.YtbggggaoljpfnaaGreatDoorRdO2
import Derived.Test.YtbggggaoljpfnaaGreatDoorF6
import Derived.Test.YtbggggaoljpfnaaGreatDoorInts
import Derived.Deep.DeepCutAuto
import Derived.BigQuiet
import Derived.Lib.QuietBelow
namespace Go.Proofs.YtbggggaoljpfnaaGreatDoor
open Go.ChangeShapes Go.WideShapes Go.ChangeAt Go.RowKit Go.Sort
set_option linter.unusedVariables false
set_option maxRecDepth 100000

/-- The five cells of an order's box. -/
def PB (w : World) (p : Nat) (o : OD) : Prop := w.cell? ⟨p, 0, none⟩ = some (.int .i64 o.id) ∧ w.cell? ⟨p, 1, none⟩ = some (.string o.cu) ∧ w.cell? ⟨p, 2, none⟩ = some (.int .i64 o.br) ∧ w.cell? ⟨p, 3, none⟩ = some (.int .i64 o.due) ∧ w.cell? ⟨p, 4, none⟩ = some (.int .i64 o.sent)
theorem PB.ext {w w' : World} {p : Nat} {o : OD} (h : PB w p o) (hb : Below w.heap.size w w') : PB w' p o := ⟨cell_keep h.1 hb, cell_keep h.2.1 hb, cell_keep h.2.2.1 hb, cell_keep h.2.2.2.1 hb, cell_keep h.2.2.2.2 hb⟩
theorem pb_box (w : World) (o : OD) (T : TypeId) : PB (w.alloc (.cells #[.int .i64 o.id, .string o.cu, .int .i64 o.br, .int .i64 o.due, .int .i64 o.sent] T)) w.heap.size o := ⟨by simp [go_sem], by simp [go_sem], by simp [go_sem], by simp [go_sem], by simp [go_sem]⟩

theorem text_size (o : OD) : (mOrderText o).size ≤ 200 := by
  unfold mOrderText
  cases h : oneO o with
  | true => exact odb_size h
  | false => exact Nat.zero_le _
theorem eqO_refl (o : OD) : eqO o o = true := by unfold eqO; simp
theorem sameO_refl (l : List OD) : sameO l l = true := by unfold sameO; simp [eqO_refl]

set_option maxHeartbeats 6400000 in
theorem law_FnOrders (v0 : Value) (x0 : List UInt8) (w : World) (hEnv : Env w) (h0 : RB w v0 x0) :
    Calls Tryz.prog 3 #[v0] w (Ret (.bool true) w) := by
  have HE : Hid (∀ W', Below w.heap.size w W' → Env W') := Lib.hid fun W' h => hEnv.ext h
  have H0 := Lib.hid h0
  clear h0 hEnv
  go_enter Tryz.func3, Tryz.ntmps3
  go_wp2_with fail
  refine (f6_big v0 x0 _ H0.out).mono ?_
  rintro e w1 ⟨rfl, rfl⟩
  cases hlg : decide (4096 < x0.length) with
  | true =>
    clear hlg
    go_wp2_with fail
    go_ret
    exact ⟨rfl, ext_refl _⟩
  | false =>
  clear hlg
  have HB := Lib.hid (ext_refl w)
  go_wp2_with fail
  refine (draw_TakeOrder v0 x0 _ (H0.out.ext HB.out)).mono ?_
  rintro e w2 ⟨u, l1, o1, rfl, hO1, hsm1, hsz1, hb⟩
  obtain ⟨A1, c1, rfl, hc11, hc12⟩ := hO1.rd.open_
  unfold maxLen at hc12
  have HA1 := Lib.hid hO1.rd
  have HS1 := Lib.hid hsm1
  replace HB := Lib.hid (ext_trans HB.out hb)
  have HZ1 : Hid (SmOD o1) := Lib.hid (show o1.cu.size ≤ 1048576 by omega)
  clear hb hO1 hsm1 hsz1
  have hb := ext_alloc1 w2 (.cells #[.int .i64 o1.id, .string o1.cu, .int .i64 o1.br, .int .i64 o1.due, .int .i64 o1.sent] 26)
  have HP1 := Lib.hid (pb_box w2 o1 26)
  replace HA1 := Lib.hid (HA1.out.ext hb)
  replace HB := Lib.hid (ext_trans HB.out hb)
  clear hb
  go_wp2_with fail
  generalize hww : w2.alloc (.cells #[.int .i64 o1.id, .string o1.cu, .int .i64 o1.br, .int .i64 o1.due, .int .i64 o1.sent] 26) = w3 at *
  clear hww
  generalize w2.heap.size = p1 at *
  obtain ⟨M1, k1, hm1⟩ : ∃ a c, mTakeOrder l1 o1 = (a, c) := ⟨_, _, rfl⟩
  have HM1 := Lib.hid hm1
  have hI := impl_TakeOrder _ l1 (.agg #[.int .i64 o1.id, .string o1.cu, .int .i64 o1.br, .int .i64 o1.due, .int .i64 o1.sent]) o1 w3 HA1.out HS1.out rfl HZ1.out
  rw [hm1] at hI
  have HI := Lib.hid hI
  clear hI
  obtain ⟨q10, q11, q12, q13, q14⟩ := HP1.out
  go_wp2_with fail
  refine (show Calls _ _ _ _ _ from HI.out).mono ?_
  rintro e w4 ⟨u, rfl, hO, hsm, hb⟩
  clear q10 q11 q12 q13 q14
  obtain ⟨A11, c11, rfl, hc111, hc112⟩ := hO.rd.open_
  unfold maxLen at hc112
  have HA11 := Lib.hid hO.rd
  have HS11 := Lib.hid hsm
  replace HA1 := Lib.hid (HA1.out.ext hb)
  replace HP1 := Lib.hid (HP1.out.ext hb)
  replace HB := Lib.hid (ext_trans HB.out hb)
  clear HI hO hsm hb
  have hI := spec_TakeOrder _ l1 (.agg #[.int .i64 o1.id, .string o1.cu, .int .i64 o1.br, .int .i64 o1.due, .int .i64 o1.sent]) o1 w4 HA1.out HS1.out rfl HZ1.out
  rw [hm1] at hI
  have HI := Lib.hid hI
  clear hI
  obtain ⟨q10, q11, q12, q13, q14⟩ := HP1.out
  go_wp2_with fail
  refine (show Calls _ _ _ _ _ from HI.out).mono ?_
  rintro e w5 ⟨u, rfl, hO, hsm, hb⟩
  clear q10 q11 q12 q13 q14
  obtain ⟨A12, c12, rfl, hc121, hc122⟩ := hO.rd.open_
  unfold maxLen at hc122
  have HA12 := Lib.hid hO.rd
  have HS12 := Lib.hid hsm
  replace HA1 := Lib.hid (HA1.out.ext hb)
  replace HP1 := Lib.hid (HP1.out.ext hb)
  replace HA11 := Lib.hid (HA11.out.ext hb)
  replace HB := Lib.hid (ext_trans HB.out hb)
  clear HI hO hsm hb
  go_wp2_with fail
  refine (draw_SendBricks v0 x0 _ (H0.out.ext HB.out)).mono ?_
  rintro e w6 ⟨u, l2, id2, n2, rfl, hO2, hsm2, hb⟩
  obtain ⟨A2, c2, rfl, hc21, hc22⟩ := hO2.rd.open_
  unfold maxLen at hc22
  have HA2 := Lib.hid hO2.rd
  have HS2 := Lib.hid hsm2
  replace HA1 := Lib.hid (HA1.out.ext hb)
  replace HP1 := Lib.hid (HP1.out.ext hb)
  replace HA11 := Lib.hid (HA11.out.ext hb)
  replace HA12 := Lib.hid (HA12.out.ext hb)
  replace HB := Lib.hid (ext_trans HB.out hb)
  clear hb hO2 hsm2
  obtain ⟨M2, k2, hm2⟩ : ∃ a c, mSendBricks l2 id2 n2 = (a, c) := ⟨_, _, rfl⟩
  have HM2 := Lib.hid hm2
  have hI := impl_SendBricks _ l2 id2 n2 w6 HA2.out HS2.out
  rw [hm2] at hI
  have HI := Lib.hid hI
  clear hI
  go_wp2_with fail
  refine (show Calls _ _ _ _ _ from HI.out).mono ?_
  rintro e w7 ⟨u, rfl, hO, hsm, hb⟩
  obtain ⟨A13, c13, rfl, hc131, hc132⟩ := hO.rd.open_
  unfold maxLen at hc132
  have HA13 := Lib.hid hO.rd
  have HS13 := Lib.hid hsm
  replace HA1 := Lib.hid (HA1.out.ext hb)
  replace HP1 := Lib.hid (HP1.out.ext hb)
  replace HA11 := Lib.hid (HA11.out.ext hb)
  replace HA12 := Lib.hid (HA12.out.ext hb)
  replace HA2 := Lib.hid (HA2.out.ext hb)
  replace HB := Lib.hid (ext_trans HB.out hb)
  clear HI hO hsm hb
  have hI := spec_SendBricks _ l2 id2 n2 w7 HA2.out HS2.out
  rw [hm2] at hI
  have HI := Lib.hid hI
  clear hI
  go_wp2_with fail
  refine (show Calls _ _ _ _ _ from HI.out).mono ?_
  rintro e w8 ⟨u, rfl, hO, hsm, hb⟩
  obtain ⟨A14, c14, rfl, hc141, hc142⟩ := hO.rd.open_
  unfold maxLen at hc142
  have HA14 := Lib.hid hO.rd
  have HS14 := Lib.hid hsm
  replace HA1 := Lib.hid (HA1.out.ext hb)
  replace HP1 := Lib.hid (HP1.out.ext hb)
  replace HA11 := Lib.hid (HA11.out.ext hb)
  replace HA12 := Lib.hid (HA12.out.ext hb)
  replace HA2 := Lib.hid (HA2.out.ext hb)
  replace HA13 := Lib.hid (HA13.out.ext hb)
  replace HB := Lib.hid (ext_trans HB.out hb)
  clear HI hO hsm hb
  go_wp2_with fail
  refine (draw_CancelOrder v0 x0 _ (H0.out.ext HB.out)).mono ?_
  rintro e w9 ⟨u, l3, id3, rfl, hO3, hsm3, hb⟩
  obtain ⟨A3, c3, rfl, hc31, hc32⟩ := hO3.rd.open_
  unfold maxLen at hc32
  have HA3 := Lib.hid hO3.rd
  have HS3 := Lib.hid hsm3
  replace HA1 := Lib.hid (HA1.out.ext hb)
  replace HP1 := Lib.hid (HP1.out.ext hb)
  replace HA11 := Lib.hid (HA11.out.ext hb)
  replace HA12 := Lib.hid (HA12.out.ext hb)
  replace HA2 := Lib.hid (HA2.out.ext hb)
  replace HA13 := Lib.hid (HA13.out.ext hb)
  replace HA14 := Lib.hid (HA14.out.ext hb)
  replace HB := Lib.hid (ext_trans HB.out hb)
  clear hb hO3 hsm3
  obtain ⟨M3, k3, hm3⟩ : ∃ a c, mCancelOrder l3 id3 = (a, c) := ⟨_, _, rfl⟩
  have HM3 := Lib.hid hm3
  have hI := impl_CancelOrder _ l3 id3 w9 HA3.out HS3.out
  rw [hm3] at hI
  have HI := Lib.hid hI
  clear hI
  go_wp2_with fail
  refine (show Calls _ _ _ _ _ from HI.out).mono ?_
  rintro e w10 ⟨u, rfl, hO, hsm, hb⟩
  obtain ⟨A15, c15, rfl, hc151, hc152⟩ := hO.rd.open_
  unfold maxLen at hc152
  have HA15 := Lib.hid hO.rd
  have HS15 := Lib.hid hsm
  replace HA1 := Lib.hid (HA1.out.ext hb)
  replace HP1 := Lib.hid (HP1.out.ext hb)
  replace HA11 := Lib.hid (HA11.out.ext hb)
  replace HA12 := Lib.hid (HA12.out.ext hb)
  replace HA2 := Lib.hid (HA2.out.ext hb)
  replace HA13 := Lib.hid (HA13.out.ext hb)
  replace HA14 := Lib.hid (HA14.out.ext hb)
  replace HA3 := Lib.hid (HA3.out.ext hb)
  replace HB := Lib.hid (ext_trans HB.out hb)
  clear HI hO hsm hb
  have hI := spec_CancelOrder _ l3 id3 w10 HA3.out HS3.out
  rw [hm3] at hI
  have HI := Lib.hid hI
  clear hI
  go_wp2_with fail
  refine (show Calls _ _ _ _ _ from HI.out).mono ?_
  rintro e w11 ⟨u, rfl, hO, hsm, hb⟩
  obtain ⟨A16, c16, rfl, hc161, hc162⟩ := hO.rd.open_
  unfold maxLen at hc162
  have HA16 := Lib.hid hO.rd
  have HS16 := Lib.hid hsm
  replace HA1 := Lib.hid (HA1.out.ext hb)
  replace HP1 := Lib.hid (HP1.out.ext hb)
  replace HA11 := Lib.hid (HA11.out.ext hb)
  replace HA12 := Lib.hid (HA12.out.ext hb)
  replace HA2 := Lib.hid (HA2.out.ext hb)
  replace HA13 := Lib.hid (HA13.out.ext hb)
  replace HA14 := Lib.hid (HA14.out.ext hb)
  replace HA3 := Lib.hid (HA3.out.ext hb)
  replace HA15 := Lib.hid (HA15.out.ext hb)
  replace HB := Lib.hid (ext_trans HB.out hb)
  clear HI hO hsm hb
  clear HA3
  go_wp2_with fail
  refine (draw_CustomersOf v0 x0 _ (H0.out.ext HB.out)).mono ?_
  rintro e w12 ⟨u, l4, rfl, hO4, hsm4, hb⟩
  obtain ⟨A4, c4, rfl, hc41, hc42⟩ := hO4.rd.open_
  unfold maxLen at hc42
  have HA4 := Lib.hid hO4.rd
  have HS4 := Lib.hid hsm4
  replace HA1 := Lib.hid (HA1.out.ext hb)
  replace HP1 := Lib.hid (HP1.out.ext hb)
  replace HA11 := Lib.hid (HA11.out.ext hb)
  replace HA12 := Lib.hid (HA12.out.ext hb)
  replace HA2 := Lib.hid (HA2.out.ext hb)
  replace HA13 := Lib.hid (HA13.out.ext hb)
  replace HA14 := Lib.hid (HA14.out.ext hb)
  replace HA15 := Lib.hid (HA15.out.ext hb)
  replace HA16 := Lib.hid (HA16.out.ext hb)
  replace HB := Lib.hid (ext_trans HB.out hb)
  clear hb hO4 hsm4
  obtain ⟨L4, M4, k4, hm4⟩ : ∃ a b c, mCustomersOf l4 = (a, b, c) := ⟨_, _, _, rfl⟩
  have HM4 := Lib.hid hm4
  have hI := impl_CustomersOf _ l4 w12 HA4.out HS4.out
  rw [hm4] at hI
  have HI := Lib.hid hI
  clear hI
  go_wp2_with fail
  refine (show Calls _ _ _ _ _ from HI.out).mono ?_
  rintro e w13 ⟨u, u2, rfl, hT, hts, hO, hsm, _, hb⟩
  obtain ⟨A17, c17, rfl, hc171, hc172⟩ := hT.rd.open_
  obtain ⟨B17, d17, rfl, hd171, hd172, _⟩ := hO.rd.open2
  unfold maxLen at hc172 hd172
  have HA17 := Lib.hid hT.rd
  have HI17 := Lib.hid hO.rd
  replace HA1 := Lib.hid (HA1.out.ext hb)
  replace HP1 := Lib.hid (HP1.out.ext hb)
  replace HA11 := Lib.hid (HA11.out.ext hb)
  replace HA12 := Lib.hid (HA12.out.ext hb)
  replace HA2 := Lib.hid (HA2.out.ext hb)
  replace HA13 := Lib.hid (HA13.out.ext hb)
  replace HA14 := Lib.hid (HA14.out.ext hb)
  replace HA15 := Lib.hid (HA15.out.ext hb)
  replace HA16 := Lib.hid (HA16.out.ext hb)
  replace HA4 := Lib.hid (HA4.out.ext hb)
  replace HB := Lib.hid (ext_trans HB.out hb)
  clear HI hT hts hO hsm hb
  have hI := spec_CustomersOf _ l4 w13 HA4.out HS4.out
  rw [hm4] at hI
  have HI := Lib.hid hI
  clear hI
  go_wp2_with fail
  refine (show Calls _ _ _ _ _ from HI.out).mono ?_
  rintro e w14 ⟨u, u2, rfl, hT, hts, hO, hsm, _, hb⟩
  obtain ⟨A18, c18, rfl, hc181, hc182⟩ := hT.rd.open_
  obtain ⟨B18, d18, rfl, hd181, hd182, _⟩ := hO.rd.open2
  unfold maxLen at hc182 hd182
  have HA18 := Lib.hid hT.rd
  have HI18 := Lib.hid hO.rd
  replace HA1 := Lib.hid (HA1.out.ext hb)
  replace HP1 := Lib.hid (HP1.out.ext hb)
  replace HA11 := Lib.hid (HA11.out.ext hb)
  replace HA12 := Lib.hid (HA12.out.ext hb)
  replace HA2 := Lib.hid (HA2.out.ext hb)
  replace HA13 := Lib.hid (HA13.out.ext hb)
  replace HA14 := Lib.hid (HA14.out.ext hb)
  replace HA15 := Lib.hid (HA15.out.ext hb)
  replace HA16 := Lib.hid (HA16.out.ext hb)
  replace HA4 := Lib.hid (HA4.out.ext hb)
  replace HA17 := Lib.hid (HA17.out.ext hb)
  replace HI17 := Lib.hid (HI17.out.ext hb)
  replace HB := Lib.hid (ext_trans HB.out hb)
  clear HI hT hts hO hsm hb
  go_wp2_with fail
  refine (draw_OrderText v0 x0 _ (H0.out.ext HB.out)).mono ?_
  rintro e w15 ⟨o5, rfl, hsz5, hb⟩
  replace HA1 := Lib.hid (HA1.out.ext hb)
  replace HP1 := Lib.hid (HP1.out.ext hb)
  replace HA11 := Lib.hid (HA11.out.ext hb)
  replace HA12 := Lib.hid (HA12.out.ext hb)
  replace HA2 := Lib.hid (HA2.out.ext hb)
  replace HA13 := Lib.hid (HA13.out.ext hb)
  replace HA14 := Lib.hid (HA14.out.ext hb)
  replace HA15 := Lib.hid (HA15.out.ext hb)
  replace HA16 := Lib.hid (HA16.out.ext hb)
  replace HA4 := Lib.hid (HA4.out.ext hb)
  replace HA17 := Lib.hid (HA17.out.ext hb)
  replace HI17 := Lib.hid (HI17.out.ext hb)
  replace HA18 := Lib.hid (HA18.out.ext hb)
  replace HI18 := Lib.hid (HI18.out.ext hb)
  replace HB := Lib.hid (ext_trans HB.out hb)
  have HZ5 : Hid (SmOD o5) := Lib.hid (show o5.cu.size ≤ 1048576 by omega)
  clear hb hsz5
  have hb := ext_alloc1 w15 (.cells #[.int .i64 o5.id, .string o5.cu, .int .i64 o5.br, .int .i64 o5.due, .int .i64 o5.sent] 26)
  have HP5 := Lib.hid (pb_box w15 o5 26)
  replace HA1 := Lib.hid (HA1.out.ext hb)
  replace HP1 := Lib.hid (HP1.out.ext hb)
  replace HA11 := Lib.hid (HA11.out.ext hb)
  replace HA12 := Lib.hid (HA12.out.ext hb)
  replace HA2 := Lib.hid (HA2.out.ext hb)
  replace HA13 := Lib.hid (HA13.out.ext hb)
  replace HA14 := Lib.hid (HA14.out.ext hb)
  replace HA15 := Lib.hid (HA15.out.ext hb)
  replace HA16 := Lib.hid (HA16.out.ext hb)
  replace HA4 := Lib.hid (HA4.out.ext hb)
  replace HA17 := Lib.hid (HA17.out.ext hb)
  replace HI17 := Lib.hid (HI17.out.ext hb)
  replace HA18 := Lib.hid (HA18.out.ext hb)
  replace HI18 := Lib.hid (HI18.out.ext hb)
  replace HB := Lib.hid (ext_trans HB.out hb)
  clear hb
  go_wp2_with fail
  generalize hww : w15.alloc (.cells #[.int .i64 o5.id, .string o5.cu, .int .i64 o5.br, .int .i64 o5.due, .int .i64 o5.sent] 26) = w16 at *
  clear hww
  generalize w15.heap.size = p5 at *
  obtain ⟨tx, htx⟩ : ∃ a, mOrderText o5 = a := ⟨_, rfl⟩
  have HTB := Lib.hid (text_back o5)
  rw [htx] at HTB
  have HTX := Lib.hid htx
  have hI := impl_OrderText (.agg #[.int .i64 o5.id, .string o5.cu, .int .i64 o5.br, .int .i64 o5.due, .int .i64 o5.sent]) o5 w16 rfl HZ5.out (HE.out _ HB.out).lay
  rw [htx] at hI
  have HI := Lib.hid hI
  clear hI
  obtain ⟨q50, q51, q52, q53, q54⟩ := HP5.out
  go_wp2_with fail
  refine (show Calls _ _ _ _ _ from HI.out).mono ?_
  rintro e w17 ⟨rfl, hb⟩
  clear q50 q51 q52 q53 q54
  replace HA1 := Lib.hid (HA1.out.ext hb)
  replace HP1 := Lib.hid (HP1.out.ext hb)
  replace HA11 := Lib.hid (HA11.out.ext hb)
  replace HA12 := Lib.hid (HA12.out.ext hb)
  replace HA2 := Lib.hid (HA2.out.ext hb)
  replace HA13 := Lib.hid (HA13.out.ext hb)
  replace HA14 := Lib.hid (HA14.out.ext hb)
  replace HA15 := Lib.hid (HA15.out.ext hb)
  replace HA16 := Lib.hid (HA16.out.ext hb)
  replace HA4 := Lib.hid (HA4.out.ext hb)
  replace HA17 := Lib.hid (HA17.out.ext hb)
  replace HI17 := Lib.hid (HI17.out.ext hb)
  replace HA18 := Lib.hid (HA18.out.ext hb)
  replace HI18 := Lib.hid (HI18.out.ext hb)
  replace HP5 := Lib.hid (HP5.out.ext hb)
  replace HB := Lib.hid (ext_trans HB.out hb)
  clear HI hb
  have HTZ : Hid (tx.size ≤ 1048576) := Lib.hid (by have := text_size o5; rw [HTX.out] at this; omega)
  obtain ⟨o6, ho6⟩ : ∃ a, rdOv tx = a := ⟨_, rfl⟩
  obtain ⟨b6, hb6⟩ : ∃ a, rdOb tx = a := ⟨_, rfl⟩
  rw [ho6, hb6] at HTB
  have hI := impl_ReadOrder tx w17 HTZ.out (HE.out _ HB.out)
  rw [ho6, hb6] at hI
  have HI := Lib.hid hI
  clear hI
  go_wp2_with fail
  refine (show Calls _ _ _ _ _ from HI.out).mono ?_
  rintro e w18 ⟨u, rfl, hO, hsm, hb⟩
  obtain rfl := hO
  replace HA1 := Lib.hid (HA1.out.ext hb)
  replace HP1 := Lib.hid (HP1.out.ext hb)
  replace HA11 := Lib.hid (HA11.out.ext hb)
  replace HA12 := Lib.hid (HA12.out.ext hb)
  replace HA2 := Lib.hid (HA2.out.ext hb)
  replace HA13 := Lib.hid (HA13.out.ext hb)
  replace HA14 := Lib.hid (HA14.out.ext hb)
  replace HA15 := Lib.hid (HA15.out.ext hb)
  replace HA16 := Lib.hid (HA16.out.ext hb)
  replace HA4 := Lib.hid (HA4.out.ext hb)
  replace HA17 := Lib.hid (HA17.out.ext hb)
  replace HI17 := Lib.hid (HI17.out.ext hb)
  replace HA18 := Lib.hid (HA18.out.ext hb)
  replace HI18 := Lib.hid (HI18.out.ext hb)
  replace HP5 := Lib.hid (HP5.out.ext hb)
  replace HB := Lib.hid (ext_trans HB.out hb)
  clear HI hsm hb
  have hb := ext_alloc1 w18 (.cells #[.int .i64 o6.id, .string o6.cu, .int .i64 o6.br, .int .i64 o6.due, .int .i64 o6.sent] 26)
  have HP6 := Lib.hid (pb_box w18 o6 26)
  replace HA1 := Lib.hid (HA1.out.ext hb)
  replace HP1 := Lib.hid (HP1.out.ext hb)
  replace HA11 := Lib.hid (HA11.out.ext hb)
  replace HA12 := Lib.hid (HA12.out.ext hb)
  replace HA2 := Lib.hid (HA2.out.ext hb)
  replace HA13 := Lib.hid (HA13.out.ext hb)
  replace HA14 := Lib.hid (HA14.out.ext hb)
  replace HA15 := Lib.hid (HA15.out.ext hb)
  replace HA16 := Lib.hid (HA16.out.ext hb)
  replace HA4 := Lib.hid (HA4.out.ext hb)
  replace HA17 := Lib.hid (HA17.out.ext hb)
  replace HI17 := Lib.hid (HI17.out.ext hb)
  replace HA18 := Lib.hid (HA18.out.ext hb)
  replace HI18 := Lib.hid (HI18.out.ext hb)
  replace HP5 := Lib.hid (HP5.out.ext hb)
  replace HB := Lib.hid (ext_trans HB.out hb)
  clear hb
  go_wp2_with fail
  generalize hww : w18.alloc (.cells #[.int .i64 o6.id, .string o6.cu, .int .i64 o6.br, .int .i64 o6.due, .int .i64 o6.sent] 26) = w19 at *
  clear hww
  generalize w18.heap.size = p6 at *
  go_wp2_with fail
  refine (draw_ReadOrder v0 x0 _ (H0.out.ext HB.out)).mono ?_
  rintro e w20 ⟨s7, rfl, hsz7, hb⟩
  replace HA1 := Lib.hid (HA1.out.ext hb)
  replace HP1 := Lib.hid (HP1.out.ext hb)
  replace HA11 := Lib.hid (HA11.out.ext hb)
  replace HA12 := Lib.hid (HA12.out.ext hb)
  replace HA2 := Lib.hid (HA2.out.ext hb)
  replace HA13 := Lib.hid (HA13.out.ext hb)
  replace HA14 := Lib.hid (HA14.out.ext hb)
  replace HA15 := Lib.hid (HA15.out.ext hb)
  replace HA16 := Lib.hid (HA16.out.ext hb)
  replace HA4 := Lib.hid (HA4.out.ext hb)
  replace HA17 := Lib.hid (HA17.out.ext hb)
  replace HI17 := Lib.hid (HI17.out.ext hb)
  replace HA18 := Lib.hid (HA18.out.ext hb)
  replace HI18 := Lib.hid (HI18.out.ext hb)
  replace HP5 := Lib.hid (HP5.out.ext hb)
  replace HP6 := Lib.hid (HP6.out.ext hb)
  replace HB := Lib.hid (ext_trans HB.out hb)
  have HZ7 : Hid (s7.size ≤ 1048576) := Lib.hid (by omega)
  clear hb hsz7 ho6 hb6
  obtain ⟨o7, ho7⟩ : ∃ a, rdOv s7 = a := ⟨_, rfl⟩
  obtain ⟨b7, hb7⟩ : ∃ a, rdOb s7 = a := ⟨_, rfl⟩
  have hI := impl_ReadOrder s7 w20 HZ7.out (HE.out _ HB.out)
  rw [ho7, hb7] at hI
  have HI := Lib.hid hI
  clear hI
  go_wp2_with fail
  refine (show Calls _ _ _ _ _ from HI.out).mono ?_
  rintro e w21 ⟨u, rfl, hO, hsm, hb⟩
  obtain rfl := hO
  replace HA1 := Lib.hid (HA1.out.ext hb)
  replace HP1 := Lib.hid (HP1.out.ext hb)
  replace HA11 := Lib.hid (HA11.out.ext hb)
  replace HA12 := Lib.hid (HA12.out.ext hb)
  replace HA2 := Lib.hid (HA2.out.ext hb)
  replace HA13 := Lib.hid (HA13.out.ext hb)
  replace HA14 := Lib.hid (HA14.out.ext hb)
  replace HA15 := Lib.hid (HA15.out.ext hb)
  replace HA16 := Lib.hid (HA16.out.ext hb)
  replace HA4 := Lib.hid (HA4.out.ext hb)
  replace HA17 := Lib.hid (HA17.out.ext hb)
  replace HI17 := Lib.hid (HI17.out.ext hb)
  replace HA18 := Lib.hid (HA18.out.ext hb)
  replace HI18 := Lib.hid (HI18.out.ext hb)
  replace HP5 := Lib.hid (HP5.out.ext hb)
  replace HP6 := Lib.hid (HP6.out.ext hb)
  replace HB := Lib.hid (ext_trans HB.out hb)
  clear HI hsm hb
  have hb := ext_alloc1 w21 (.cells #[.int .i64 o7.id, .string o7.cu, .int .i64 o7.br, .int .i64 o7.due, .int .i64 o7.sent] 26)
  have HP7 := Lib.hid (pb_box w21 o7 26)
  replace HA1 := Lib.hid (HA1.out.ext hb)
  replace HP1 := Lib.hid (HP1.out.ext hb)
  replace HA11 := Lib.hid (HA11.out.ext hb)
  replace HA12 := Lib.hid (HA12.out.ext hb)
  replace HA2 := Lib.hid (HA2.out.ext hb)
  replace HA13 := Lib.hid (HA13.out.ext hb)
  replace HA14 := Lib.hid (HA14.out.ext hb)
  replace HA15 := Lib.hid (HA15.out.ext hb)
  replace HA16 := Lib.hid (HA16.out.ext hb)
  replace HA4 := Lib.hid (HA4.out.ext hb)
  replace HA17 := Lib.hid (HA17.out.ext hb)
  replace HI17 := Lib.hid (HI17.out.ext hb)
  replace HA18 := Lib.hid (HA18.out.ext hb)
  replace HI18 := Lib.hid (HI18.out.ext hb)
  replace HP5 := Lib.hid (HP5.out.ext hb)
  replace HP6 := Lib.hid (HP6.out.ext hb)
  replace HB := Lib.hid (ext_trans HB.out hb)
  clear hb
  go_wp2_with fail
  generalize hww : w21.alloc (.cells #[.int .i64 o7.id, .string o7.cu, .int .i64 o7.br, .int .i64 o7.due, .int .i64 o7.sent] 26) = w22 at *
  clear hww
  generalize w21.heap.size = p7 at *
  have hI := spec_ReadOrder s7 w22 HZ7.out (HE.out _ HB.out)
  rw [ho7, hb7] at hI
  have HI := Lib.hid hI
  clear hI
  go_wp2_with fail
  refine (show Calls _ _ _ _ _ from HI.out).mono ?_
  rintro e w23 ⟨u, rfl, hO, hsm, hb⟩
  obtain rfl := hO
  replace HA1 := Lib.hid (HA1.out.ext hb)
  replace HP1 := Lib.hid (HP1.out.ext hb)
  replace HA11 := Lib.hid (HA11.out.ext hb)
  replace HA12 := Lib.hid (HA12.out.ext hb)
  replace HA2 := Lib.hid (HA2.out.ext hb)
  replace HA13 := Lib.hid (HA13.out.ext hb)
  replace HA14 := Lib.hid (HA14.out.ext hb)
  replace HA15 := Lib.hid (HA15.out.ext hb)
  replace HA16 := Lib.hid (HA16.out.ext hb)
  replace HA4 := Lib.hid (HA4.out.ext hb)
  replace HA17 := Lib.hid (HA17.out.ext hb)
  replace HI17 := Lib.hid (HI17.out.ext hb)
  replace HA18 := Lib.hid (HA18.out.ext hb)
  replace HI18 := Lib.hid (HI18.out.ext hb)
  replace HP5 := Lib.hid (HP5.out.ext hb)
  replace HP6 := Lib.hid (HP6.out.ext hb)
  replace HP7 := Lib.hid (HP7.out.ext hb)
  replace HB := Lib.hid (ext_trans HB.out hb)
  clear HI hsm hb
  have hb := ext_alloc1 w23 (.cells #[.int .i64 o7.id, .string o7.cu, .int .i64 o7.br, .int .i64 o7.due, .int .i64 o7.sent] 26)
  have HP8 := Lib.hid (pb_box w23 o7 26)
  replace HA1 := Lib.hid (HA1.out.ext hb)
  replace HP1 := Lib.hid (HP1.out.ext hb)
  replace HA11 := Lib.hid (HA11.out.ext hb)
  replace HA12 := Lib.hid (HA12.out.ext hb)
  replace HA2 := Lib.hid (HA2.out.ext hb)
  replace HA13 := Lib.hid (HA13.out.ext hb)
  replace HA14 := Lib.hid (HA14.out.ext hb)
  replace HA15 := Lib.hid (HA15.out.ext hb)
  replace HA16 := Lib.hid (HA16.out.ext hb)
  replace HA4 := Lib.hid (HA4.out.ext hb)
  replace HA17 := Lib.hid (HA17.out.ext hb)
  replace HI17 := Lib.hid (HI17.out.ext hb)
  replace HA18 := Lib.hid (HA18.out.ext hb)
  replace HI18 := Lib.hid (HI18.out.ext hb)
  replace HP5 := Lib.hid (HP5.out.ext hb)
  replace HP6 := Lib.hid (HP6.out.ext hb)
  replace HP7 := Lib.hid (HP7.out.ext hb)
  replace HB := Lib.hid (ext_trans HB.out hb)
  clear hb
  go_wp2_with fail
  generalize hww : w23.alloc (.cells #[.int .i64 o7.id, .string o7.cu, .int .i64 o7.br, .int .i64 o7.due, .int .i64 o7.sent] 26) = w24 at *
  clear hww
  generalize w23.heap.size = p8 at *
  clear ho7 hb7
  go_wp2_with fail
  refine (draw_SameOrders v0 x0 _ (H0.out.ext HB.out)).mono ?_
  rintro e w25 ⟨u, l8, u2, l9, rfl, hO8, hsm8, hO9, hsm9, hb⟩
  obtain ⟨A8, c8, rfl, hc81, hc82⟩ := hO8.rd.open_
  unfold maxLen at hc82
  have HA8 := Lib.hid hO8.rd
  have HS8 := Lib.hid hsm8
  obtain ⟨A9, c9, rfl, hc91, hc92⟩ := hO9.rd.open_
  unfold maxLen at hc92
  have HA9 := Lib.hid hO9.rd
  have HS9 := Lib.hid hsm9
  replace HA1 := Lib.hid (HA1.out.ext hb)
  replace HP1 := Lib.hid (HP1.out.ext hb)
  replace HA11 := Lib.hid (HA11.out.ext hb)
  replace HA12 := Lib.hid (HA12.out.ext hb)
  replace HA2 := Lib.hid (HA2.out.ext hb)
  replace HA13 := Lib.hid (HA13.out.ext hb)
  replace HA14 := Lib.hid (HA14.out.ext hb)
  replace HA15 := Lib.hid (HA15.out.ext hb)
  replace HA16 := Lib.hid (HA16.out.ext hb)
  replace HA4 := Lib.hid (HA4.out.ext hb)
  replace HA17 := Lib.hid (HA17.out.ext hb)
  replace HI17 := Lib.hid (HI17.out.ext hb)
  replace HA18 := Lib.hid (HA18.out.ext hb)
  replace HI18 := Lib.hid (HI18.out.ext hb)
  replace HP5 := Lib.hid (HP5.out.ext hb)
  replace HP6 := Lib.hid (HP6.out.ext hb)
  replace HP7 := Lib.hid (HP7.out.ext hb)
  replace HP8 := Lib.hid (HP8.out.ext hb)
  replace HB := Lib.hid (ext_trans HB.out hb)
  clear hb hO8 hsm8 hO9 hsm9
  go_upto_region 22 with fail
  go_cut [239] from 145 to 239 (fun s wx => s = .bool false ∧ RowKit.Below w25.heap.size w25 wx)
  case first =>
    obtain ⟨b1, hb1⟩ : ∃ b, vOrders l1 = b := ⟨_, rfl⟩
    obtain ⟨b8, hb8⟩ : ∃ b, sameO l8 l9 = b := ⟨_, rfl⟩
    have K1 : Hid (∀ W', RowKit.Below w25.heap.size w25 W' → Calls Tryz.prog 23 #[.slice A11 M1.length c11, .slice A12 M1.length c12] W' (Ret (.bool true) W')) := Lib.hid fun W' h => by
      have hh := spec_SameOrders _ M1 _ M1 W' (HA11.out.ext h) HS11.out (HA12.out.ext h) HS12.out
      rwa [sameO_refl] at hh
    have K2 : Hid (∀ W', RowKit.Below w25.heap.size w25 W' → Calls Tryz.prog 23 #[.slice A13 M2.length c13, .slice A14 M2.length c14] W' (Ret (.bool true) W')) := Lib.hid fun W' h => by
      have hh := spec_SameOrders _ M2 _ M2 W' (HA13.out.ext h) HS13.out (HA14.out.ext h) HS14.out
      rwa [sameO_refl] at hh
    have K3 : Hid (∀ W', RowKit.Below w25.heap.size w25 W' → Calls Tryz.prog 23 #[.slice A15 M3.length c15, .slice A16 M3.length c16] W' (Ret (.bool true) W')) := Lib.hid fun W' h => by
      have hh := spec_SameOrders _ M3 _ M3 W' (HA15.out.ext h) HS15.out (HA16.out.ext h) HS16.out
      rwa [sameO_refl] at hh
    have K4 : Hid (∀ W', RowKit.Below w25.heap.size w25 W' → Calls Tryz.prog 23 #[.slice A8 l8.length c8, .slice A9 l9.length c9] W' (Ret (.bool b8) W')) := Lib.hid fun W' h => by
      have hh := spec_SameOrders _ l8 _ l9 W' (HA8.out.ext h) HS8.out (HA9.out.ext h) HS9.out
      rwa [hb8] at hh
    have K5 : Hid (∀ W', RowKit.Below w25.heap.size w25 W' → Calls Tryz.prog 26 #[.slice A8 l8.length c8, .slice A9 l9.length c9] W' (Ret (.bool b8) W')) := Lib.hid fun W' h => by
      have hh := impl_SameOrders _ l8 _ l9 W' (HA8.out.ext h) HS8.out (HA9.out.ext h) HS9.out
      rwa [hb8] at hh
    have K6 : Hid (∀ W', RowKit.Below w25.heap.size w25 W' → Calls Tryz.prog 24 #[.slice B17 M4.length d17, .slice B18 M4.length d18] W' (Ret (.bool true) W')) := Lib.hid fun W' h => by
      have hh := f6ints_any _ _ M4 M4 W' (HI17.out.ext h) (HI18.out.ext h)
      rwa [show decide (M4 = M4) = true from decide_eq_true rfl] at hh
    have K7 : Hid (∀ W', RowKit.Below w25.heap.size w25 W' → Calls Tryz.prog 25 #[.agg #[.int .i64 o5.id, .string o5.cu, .int .i64 o5.br, .int .i64 o5.due, .int .i64 o5.sent]] W' (Ret (.string tx) W')) := Lib.hid fun W' h => by
      have hh := spec_OrderText (.agg #[.int .i64 o5.id, .string o5.cu, .int .i64 o5.br, .int .i64 o5.due, .int .i64 o5.sent]) o5 W' rfl HZ5.out (HE.out _ (ext_trans HB.out h)).lay
      rwa [HTX.out] at hh
    have K8 : Hid (∀ W', RowKit.Below w25.heap.size w25 W' → Calls Tryz.prog 27 #[.slice A1 l1.length c1] W' (Ret (.bool b1) W')) := Lib.hid fun W' h => by
      have hh := impl_ValidOrders _ l1 W' (HA1.out.ext h) HS1.out
      rwa [hb1] at hh
    have K9 : Hid (∀ W', RowKit.Below w25.heap.size w25 W' → Calls Tryz.prog 28 #[.slice A1 l1.length c1] W' (Ret (.bool b1) W')) := Lib.hid fun W' h => by
      have hh := spec_ValidOrders _ l1 W' (HA1.out.ext h) HS1.out
      rwa [hb1] at hh
    have e7 := fun w => run_eqO o7 o7 w
    rw [eqO_refl] at e7
    have e5 := fun w => run_eqO o5 o5 w
    rw [eqO_refl] at e5
    clear hb1 hb8 hm1 hm2 hm3 hm4 HM1 HM2 HM3 HM4 htx
    have HTC := HTB.out
    clear HTB HTX HE HB H0
    have HY0 := Lib.hid (ext_refl w25)
    go_wp2_with fail
    refine (show Calls _ _ _ _ _ from K1.out _ HY0.out).mono ?_
    rintro e wy1 ⟨rfl, hb⟩
    have HY1 := Lib.hid (ext_trans HY0.out hb)
    clear hb HY0 K1 
    go_wp2_with fail
    refine (show Calls _ _ _ _ _ from K2.out _ HY1.out).mono ?_
    rintro e wy2 ⟨rfl, hb⟩
    have HY2 := Lib.hid (ext_trans HY1.out hb)
    clear hb HY1 K2 
    go_wp2_with fail
    refine (show Calls _ _ _ _ _ from K3.out _ HY2.out).mono ?_
    rintro e wy3 ⟨rfl, hb⟩
    have HY3 := Lib.hid (ext_trans HY2.out hb)
    clear hb HY2 K3 
    go_wp2_with fail
    refine (show Calls _ _ _ _ _ from K6.out _ HY3.out).mono ?_
    rintro e wy4 ⟨rfl, hb⟩
    have HY4 := Lib.hid (ext_trans HY3.out hb)
    clear hb HY3 K6 
    obtain ⟨q50, q51, q52, q53, q54⟩ := HP5.out.ext HY4.out
    go_wp2_with fail
    refine (show Calls _ _ _ _ _ from K7.out _ HY4.out).mono ?_
    rintro e wy5 ⟨rfl, hb⟩
    have HY5 := Lib.hid (ext_trans HY4.out hb)
    clear hb HY4 K7 q50 q51 q52 q53 q54
    rcases HTC with ⟨ht1, ht2⟩ | ⟨ht1, ht2, ht3⟩
    · have g1 : tx.toList.isEmpty = true := by rw [empt, ht1]; rfl
      have g2 : (!tx.toList.isEmpty) = false := by rw [g1]; rfl
      subst ht2
      clear ht1
      obtain ⟨q50, q51, q52, q53, q54⟩ := HP5.out.ext HY5.out
      obtain ⟨q60, q61, q62, q63, q64⟩ := HP6.out.ext HY5.out
      obtain ⟨q70, q71, q72, q73, q74⟩ := HP7.out.ext HY5.out
      obtain ⟨q80, q81, q82, q83, q84⟩ := HP8.out.ext HY5.out
      go_wp2_with fail
      refine (show Calls _ _ _ _ _ from K5.out _ HY5.out).mono ?_
      rintro e wy6 ⟨rfl, hb⟩
      have HY6 := Lib.hid (ext_trans HY5.out hb)
      clear hb HY5 K5 q50 q51 q52 q53 q54 q60 q61 q62 q63 q64 q70 q71 q72 q73 q74 q80 q81 q82 q83 q84
      go_wp2_with fail
      refine (show Calls _ _ _ _ _ from K4.out _ HY6.out).mono ?_
      rintro e wy7 ⟨rfl, hb⟩
      have HY7 := Lib.hid (ext_trans HY6.out hb)
      clear hb HY6 K4 
      go_wp2_with fail
      refine (show Calls _ _ _ _ _ from K8.out _ HY7.out).mono ?_
      rintro e wy8 ⟨rfl, hb⟩
      have HY8 := Lib.hid (ext_trans HY7.out hb)
      clear hb HY7 K8 
      go_wp2_with fail
      refine (show Calls _ _ _ _ _ from K9.out _ HY8.out).mono ?_
      rintro e wy9 ⟨rfl, hb⟩
      have HY9 := Lib.hid (ext_trans HY8.out hb)
      clear hb HY8 K9 
      go_wp2_with fail
      go_meet
      exact ⟨rfl, HY9.out⟩
    · have g1 : tx.toList.isEmpty = false := by rw [empt]; exact decide_eq_false (fun h => ht1 (ByteArray.size_eq_zero_iff.1 h))
      have g2 : (!tx.toList.isEmpty) = true := by rw [g1]; rfl
      subst ht2
      obtain rfl : o5 = o6 := ht3.symm
      clear ht1
      obtain ⟨q50, q51, q52, q53, q54⟩ := HP5.out.ext HY5.out
      obtain ⟨q60, q61, q62, q63, q64⟩ := HP6.out.ext HY5.out
      obtain ⟨q70, q71, q72, q73, q74⟩ := HP7.out.ext HY5.out
      obtain ⟨q80, q81, q82, q83, q84⟩ := HP8.out.ext HY5.out
      go_wp2_with fail
      refine (show Calls _ _ _ _ _ from K5.out _ HY5.out).mono ?_
      rintro e wy6 ⟨rfl, hb⟩
      have HY6 := Lib.hid (ext_trans HY5.out hb)
      clear hb HY5 K5 q50 q51 q52 q53 q54 q60 q61 q62 q63 q64 q70 q71 q72 q73 q74 q80 q81 q82 q83 q84
      go_wp2_with fail
      refine (show Calls _ _ _ _ _ from K4.out _ HY6.out).mono ?_
      rintro e wy7 ⟨rfl, hb⟩
      have HY7 := Lib.hid (ext_trans HY6.out hb)
      clear hb HY6 K4 
      go_wp2_with fail
      refine (show Calls _ _ _ _ _ from K8.out _ HY7.out).mono ?_
      rintro e wy8 ⟨rfl, hb⟩
      have HY8 := Lib.hid (ext_trans HY7.out hb)
      clear hb HY7 K8 
      go_wp2_with fail
      refine (show Calls _ _ _ _ _ from K9.out _ HY8.out).mono ?_
      rintro e wy9 ⟨rfl, hb⟩
      have HY9 := Lib.hid (ext_trans HY8.out hb)
      clear hb HY8 K9 
      go_wp2_with fail
      go_meet
      exact ⟨rfl, HY9.out⟩
  case rest =>
  obtain ⟨rfl, hb⟩ := hcut
  clear HTB HTX htx HS8 HS9 HZ1 HZ5 HTZ HZ7 HS12 HS14 HS15 HS16
  clear HA12 HA14 HA15 HA16 HI17 HP5 HP6 HP7 HP8 HA8 HA9
  replace HA1 := Lib.hid (HA1.out.ext hb)
  replace HP1 := Lib.hid (HP1.out.ext hb)
  replace HA11 := Lib.hid (HA11.out.ext hb)
  replace HA2 := Lib.hid (HA2.out.ext hb)
  replace HA13 := Lib.hid (HA13.out.ext hb)
  replace HA4 := Lib.hid (HA4.out.ext hb)
  replace HA17 := Lib.hid (HA17.out.ext hb)
  replace HA18 := Lib.hid (HA18.out.ext hb)
  replace HI18 := Lib.hid (HI18.out.ext hb)
  replace HB := Lib.hid (ext_trans HB.out hb)
  clear hb hm1 hm2 hm3 hm4 HM3
  go_wp2_with fail
  go_loopw [40] (fun i wr => ∃ (k q : Nat), k ≤ L4.length ∧ i = .int .i64 k ∧ wr = wc.drewN q) (fun i _ => L4.length - (intOf i).toNat)
  case atStart => exact ⟨0, 0, Nat.zero_le _, rfl, rfl⟩
  case round =>
  obtain ⟨k, q, hk, rfl, rfl⟩ := hrel
  have e1 : (0:Int) ≤ k := by omega
  by_cases hlt : k < L4.length
  · have e2 : (k:Int) < L4.length := by omega
    obtain ⟨ad, rfl, _, hca⟩ := HA17.out.at hlt
    obtain ⟨bd, rfl, _, hcb⟩ := HA18.out.at hlt
    have qa := hca k hlt
    have qb := hcb k hlt
    obtain ⟨x, hx⟩ : ∃ x, gd L4 k = x := ⟨_, rfl⟩
    rw [hx] at qa qb
    clear hca hcb hx
    go_wp2_with fail
    go_quiet (fail)
    go_wp2_with fail
    go_roundw
    case rel => exact ⟨k + 1, _, hlt, by go_num, rfl⟩
    case measure => simp [intOf]; omega
  obtain rfl : k = L4.length := by omega
  have e2 : ¬ (L4.length:Int) < L4.length := by omega
  have hb := ext_drewN (ext_refl wc) q
  replace HA1 := Lib.hid (HA1.out.ext hb)
  replace HP1 := Lib.hid (HP1.out.ext hb)
  replace HA11 := Lib.hid (HA11.out.ext hb)
  replace HA2 := Lib.hid (HA2.out.ext hb)
  replace HA13 := Lib.hid (HA13.out.ext hb)
  replace HA4 := Lib.hid (HA4.out.ext hb)
  replace HA17 := Lib.hid (HA17.out.ext hb)
  replace HA18 := Lib.hid (HA18.out.ext hb)
  replace HI18 := Lib.hid (HI18.out.ext hb)
  replace HB := Lib.hid (ext_trans HB.out hb)
  clear hb
  generalize wc.drewN q = wd at *
  go_upto_if 256 with fail
  go_cut [41, 42] from 256 to 273 (fun _ _ wx => RowKit.Below wd.heap.size wd wx)
  case first =>
    by_cases hk4 : k4 = 0
    · subst hk4
      obtain ⟨hv, hsum, hpre⟩ := cust_out HM4.out
      have HF := Lib.hid (f6_sum _ M4 wd HI18.out hpre)
      have HBD := Lib.hid (fun k h => bsum_bd hv k h)
      have HL := Lib.hid (v_len hv)
      have hbr : ∀ k, k < l4.length → 1 ≤ (gd l4 k).br ∧ (gd l4 k).br ≤ 1000000 := fun k h => by
        obtain ⟨_, _, g3, _⟩ := oneO_iff.1 (v_one hv h)
        exact g3
      have HBR := Lib.hid hbr
      rw [hsum] at HF
      clear hv hsum hpre hbr
      go_wp2_with fail
      go_loop [41, 42] (fun u i => ∃ (k : Nat), k ≤ l4.length ∧ i = .int .i64 k ∧ u = .int .i64 (bsum l4 k)) (fun _ i => l4.length - (intOf i).toNat)
      case atStart => exact ⟨0, Nat.zero_le _, rfl, rfl⟩
      case round =>
        obtain ⟨k, hk, rfl, rfl⟩ := hrel
        have g1 : (0:Int) ≤ k := by omega
        by_cases hlt : k < l4.length
        · have g2 : (k:Int) < l4.length := by omega
          obtain ⟨ad, rfl, _, hc⟩ := HA4.out.at hlt
          obtain ⟨p0, p1', p2', p3, p4⟩ := hc k hlt
          have h1 := HBD.out k hk
          have h2 := HBD.out (k + 1) hlt
          have h3 := HBR.out k hlt
          have h4 := HL.out
          have hs := bsum_succ hlt
          obtain ⟨s1, hs1⟩ : ∃ y, bsum l4 k = y := ⟨_, rfl⟩
          obtain ⟨x1, hx1⟩ : ∃ y, (gd l4 k).br = y := ⟨_, rfl⟩
          rw [hs1] at h1 hs
          rw [hx1] at hs p2' h3
          rw [hs] at h2
          rw [hs1]
          have HSS := Lib.hid hs
          clear hs hs1 hx1 p0 p1' p3 p4 hc
          go_wp2_with fail
          go_round
          case rel => exact ⟨k + 1, hlt, by go_num, by rw [HSS.out]⟩
          case measure => simp [intOf]; omega
        · obtain rfl : k = l4.length := by omega
          have g2 : ¬ (l4.length:Int) < l4.length := by omega
          obtain ⟨T, hT⟩ : ∃ T, bsum l4 l4.length = T := ⟨_, rfl⟩
          rw [hT] at HF
          rw [hT]
          clear hT
          go_wp2_with fail
          refine (show Calls _ _ _ _ _ from HF.out).mono ?_
          rintro e we ⟨rfl, hb⟩
          have HX := Lib.hid hb
          clear hb
          go_wp2_with fail
          go_meet
          exact HX.out
    · have e3 : (k4 == 0) = false := beq_eq_false_iff_ne.2 hk4
      go_wp2_with fail
      go_meet
      exact ext_refl _
  case rest =>
  have hb := hcut
  clear hcut HM4
  clear HA4 HA17 HA18 HI18
  replace HA1 := Lib.hid (HA1.out.ext hb)
  replace HP1 := Lib.hid (HP1.out.ext hb)
  replace HA11 := Lib.hid (HA11.out.ext hb)
  replace HA2 := Lib.hid (HA2.out.ext hb)
  replace HA13 := Lib.hid (HA13.out.ext hb)
  replace HB := Lib.hid (ext_trans HB.out hb)
  clear hb
  go_upto_if 275 with fail
  go_cut [43, 44, 45, 46] from 275 to 298 (fun _ _ _ _ wx => RowKit.Below wc.heap.size wc wx)
  case first =>
    by_cases hk2 : k2 = 0
    · subst hk2
      obtain ⟨a, b, ha, hb, hab, ha0, ha1, hb0, hb1⟩ := send_open HM2.out
      have hI := impl_OpenBricks _ l2 wc HA2.out HS2.out
      rw [ha] at hI
      have HI := Lib.hid hI
      have hne : ((a - b) != n2) = false := by rw [hab]; simp
      clear hI ha hab
      go_wp2_with fail
      refine (show Calls _ _ _ _ _ from HI.out).mono ?_
      rintro e we ⟨rfl, hbe⟩
      have HX := Lib.hid hbe
      have hJ := impl_OpenBricks _ M2 we (HA13.out.ext hbe) HS13.out
      rw [hb] at hJ
      have HJ := Lib.hid hJ
      clear hbe hJ HI hb
      go_wp2_with fail
      refine (show Calls _ _ _ _ _ from HJ.out).mono ?_
      rintro e wg ⟨rfl, hbe⟩
      have HX2 := Lib.hid (ext_trans HX.out hbe)
      clear hbe HJ HX
      go_wp2_with fail
      go_meet
      exact HX2.out
    · have e3 : (k2 == 0) = false := beq_eq_false_iff_ne.2 hk2
      go_wp2_with fail
      go_meet
      exact ext_refl _
  case rest =>
  have hb := hcut
  clear hcut HM2
  clear HA2 HA13
  replace HA1 := Lib.hid (HA1.out.ext hb)
  replace HP1 := Lib.hid (HP1.out.ext hb)
  replace HA11 := Lib.hid (HA11.out.ext hb)
  replace HB := Lib.hid (ext_trans HB.out hb)
  clear hb
  by_cases hk1 : k1 = 0
  · subst hk1
    obtain ⟨q0, q1, q2, q3, q4⟩ := HP1.out
    have HQ := Lib.hid HP1.out
    clear q1 q2 q3
    by_cases hs : 0 < o1.sent
    · have e4 : decide (0 < o1.sent) = true := decide_eq_true hs
      go_wp2_with fail
      go_ret
      exact ⟨rfl, HB.out⟩
    · have e4 : decide (0 < o1.sent) = false := decide_eq_false hs
      have hI := impl_CancelOrder _ M1 o1.id wc HA11.out HS11.out
      rw [take_cancel HM1.out hs] at hI
      have HI := Lib.hid hI
      clear hI
      go_wp2_with fail
      refine (show Calls _ _ _ _ _ from HI.out).mono ?_
      rintro e we ⟨u, rfl, hO, hsm, hbe⟩
      obtain ⟨A20, c20, rfl, hc201, hc202⟩ := hO.rd.open_
      have HX := Lib.hid hbe
      have hJ := spec_SameOrders _ l1 _ l1 we hO.rd HS1.out (HA1.out.ext hbe) HS1.out
      rw [sameO_refl] at hJ
      have HJ := Lib.hid hJ
      clear HI hO hsm hbe hJ q0 q4
      go_wp2_with fail
      refine (show Calls _ _ _ _ _ from HJ.out).mono ?_
      rintro e wg ⟨rfl, hbe⟩
      have HX2 := Lib.hid (ext_trans HB.out (ext_trans HX.out hbe))
      clear hbe HJ HX
      go_wp2_with fail
      go_ret
      exact ⟨rfl, HX2.out⟩
  · have e1 : (k1 == 0) = false := beq_eq_false_iff_ne.2 hk1
    have e2 : (k1 != 0) = true := by simp [hk1]
    go_wp2_with fail
    go_ret
    exact ⟨rfl, HB.out⟩

end Go.Proofs.YtbggggaoljpfnaaGreatDoor
