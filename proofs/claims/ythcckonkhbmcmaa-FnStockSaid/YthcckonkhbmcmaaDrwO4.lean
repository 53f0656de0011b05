/-
  Drawn orders, fourth part: DrawReserveStock, DrawStockNeeded, DrawFirstShort, DrawLateOrders.
-/
import Derived.Test.YthcckonkhbmcmaaDrwO3
import Derived.OwnWalk
namespace Go.Proofs.Ythcckonkhbmcmaa
open Go.ChangeShapes Go.WideShapes Go.ChangeAt Go.RowKit Go.Sort
set_option linter.unusedVariables false
set_option maxRecDepth 100000

theorem sm_short {l : List OD} (hl : l.length ≤ 31) (ha : ∀ o ∈ l, o.cu.size ≤ 16) : SmODS l := by
  have h : ∀ m : List OD, (∀ o ∈ m, o.cu.size ≤ 16) → totOD m ≤ 16 * m.length := by
    intro m
    induction m with
    | nil => intro _; simp [totOD]
    | cons o m ih =>
      intro hm
      have h1 := ih (fun q hq => hm q (by simp [hq]))
      have h2 := hm o (by simp)
      unfold totOD at h1 ⊢
      simp only [List.map_cons, List.sum_cons, List.length_cons]
      omega
  have := h l ha
  unfold SmODS; omega
/-- What the draws of orders return: orders and a number. -/
def Drawn1 (w : World) : Ending → World → Prop := fun e w' => ∃ (u : Value) (l : List OD) (x : Int), e = .returned (.tuple #[u, .int .i64 x]) ∧ OODS w' w.heap.size u l ∧ SmODS l ∧ Below w.heap.size w w'
def Drawn2 (w : World) : Ending → World → Prop := fun e w' => ∃ (u : Value) (l : List OD) (x y : Int), e = .returned (.tuple #[u, .int .i64 x, .int .i64 y]) ∧ OODS w' w.heap.size u l ∧ SmODS l ∧ Below w.heap.size w w'

set_option maxHeartbeats 1600000 in
theorem draw_ReserveStock (v : Value) (bs : List UInt8) (w : World) (hR : RB w v bs) : Calls Try.prog 5 #[v] w (Drawn1 w) := by
  have HR := Lib.hid hR; clear hR
  go_enter Try.func5, Try.ntmps5
  go_wp2_with fail
  refine (src_start v bs _ HR.out).mono ?_
  rintro e w1 ⟨b, rfl, hS, hb⟩
  have HS := Lib.hid hS
  have HB := Lib.hid hb
  have hbl := hS.low
  have hbs := hS.lt
  clear hS hb
  go_wp2_with fail
  refine (draw_bent w b v bs 0 0 _ HS.out (by omega)).mono ?_
  rintro e w2 ⟨u, l, a2, s2, rfl, hl, ha, h21, h22, hS2, hO, hC⟩
  have HS2 := Lib.hid hS2
  have HO := Lib.hid (hO.mono (show w.heap.size ≤ w1.heap.size by omega))
  have HNB : Hid (∀ q, BODS u q → q ≠ b) := Lib.hid fun q hq e => by have := (hO.ge q hq).1; omega
  have HW := Lib.hid (Chg.ext HB.out hC (fun k hk => by omega))
  have HM := Lib.hid (sm_short hl ha)
  clear hS2 hO hC hl ha HS
  go_wp2_with fail
  refine (draw_stock w b v bs a2 s2 _ HS2.out (by omega)).mono ?_
  rintro e w3 ⟨x, a3, s3, rfl, h31, h32, hS3, hC3⟩
  have HO3 := Lib.hid (HO.out.chg hC3 HNB.out)
  have HW3 := Lib.hid (Chg.ext HW.out hC3 (fun k hk => by omega))
  clear hC3
  go_wp2_with fail
  go_ret2
  exact ⟨_, l, x, rfl, HO3.out, HM.out, HW3.out⟩
set_option maxHeartbeats 1600000 in
theorem draw_StockNeeded (v : Value) (bs : List UInt8) (w : World) (hR : RB w v bs) : Calls Try.prog 10 #[v] w (Drawn1 w) := by
  have HR := Lib.hid hR; clear hR
  go_enter Try.func10, Try.ntmps10
  go_wp2_with fail
  refine (src_start v bs _ HR.out).mono ?_
  rintro e w1 ⟨b, rfl, hS, hb⟩
  have HS := Lib.hid hS
  have HB := Lib.hid hb
  have hbl := hS.low
  have hbs := hS.lt
  clear hS hb
  go_wp2_with fail
  refine (draw_bent w b v bs 0 0 _ HS.out (by omega)).mono ?_
  rintro e w2 ⟨u, l, a2, s2, rfl, hl, ha, h21, h22, hS2, hO, hC⟩
  have HS2 := Lib.hid hS2
  have HO := Lib.hid (hO.mono (show w.heap.size ≤ w1.heap.size by omega))
  have HNB : Hid (∀ q, BODS u q → q ≠ b) := Lib.hid fun q hq e => by have := (hO.ge q hq).1; omega
  have HW := Lib.hid (Chg.ext HB.out hC (fun k hk => by omega))
  have HM := Lib.hid (sm_short hl ha)
  clear hS2 hO hC hl ha HS
  go_wp2_with fail
  refine (draw_each w b v bs a2 s2 _ HS2.out (by omega)).mono ?_
  rintro e w3 ⟨x, a3, s3, rfl, h31, h32, hS3, hC3⟩
  have HO3 := Lib.hid (HO.out.chg hC3 HNB.out)
  have HW3 := Lib.hid (Chg.ext HW.out hC3 (fun k hk => by omega))
  clear hC3
  go_wp2_with fail
  go_ret2
  exact ⟨_, l, x, rfl, HO3.out, HM.out, HW3.out⟩
set_option maxHeartbeats 1600000 in
theorem draw_FirstShort (v : Value) (bs : List UInt8) (w : World) (hR : RB w v bs) : Calls Try.prog 13 #[v] w (Drawn2 w) := by
  have HR := Lib.hid hR; clear hR
  go_enter Try.func13, Try.ntmps13
  go_wp2_with fail
  refine (src_start v bs _ HR.out).mono ?_
  rintro e w1 ⟨b, rfl, hS, hb⟩
  have HS := Lib.hid hS
  have HB := Lib.hid hb
  have hbl := hS.low
  have hbs := hS.lt
  clear hS hb
  go_wp2_with fail
  refine (draw_bent w b v bs 0 0 _ HS.out (by omega)).mono ?_
  rintro e w2 ⟨u, l, a2, s2, rfl, hl, ha, h21, h22, hS2, hO, hC⟩
  have HS2 := Lib.hid hS2
  have HO := Lib.hid (hO.mono (show w.heap.size ≤ w1.heap.size by omega))
  have HNB : Hid (∀ q, BODS u q → q ≠ b) := Lib.hid fun q hq e => by have := (hO.ge q hq).1; omega
  have HW := Lib.hid (Chg.ext HB.out hC (fun k hk => by omega))
  have HM := Lib.hid (sm_short hl ha)
  clear hS2 hO hC hl ha HS
  go_wp2_with fail
  refine (draw_stock w b v bs a2 s2 _ HS2.out (by omega)).mono ?_
  rintro e w3 ⟨x, a3, s3, rfl, h31, h32, hS3, hC3⟩
  have HO3 := Lib.hid (HO.out.chg hC3 HNB.out)
  have HW3 := Lib.hid (Chg.ext HW.out hC3 (fun k hk => by omega))
  have HS3 := Lib.hid hS3
  clear hC3 hS3
  go_wp2_with fail
  refine (draw_each w b v bs a3 s3 _ HS3.out (by omega)).mono ?_
  rintro e w4 ⟨y, a4, s4, rfl, h41, h42, hS4, hC4⟩
  have HO4 := Lib.hid (HO3.out.chg hC4 HNB.out)
  have HW4 := Lib.hid (Chg.ext HW3.out hC4 (fun k hk => by omega))
  clear hC4
  go_wp2_with fail
  go_ret3
  exact ⟨_, l, x, y, rfl, HO4.out, HM.out, HW4.out⟩
set_option maxHeartbeats 1600000 in
theorem draw_LateOrders (v : Value) (bs : List UInt8) (w : World) (hR : RB w v bs) : Calls Try.prog 16 #[v] w (Drawn1 w) := by
  have HR := Lib.hid hR; clear hR
  go_enter Try.func16, Try.ntmps16
  go_wp2_with fail
  refine (src_start v bs _ HR.out).mono ?_
  rintro e w1 ⟨b, rfl, hS, hb⟩
  have HS := Lib.hid hS
  have HB := Lib.hid hb
  have hbl := hS.low
  have hbs := hS.lt
  clear hS hb
  go_wp2_with fail
  refine (draw_bent w b v bs 0 0 _ HS.out (by omega)).mono ?_
  rintro e w2 ⟨u, l, a2, s2, rfl, hl, ha, h21, h22, hS2, hO, hC⟩
  have HS2 := Lib.hid hS2
  have HO := Lib.hid (hO.mono (show w.heap.size ≤ w1.heap.size by omega))
  have HNB : Hid (∀ q, BODS u q → q ≠ b) := Lib.hid fun q hq e => by have := (hO.ge q hq).1; omega
  have HW := Lib.hid (Chg.ext HB.out hC (fun k hk => by omega))
  have HM := Lib.hid (sm_short hl ha)
  clear hS2 hO hC hl ha HS
  go_wp2_with fail
  refine (src_one w b v bs a2 s2 10 _ HS2.out (by omega)).mono ?_
  rintro e w3 ⟨q, a3, s3, rfl, h31, h32, hS3, hC3⟩
  have HO3 := Lib.hid (HO.out.chg hC3 HNB.out)
  have HW3 := Lib.hid (Chg.ext HW.out hC3 (fun k hk => by omega))
  have HS3 := Lib.hid hS3
  clear hC3 hS3
  cases q with
  | false =>
    go_wp2_with fail
    refine (src_pick w b v bs a3 s3 14 _ HS3.out (by omega)).mono ?_
    rintro e w4 ⟨x, a4, s4, rfl, hx, h41, h42, hS4, hC4⟩
    have HO4 := Lib.hid (HO3.out.chg hC4 HNB.out)
    have HW4 := Lib.hid (Chg.ext HW3.out hC4 (fun k hk => by omega))
    clear hC4
    go_wp2_with fail
    go_ret2
    exact ⟨_, l, x, rfl, HO4.out, HM.out, HW4.out⟩
  | true =>
    go_wp2_with fail
    refine (src_litI w b v bs a3 s3 [-1, 0, 10001, 10002] (by simp) (by simp) w3 HS3.out (by omega) _ _ rfl).mono ?_
    rintro e w4 ⟨x, a4, s4, rfl, hx, h41, h42, hS4, hC4⟩
    have HO4 := Lib.hid (HO3.out.chg hC4 HNB.out)
    have HW4 := Lib.hid (Chg.ext HW3.out hC4 (fun k hk => by omega))
    clear hC4
    go_wp2_with fail
    go_ret2
    exact ⟨_, l, x, rfl, HO4.out, HM.out, HW4.out⟩

end Go.Proofs.Ythcckonkhbmcmaa
