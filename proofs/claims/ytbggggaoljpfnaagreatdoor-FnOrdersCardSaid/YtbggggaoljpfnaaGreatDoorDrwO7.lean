/-
  Drawn orders, fifth part: l25Ask, DrawCancelOrder, DrawSendBricks, DrawCustomersOf, DrawTakeOrder, DrawOrderText.
-/
import Derived.Test.YtbggggaoljpfnaaGreatDoorDrwO
import Derived.Deep.QuietTactic
import Derived.Test.YtbggggaoljpfnaaGreatDoorOrdT
import Derived.Test.YtbggggaoljpfnaaGreatDoorOrders10
import Derived.Test.YtbggggaoljpfnaaGreatDoorNumP
namespace Go.Proofs.YtbggggaoljpfnaaGreatDoor
open Go.ChangeShapes Go.WideShapes Go.ChangeAt Go.RowKit Go.Sort
set_option linter.unusedVariables false
set_option maxRecDepth 100000

theorem pick_nat {n : Nat} {x : Int} (h : pickOk n x) (h0 : 0 < n) : ∃ k : Nat, x = k ∧ k < n := by
  obtain ⟨z0, _, z2, z3⟩ := h
  refine ⟨x.toNat, by omega, ?_⟩
  rcases Nat.lt_or_ge 1 n with h | h
  · have := z2 (by omega); omega
  · have := z3 (by omega); omega
theorem BX5.f5 {w : World} {p : Nat} {o : OD} (h : BX5 w p o) : F5 w p 0 o := ⟨h.1, h.2.1, h.2.2.1, h.2.2.2.1, h.2.2.2.2.1, h.2.2.2.2.2⟩
theorem BX5.turn {w : World} {p i : Nat} {o o' : OD} {x : Value} (h : BX5 w p o) (ht : Turn5 o o' i x) : BX5 (w.setCell ⟨p, 0 + i, none⟩ x) p o' := by
  obtain ⟨h0, h1, h2, h3, h4, hf⟩ := h
  obtain ⟨hi, hj⟩ := ht
  rw [Nat.zero_add]
  have key : ∀ j, j < 5 → ∀ u, w.cell? ⟨p, j, none⟩ = some u → u = (cOD o).getD j undef → (w.setCell ⟨p, i, none⟩ x).cell? ⟨p, j, none⟩ = some ((cOD o').getD j undef) := by
    intro j hj5 u hu hv
    rw [hj j hj5]
    by_cases e : j = i
    · subst e
      rw [if_pos rfl]
      exact World.cell?_setCell_same _ _ _ hu
    · rw [if_neg e, World.cell?_setCell_other _ _ _ _ (by first | (simp; done) | (simp; omega)), hu, hv]
  exact ⟨key 0 (by omega) _ h0 rfl, key 1 (by omega) _ h1 rfl, key 2 (by omega) _ h2 rfl, key 3 (by omega) _ h3 rfl, key 4 (by omega) _ h4 rfl, fun i => by rw [World.frozen?_setCell]; exact hf i⟩

/-- What l25Ask draws. -/
def Asked (W0 : World) (b : Nat) (v : Value) (bs : List UInt8) (at' : Int) (w : World) : Ending → World → Prop := fun e w' => ∃ (u : Value) (l : List OD) (x at2 s2 : Int), e = .returned (.tuple #[u, .int .i64 x]) ∧ l.length ≤ 31 ∧ (∀ o ∈ l, o.cu.size ≤ 16) ∧ at' ≤ at2 ∧ at2 ≤ at' + 1010 ∧ Src W0 w' b v bs at2 s2 ∧ OODS w' w.heap.size u l ∧ Chg (fun k => k = b) w w'
set_option maxHeartbeats 1600000 in
theorem draw_ask (W0 : World) (b : Nat) (v : Value) (bs : List UInt8) (at' seed : Int) (w : World) (hS : Src W0 w b v bs at' seed) (ha : at' ≤ 10000) :
    Calls Tryz.prog 44 #[.pointer (some ⟨b, 0, none⟩)] w (Asked W0 b v bs at' w) := by
  have HS := Lib.hid hS
  have hbl := hS.lt
  clear hS
  go_enter Tryz.func44, Tryz.ntmps44
  go_wp2_with fail
  refine (draw_bent W0 b v bs at' seed _ HS.out ha).mono ?_
  rintro e w1 ⟨u, l, a1, s1, rfl, hl, hA, h11, h12, hS1, hO, hC⟩
  have HD1 : Hid (Src W0 w1 b v bs a1 s1 ∧ OODS w1 w.heap.size u l ∧ Chg (fun k => k = b) w w1) := Lib.hid ⟨hS1, hO, hC⟩
  have HNB : Hid (∀ q, BODS u q → q ≠ b) := Lib.hid fun q hq e => by have := (hO.ge q hq).1; omega
  have HA := Lib.hid hA
  obtain ⟨A, c, rfl, hc1, hc2⟩ := hO.rd.open_
  unfold maxLen at hc2
  clear hA hS1 hO hC HS
  by_cases hl0 : 0 < l.length
  · have e1 : (0:Int) < l.length := by omega
    have e2 : decide ((0:Int) < l.length) = true := decide_eq_true e1
    obtain ⟨g, hg, hgb, hgl, _⟩ := HD1.out.2.1.blk hl0
    subst hg
    go_wp2_with fail
    refine (src_one W0 b v bs a1 s1 4 _ HD1.out.1 (by omega)).mono ?_
    rintro e w2 ⟨q, a2, s2, rfl, h21, h22, HS2, HC2⟩
    have HD2 : Hid (Src W0 w2 b v bs a2 s2 ∧ OODS w2 w.heap.size (.slice (some ⟨g, 0, none⟩) l.length c) l ∧ Chg (fun k => k = b) w w2) := Lib.hid ⟨HS2, HD1.out.2.1.chg HC2 HNB.out, HD1.out.2.2.trans HC2⟩
    clear HS2 HC2 HD1
    cases q with
    | true =>
      go_wp2_with fail
      refine (src_pick W0 b v bs a2 s2 20 _ HD2.out.1 (by omega)).mono ?_
      rintro e w9 ⟨x, a9, s9, rfl, hx, h91, h92, HS9, HC9⟩
      have HD9 := Lib.hid (HD2.out.2.1.chg HC9 HNB.out)
      have HK9 := Lib.hid (HD2.out.2.2.trans HC9)
      have HS9 := Lib.hid HS9
      obtain ⟨x0, x1, _, _⟩ := hx
      clear HC9
      go_wp2_with fail
      go_ret2
      exact ⟨_, l, x - 1, a9, s9, rfl, hl, HA.out, by omega, by omega, HS9.out, HD9.out, HK9.out⟩
    | false =>
      have HPK := Lib.hid (src_pick W0 b v bs a2 s2 l.length w2.drew (src_drew HD2.out.1 1) (by omega))
      go_wp2_with fail
      go_region_with ((go_at_call 33; refine (show Calls _ _ _ _ _ from HPK.out).mono ?_; rintro e w3 ⟨x, a3, s3, rfl, hx, h31, h32, HS3, HC3⟩; (obtain ⟨k, rfl, hk⟩ := pick_nat hx hl0); (have e3 : (k:Int) < l.length := by omega); (have e4 : (0:Int) ≤ k := by omega); (have HD3 : Hid (Src W0 w3 b v bs a3 s3 ∧ OODS w3 w.heap.size (.slice (some ⟨g, 0, none⟩) l.length c) l ∧ Chg (fun k => k = b) w w3) := Lib.hid ⟨HS3, (HD2.out.2.1.chg ((Chg.of_below (ext_drew (ext_refl _)) _).trans HC3) HNB.out), HD2.out.2.2.trans ((Chg.of_below (ext_drew (ext_refl _)) _).trans HC3)⟩); (obtain ⟨c0, _, _, _, _, _⟩ := HD3.out.2.1.cells5 rfl hk); clear HS3 HC3 hx))
      all_goals
        go_wp2_with fail
        go_ret2
        exact ⟨_, l, _, a3, s3, rfl, hl, HA.out, by omega, by omega, HD3.out.1, HD3.out.2.1, HD3.out.2.2⟩
  · have e2 : decide ((0:Int) < l.length) = false := decide_eq_false (by omega)
    have e1 : ¬ (0:Int) < l.length := by omega
    go_wp2_with fail
    refine (src_pick W0 b v bs a1 s1 20 _ HD1.out.1 (by omega)).mono ?_
    rintro e w9 ⟨x, a9, s9, rfl, hx, h91, h92, HS9, HC9⟩
    have HD9 := Lib.hid (HD1.out.2.1.chg HC9 HNB.out)
    have HK9 := Lib.hid (HD1.out.2.2.trans HC9)
    have HS9 := Lib.hid HS9
    obtain ⟨x0, x1, _, _⟩ := hx
    clear HC9
    go_wp2_with fail
    go_ret2
    exact ⟨_, l, x - 1, a9, s9, rfl, hl, HA.out, by omega, by omega, HS9.out, HD9.out, HK9.out⟩

set_option maxHeartbeats 1600000 in
theorem draw_CancelOrder (v : Value) (bs : List UInt8) (w : World) (hR : RB w v bs) : Calls Tryz.prog 11 #[v] w (Drawn1 w) := by
  have HR := Lib.hid hR; clear hR
  go_enter Tryz.func11, Tryz.ntmps11
  go_wp2_with fail
  refine (src_start v bs _ HR.out).mono ?_
  rintro e w1 ⟨b, rfl, hS, hb⟩
  have HS := Lib.hid hS
  have HB := Lib.hid hb
  have hbl := hS.low
  have hbs := hS.lt
  clear hS hb
  go_wp2_with fail
  refine (draw_ask w b v bs 0 0 _ HS.out (by omega)).mono ?_
  rintro e w2 ⟨u, l, z, a2, s2, rfl, hl, ha, h21, h22, hS2, hO, hC⟩
  have HS2 := Lib.hid hS2
  have HO := Lib.hid (hO.mono (show w.heap.size ≤ w1.heap.size by omega))
  have HNB : Hid (∀ q, BODS u q → q ≠ b) := Lib.hid fun q hq e => by have := (hO.ge q hq).1; omega
  have HW := Lib.hid (Chg.ext HB.out hC (fun k hk => by omega))
  have HM := Lib.hid (sm_short hl ha)
  clear hS2 hO hC hl ha HS
  go_wp2_with fail
  go_ret2
  exact ⟨_, l, z, rfl, HO.out, HM.out, HW.out⟩
set_option maxHeartbeats 1600000 in
theorem draw_SendBricks (v : Value) (bs : List UInt8) (w : World) (hR : RB w v bs) : Calls Tryz.prog 8 #[v] w (Drawn2 w) := by
  have HR := Lib.hid hR; clear hR
  go_enter Tryz.func8, Tryz.ntmps8
  go_wp2_with fail
  refine (src_start v bs _ HR.out).mono ?_
  rintro e w1 ⟨b, rfl, hS, hb⟩
  have HS := Lib.hid hS
  have HB := Lib.hid hb
  have hbl := hS.low
  have hbs := hS.lt
  clear hS hb
  go_wp2_with fail
  refine (draw_ask w b v bs 0 0 _ HS.out (by omega)).mono ?_
  rintro e w2 ⟨u, l, z, a2, s2, rfl, hl, ha, h21, h22, hS2, hO, hC⟩
  have HS2 := Lib.hid hS2
  have HO := Lib.hid (hO.mono (show w.heap.size ≤ w1.heap.size by omega))
  have HNB : Hid (∀ q, BODS u q → q ≠ b) := Lib.hid fun q hq e => by have := (hO.ge q hq).1; omega
  have HW := Lib.hid (Chg.ext HB.out hC (fun k hk => by omega))
  have HM := Lib.hid (sm_short hl ha)
  clear hS2 hO hC hl ha HS
  go_wp2_with fail
  refine (src_one w b v bs a2 s2 8 _ HS2.out (by omega)).mono ?_
  rintro e w3 ⟨q, a3, s3, rfl, h31, h32, hS3, hC3⟩
  have HO3 := Lib.hid (HO.out.chg hC3 HNB.out)
  have HW3 := Lib.hid (Chg.ext HW.out hC3 (fun k hk => by omega))
  have HS3 := Lib.hid hS3
  clear hC3 hS3
  cases q with
  | false =>
    go_wp2_with fail
    refine (src_pick w b v bs a3 s3 20 _ HS3.out (by omega)).mono ?_
    rintro e w4 ⟨x, a4, s4, rfl, hx, h41, h42, hS4, hC4⟩
    have HO4 := Lib.hid (HO3.out.chg hC4 HNB.out)
    have HW4 := Lib.hid (Chg.ext HW3.out hC4 (fun k hk => by omega))
    obtain ⟨x0, x1, _, _⟩ := hx
    clear hC4
    go_wp2_with fail
    go_ret3
    exact ⟨_, l, z, _, rfl, HO4.out, HM.out, HW4.out⟩
  | true =>
    go_wp2_with fail
    refine (src_litI w b v bs a3 s3 [-1, 0, 1, 1000000, 1000001] (by simp) (by simp) w3 HS3.out (by omega) _ _ rfl).mono ?_
    rintro e w4 ⟨x, a4, s4, rfl, hx, h41, h42, hS4, hC4⟩
    have HO4 := Lib.hid (HO3.out.chg hC4 HNB.out)
    have HW4 := Lib.hid (Chg.ext HW3.out hC4 (fun k hk => by omega))
    clear hC4
    go_wp2_with fail
    go_ret3
    exact ⟨_, l, z, x, rfl, HO4.out, HM.out, HW4.out⟩
/-- What DrawCustomersOf returns. -/
def Drawn0 (w : World) : Ending → World → Prop := fun e w' => ∃ (u : Value) (l : List OD), e = .returned u ∧ OODS w' w.heap.size u l ∧ SmODS l ∧ Below w.heap.size w w'
set_option maxHeartbeats 1600000 in
theorem draw_CustomersOf (v : Value) (bs : List UInt8) (w : World) (hR : RB w v bs) : Calls Tryz.prog 14 #[v] w (Drawn0 w) := by
  have HR := Lib.hid hR; clear hR
  go_enter Tryz.func14, Tryz.ntmps14
  go_wp2_with fail
  refine (src_start v bs _ HR.out).mono ?_
  rintro e w1 ⟨b, rfl, hS, hb⟩
  have HS := Lib.hid hS
  have HB := Lib.hid hb
  have hbl := hS.low
  have hbs := hS.lt
  clear hS hb
  go_wp2_with fail
  refine (draw_bent w b v bs 0 0 _ HS.out (by omega)).mono ?_
  rintro e w2 ⟨u, l, a2, s2, rfl, hl, ha, h21, h22, hS2, hO, hC⟩
  have HS2 := Lib.hid hS2
  have HO := Lib.hid (hO.mono (show w.heap.size ≤ w1.heap.size by omega))
  have HNB : Hid (∀ q, BODS u q → q ≠ b) := Lib.hid fun q hq e => by have := (hO.ge q hq).1; omega
  have HW := Lib.hid (Chg.ext HB.out hC (fun k hk => by omega))
  have HM := Lib.hid (sm_short hl ha)
  clear hS2 hO hC hl ha HS
  go_wp2_with fail
  go_ret
  exact ⟨_, l, rfl, HO.out, HM.out, HW.out⟩
end Go.Proofs.YtbggggaoljpfnaaGreatDoor

/-
  Drawn orders, sixth part: DrawTakeOrder, DrawOrderText.
-/
namespace Go.Proofs.YtbggggaoljpfnaaGreatDoor
open Go.ChangeShapes Go.WideShapes Go.ChangeAt Go.RowKit Go.Sort
set_option linter.unusedVariables false
set_option maxRecDepth 100000

/-- What stands while an order is drawn beside a list: z is the result's cell block, q the order's box. -/
structure TK (wz w w' : World) (b : Nat) (v : Value) (bs : List UInt8) (at' seed : Int) (u : Value) (l : List OD) (z q : Nat) (o : OD) : Prop where
  src : Src wz w' b v bs at' seed
  own : OODS w' (z + 1) u l
  bz : BX5 w' z ⟨0, ⟨#[]⟩, 0, 0, 0⟩
  bq : BX5 w' q o
  low : Below w.heap.size w w'
  hz : w.heap.size = z
  hwz : wz.heap.size = z + 1
  hb : z < b
  hq : q ≠ b ∧ z < q
  hub : ¬ BODS u b
  sm : o.cu.size ≤ 16
section
variable {wz w w' w'' w1 : World} {b : Nat} {v : Value} {bs : List UInt8} {at' seed at2 seed2 : Int} {u : Value} {l : List OD} {z q i : Nat} {o o' : OD} {x : Value}
theorem TK.pick (h : TK wz w w' b v bs at' seed u l z q o) (hs : Src wz w'' b v bs at2 seed2) (hc : Chg (fun k => k = b) w' w'') : TK wz w w'' b v bs at2 seed2 u l z q o :=
  ⟨hs, h.own.chg hc (fun k hk e => h.hub (e ▸ hk)), h.bz.chg hc (by have := h.hb; omega), h.bq.chg hc h.hq.1, Chg.ext h.low hc (fun k hk => by have := h.hb; have := h.hz; omega), h.hz, h.hwz, h.hb, h.hq, h.hub, h.sm⟩
theorem TK.spoil (h : TK wz w w' b v bs at' seed u l z q o) (hqu : ¬ BODS u q) (hs : Src wz (w1.setCell ⟨q, 0 + i, none⟩ x) b v bs at2 seed2) (hc : Chg (fun k => k = b) w' w1) (ht : Turn5 o o' i x) (hsm : o.cu.size ≤ 16 → o'.cu.size ≤ 16) : TK wz w (w1.setCell ⟨q, 0 + i, none⟩ x) b v bs at2 seed2 u l z q o' := by
  have hs1 := chg_set w1 q (0 + i) x
  have hz := h.hz
  have hb := h.hb
  have hq := h.hq
  exact ⟨hs, (h.own.chg hc (fun k hk e => h.hub (e ▸ hk))).chg hs1 (fun k hk e => hqu (e ▸ hk)), (h.bz.chg hc (by omega)).chg hs1 (by omega), (h.bq.chg hc h.hq.1).turn ht, Chg.ext (Chg.ext h.low hc (fun k hk => by omega)) hs1 (fun k hk => by omega), h.hz, h.hwz, h.hb, h.hq, h.hub, hsm h.sm⟩
theorem TK.fin (h : TK wz w w' b v bs at' seed u l z q o) (T : World) (hT : Chg (fun k => k = z) w' T) : OODS T w.heap.size u l ∧ Below w.heap.size w T :=
  ⟨(h.own.chg hT (fun k hk e => by have := (h.own.ge k hk).1; omega)).mono (by have := h.hz; omega), Chg.ext h.low hT (fun k hk => by have := h.hz; omega)⟩
end
theorem chg5 (w : World) (z : Nat) (a b c d e : Value) : Chg (fun k => k = z) w (((((w.setCell ⟨z, 0, none⟩ a).setCell ⟨z, 1, none⟩ b).setCell ⟨z, 2, none⟩ c).setCell ⟨z, 3, none⟩ d).setCell ⟨z, 4, none⟩ e) :=
  ((((chg_set w z 0 a).trans (chg_set _ z 1 b)).trans (chg_set _ z 2 c)).trans (chg_set _ z 3 d)).trans (chg_set _ z 4 e)
/-- What DrawTakeOrder returns. -/
def DrawnT (w : World) : Ending → World → Prop := fun e w' => ∃ (u : Value) (l : List OD) (o : OD), e = .returned (.tuple #[u, .agg #[.int .i64 o.id, .string o.cu, .int .i64 o.br, .int .i64 o.due, .int .i64 o.sent]]) ∧ OODS w' w.heap.size u l ∧ SmODS l ∧ o.cu.size ≤ 16 ∧ Below w.heap.size w w'
set_option maxHeartbeats 1600000 in
theorem draw_TakeOrder (v : Value) (bs : List UInt8) (w : World) (hR : RB w v bs) : Calls Tryz.prog 5 #[v] w (DrawnT w) := by
  have HR := Lib.hid (hR.ext (ext_alloc1 w (.cells #[.int .i64 0, .string ⟨#[]⟩, .int .i64 0, .int .i64 0, .int .i64 0] 26)))
  clear hR
  go_enter Tryz.func5, Tryz.ntmps5
  go_wp2_with fail
  refine (src_start v bs _ HR.out).mono ?_
  rintro e w1 ⟨b, rfl, hS, hb⟩
  have HS := Lib.hid hS
  have HZ1 := Lib.hid ((b5_box w ⟨0, ⟨#[]⟩, 0, 0, 0⟩ 26).chg (Chg.of_below hb (fun _ => False)) (fun h => h))
  have hbl := hS.low
  simp only [size_alloc'] at hbl
  have hbs := hS.lt
  have hzb : w.heap.size < b := by omega
  have HW1 := Lib.hid (ext_trans (ext_alloc1 w _) hb)
  clear hS hb
  go_wp2_with fail
  refine (draw_bent _ b v bs 0 0 _ HS.out (by omega)).mono ?_
  rintro e w2 ⟨u, l, a2, s2, rfl, hl, ha, h21, h22, hS2, hO, hC⟩
  have HS2 := Lib.hid hS2
  have HNB : Hid (∀ q, BODS u q → q ≠ b) := Lib.hid fun q hq e => by have := (hO.ge q hq).1; omega
  have HO := Lib.hid (hO.mono (show w.heap.size + 1 ≤ w1.heap.size by omega))
  have HW2 := Lib.hid (Chg.ext HW1.out hC (fun k hk => by omega))
  have HZ2 := Lib.hid (HZ1.out.chg hC (by omega))
  have HM := Lib.hid (sm_short hl ha)
  obtain ⟨A, c, rfl, hc1, hc2⟩ := hO.rd.open_
  unfold maxLen at hc2
  clear hS2 hO hC ha HS HZ1 HW1
  go_wp2_with fail
  refine (src_pick _ b v bs a2 s2 20 _ HS2.out (by omega)).mono ?_
  rintro e w3 ⟨x3, a3, s3, rfl, hx, h31, h32, hS3, hC3⟩
  have HO3 := Lib.hid (HO.out.chg hC3 HNB.out)
  have HW3 := Lib.hid (Chg.ext HW2.out hC3 (fun k hk => by omega))
  have HZ3 := Lib.hid (HZ2.out.chg hC3 (by omega))
  have HS3 := Lib.hid hS3
  obtain ⟨x0, x1, _, _⟩ := hx
  clear hS3 hC3 HS2 HO HW2 HZ2
  generalize hu : (Value.slice A l.length c) = u at *
  by_cases h30 : 30 ≤ l.length
  · have e1 : (30:Int) ≤ l.length := by omega
    subst hu
    go_wp2_with fail
    refine (draw_new (w.alloc (.cells #[.int .i64 0, .string ⟨#[]⟩, .int .i64 0, .int .i64 0, .int .i64 0] 26)) b v bs a3 s3 (77) _ HS3.out (by omega)).mono ?_
    rintro e w4 ⟨o, a4, s4, rfl, hoid, hDO, h41, h42, hS4, hC4⟩
    have hdo := hDO.1
    have hZ4 := HZ3.out.chg hC4 (by omega)
    have hO4 := HO3.out.chg hC4 HNB.out
    have hW4 := Chg.ext HW3.out hC4 (fun k hk => by omega)
    have hw4 := hW4.size
    have hlt4 := hS4.lt
    have hub4 : ¬ BODS (.slice A l.length c) b := fun h => HNB.out b h rfl
    have hqu4 : ¬ BODS (.slice A l.length c) w4.heap.size := fun h => by have := (hO4.ge _ h).2; omega
    have hbx := ext_alloc1 w4 (.cells #[.int .i64 o.id, .string o.cu, .int .i64 o.br, .int .i64 o.due, .int .i64 o.sent] 26)
    have HT4 : Hid (TK (w.alloc (.cells #[.int .i64 0, .string ⟨#[]⟩, .int .i64 0, .int .i64 0, .int .i64 0] 26)) w (w4.alloc (.cells #[.int .i64 o.id, .string o.cu, .int .i64 o.br, .int .i64 o.due, .int .i64 o.sent] 26)) b v bs a4 s4 (.slice A l.length c) l w.heap.size w4.heap.size o) :=
      Lib.hid ⟨hS4.turn (Chg.of_below hbx (fun _ => False)) (fun _ h => h.elim) (fun h => h), (hO4.ext hbx), hZ4.chg (Chg.of_below hbx (fun _ => False)) (fun h => h), b5_box w4 o _, ext_trans hW4 hbx, rfl, by simp, hzb, ⟨by omega, by omega⟩, hub4, hdo⟩
    have HQU := Lib.hid hqu4
    have HBR := Lib.hid (show 0 ≤ o.br ∧ o.br ≤ 1000000 by have h1 := hDO.2.1; have h2 := hDO.2.2.1; omega)
    clear hoid hDO hdo hZ4 hO4 hW4 hub4 hqu4 hbx hS4 hC4 HS3 HZ3 HO3 HW3
    go_wp2_with fail
    generalize w4.alloc (.cells #[.int .i64 o.id, .string o.cu, .int .i64 o.br, .int .i64 o.due, .int .i64 o.sent] 26) = w5 at *
    generalize w4.heap.size = q at *
    refine (src_one _ b v bs a4 s4 8 _ HT4.out.src (by omega)).mono ?_
    rintro e w6 ⟨y, a6, s6, rfl, h61, h62, hS6, hC6⟩
    have HT6 := Lib.hid (HT4.out.pick hS6 hC6)
    clear hS6 hC6 HT4
    cases y with
    | false =>
      obtain ⟨c0, c1, c2, c3, c4, _⟩ := HT6.out.bq
      obtain ⟨z0, z1, z2, z3, z4, zf⟩ := HT6.out.bz
      have y0 := zf 0
      have y1 := zf 1
      have y2 := zf 2
      have y3 := zf 3
      have y4 := zf 4
      clear zf
      go_wp2_with fail
      go_region
      go_wp2_with fail
      refine bodyPost_ret (v := .tuple #[.slice A l.length c, .agg #[.int .i64 o.id, .string o.cu, .int .i64 o.br, .int .i64 o.due, .int .i64 o.sent]]) (by simp [results, Tryz.results5, go_sem, z0, z1, z2, z3, z4]) rfl ?_
      have HF := HT6.out.fin _ ((chg5 _ w.heap.size (.int .i64 o.id) (.string o.cu) (.int .i64 o.br) (.int .i64 o.due) (.int .i64 o.sent)).trans (Chg.of_below (ext_drew (ext_refl _)) _))
      exact ⟨_, l, o, rfl, HF.1, HM.out, HT6.out.sm, HF.2⟩
    | true =>
      go_wp2_with fail
      refine (draw_spoil _ b v bs a6 s6 q 0 o w6 HT6.out.src (by omega) HT6.out.hq.1 (by have := HT6.out.hwz; have := HT6.out.hq.2; omega) HT6.out.bq.f5 HBR.out.1 HBR.out.2).mono ?_
      rintro e w7 ⟨o', a7, s7, w8, i, x, rfl, ho', h71, h72, hs7, ht7, hc7, rfl⟩
      have HT7 := Lib.hid (HT6.out.spoil HQU.out hs7 hc7 ht7 ho')
      clear hs7 ht7 hc7 ho' HT6
      generalize w8.setCell ⟨q, 0 + i, none⟩ x = w9 at *
      obtain ⟨c0, c1, c2, c3, c4, _⟩ := HT7.out.bq
      obtain ⟨z0, z1, z2, z3, z4, zf⟩ := HT7.out.bz
      have y0 := zf 0
      have y1 := zf 1
      have y2 := zf 2
      have y3 := zf 3
      have y4 := zf 4
      clear zf
      go_wp2_with fail
      go_region
      go_wp2_with fail
      refine bodyPost_ret (v := .tuple #[.slice A l.length c, .agg #[.int .i64 o'.id, .string o'.cu, .int .i64 o'.br, .int .i64 o'.due, .int .i64 o'.sent]]) (by simp [results, Tryz.results5, go_sem, z0, z1, z2, z3, z4]) rfl ?_
      have HF := HT7.out.fin _ ((chg5 _ w.heap.size (.int .i64 o'.id) (.string o'.cu) (.int .i64 o'.br) (.int .i64 o'.due) (.int .i64 o'.sent)).trans (Chg.of_below (ext_drew (ext_refl _)) _))
      exact ⟨_, l, o', rfl, HF.1, HM.out, HT7.out.sm, HF.2⟩
  · have e1 : ¬ (30:Int) ≤ l.length := by omega
    subst hu
    go_wp2_with fail
    refine (draw_new (w.alloc (.cells #[.int .i64 0, .string ⟨#[]⟩, .int .i64 0, .int .i64 0, .int .i64 0] 26)) b v bs a3 s3 (1 + x3) _ HS3.out (by omega)).mono ?_
    rintro e w4 ⟨o, a4, s4, rfl, hoid, hDO, h41, h42, hS4, hC4⟩
    have hdo := hDO.1
    have hZ4 := HZ3.out.chg hC4 (by omega)
    have hO4 := HO3.out.chg hC4 HNB.out
    have hW4 := Chg.ext HW3.out hC4 (fun k hk => by omega)
    have hw4 := hW4.size
    have hlt4 := hS4.lt
    have hub4 : ¬ BODS (.slice A l.length c) b := fun h => HNB.out b h rfl
    have hqu4 : ¬ BODS (.slice A l.length c) w4.heap.size := fun h => by have := (hO4.ge _ h).2; omega
    have hbx := ext_alloc1 w4 (.cells #[.int .i64 o.id, .string o.cu, .int .i64 o.br, .int .i64 o.due, .int .i64 o.sent] 26)
    have HT4 : Hid (TK (w.alloc (.cells #[.int .i64 0, .string ⟨#[]⟩, .int .i64 0, .int .i64 0, .int .i64 0] 26)) w (w4.alloc (.cells #[.int .i64 o.id, .string o.cu, .int .i64 o.br, .int .i64 o.due, .int .i64 o.sent] 26)) b v bs a4 s4 (.slice A l.length c) l w.heap.size w4.heap.size o) :=
      Lib.hid ⟨hS4.turn (Chg.of_below hbx (fun _ => False)) (fun _ h => h.elim) (fun h => h), (hO4.ext hbx), hZ4.chg (Chg.of_below hbx (fun _ => False)) (fun h => h), b5_box w4 o _, ext_trans hW4 hbx, rfl, by simp, hzb, ⟨by omega, by omega⟩, hub4, hdo⟩
    have HQU := Lib.hid hqu4
    have HBR := Lib.hid (show 0 ≤ o.br ∧ o.br ≤ 1000000 by have h1 := hDO.2.1; have h2 := hDO.2.2.1; omega)
    clear hoid hDO hdo hZ4 hO4 hW4 hub4 hqu4 hbx hS4 hC4 HS3 HZ3 HO3 HW3
    go_wp2_with fail
    generalize w4.alloc (.cells #[.int .i64 o.id, .string o.cu, .int .i64 o.br, .int .i64 o.due, .int .i64 o.sent] 26) = w5 at *
    generalize w4.heap.size = q at *
    refine (src_one _ b v bs a4 s4 8 _ HT4.out.src (by omega)).mono ?_
    rintro e w6 ⟨y, a6, s6, rfl, h61, h62, hS6, hC6⟩
    have HT6 := Lib.hid (HT4.out.pick hS6 hC6)
    clear hS6 hC6 HT4
    cases y with
    | false =>
      obtain ⟨c0, c1, c2, c3, c4, _⟩ := HT6.out.bq
      obtain ⟨z0, z1, z2, z3, z4, zf⟩ := HT6.out.bz
      have y0 := zf 0
      have y1 := zf 1
      have y2 := zf 2
      have y3 := zf 3
      have y4 := zf 4
      clear zf
      go_wp2_with fail
      go_region
      go_wp2_with fail
      refine bodyPost_ret (v := .tuple #[.slice A l.length c, .agg #[.int .i64 o.id, .string o.cu, .int .i64 o.br, .int .i64 o.due, .int .i64 o.sent]]) (by simp [results, Tryz.results5, go_sem, z0, z1, z2, z3, z4]) rfl ?_
      have HF := HT6.out.fin _ ((chg5 _ w.heap.size (.int .i64 o.id) (.string o.cu) (.int .i64 o.br) (.int .i64 o.due) (.int .i64 o.sent)).trans (Chg.of_below (ext_drew (ext_refl _)) _))
      exact ⟨_, l, o, rfl, HF.1, HM.out, HT6.out.sm, HF.2⟩
    | true =>
      go_wp2_with fail
      refine (draw_spoil _ b v bs a6 s6 q 0 o w6 HT6.out.src (by omega) HT6.out.hq.1 (by have := HT6.out.hwz; have := HT6.out.hq.2; omega) HT6.out.bq.f5 HBR.out.1 HBR.out.2).mono ?_
      rintro e w7 ⟨o', a7, s7, w8, i, x, rfl, ho', h71, h72, hs7, ht7, hc7, rfl⟩
      have HT7 := Lib.hid (HT6.out.spoil HQU.out hs7 hc7 ht7 ho')
      clear hs7 ht7 hc7 ho' HT6
      generalize w8.setCell ⟨q, 0 + i, none⟩ x = w9 at *
      obtain ⟨c0, c1, c2, c3, c4, _⟩ := HT7.out.bq
      obtain ⟨z0, z1, z2, z3, z4, zf⟩ := HT7.out.bz
      have y0 := zf 0
      have y1 := zf 1
      have y2 := zf 2
      have y3 := zf 3
      have y4 := zf 4
      clear zf
      go_wp2_with fail
      go_region
      go_wp2_with fail
      refine bodyPost_ret (v := .tuple #[.slice A l.length c, .agg #[.int .i64 o'.id, .string o'.cu, .int .i64 o'.br, .int .i64 o'.due, .int .i64 o'.sent]]) (by simp [results, Tryz.results5, go_sem, z0, z1, z2, z3, z4]) rfl ?_
      have HF := HT7.out.fin _ ((chg5 _ w.heap.size (.int .i64 o'.id) (.string o'.cu) (.int .i64 o'.br) (.int .i64 o'.due) (.int .i64 o'.sent)).trans (Chg.of_below (ext_drew (ext_refl _)) _))
      exact ⟨_, l, o', rfl, HF.1, HM.out, HT7.out.sm, HF.2⟩
/-- What DrawOrderText returns. -/
def DrawnO (w : World) : Ending → World → Prop := fun e w' => ∃ (o : OD), e = .returned (.agg #[.int .i64 o.id, .string o.cu, .int .i64 o.br, .int .i64 o.due, .int .i64 o.sent]) ∧ o.cu.size ≤ 16 ∧ Below w.heap.size w w'
set_option maxHeartbeats 1600000 in
theorem draw_OrderText (v : Value) (bs : List UInt8) (w : World) (hR : RB w v bs) : Calls Tryz.prog 17 #[v] w (DrawnO w) := by
  have HR := Lib.hid (hR.ext (ext_alloc1 w (.cells #[.int .i64 0, .string ⟨#[]⟩, .int .i64 0, .int .i64 0, .int .i64 0] 26)))
  clear hR
  go_enter Tryz.func17, Tryz.ntmps17
  go_wp2_with fail
  refine (src_start v bs _ HR.out).mono ?_
  rintro e w1 ⟨b, rfl, hS, hb⟩
  have HS := Lib.hid hS
  have HZ1 := Lib.hid ((b5_box w ⟨0, ⟨#[]⟩, 0, 0, 0⟩ 26).chg (Chg.of_below hb (fun _ => False)) (fun h => h))
  have hbl := hS.low
  simp only [size_alloc'] at hbl
  have hbs := hS.lt
  have hzb : w.heap.size < b := by omega
  have HW1 := Lib.hid (ext_trans (ext_alloc1 w _) hb)
  clear hS hb
  go_wp2_with fail
  refine (draw_new _ b v bs 0 0 12 _ HS.out (by omega)).mono ?_
  rintro e w4 ⟨o, a4, s4, rfl, hoid, hDO, h41, h42, hS4, hC4⟩
  have hdo := hDO.1
  have hZ4 := HZ1.out.chg hC4 (by omega)
  have hW4 := Chg.ext HW1.out hC4 (fun k hk => by omega)
  have hw4 := hW4.size
  have hlt4 := hS4.lt
  have hbx := ext_alloc1 w4 (.cells #[.int .i64 o.id, .string o.cu, .int .i64 o.br, .int .i64 o.due, .int .i64 o.sent] 26)
  have HT4 : Hid (TK (w.alloc (.cells #[.int .i64 0, .string ⟨#[]⟩, .int .i64 0, .int .i64 0, .int .i64 0] 26)) w (w4.alloc (.cells #[.int .i64 o.id, .string o.cu, .int .i64 o.br, .int .i64 o.due, .int .i64 o.sent] 26)) b v bs a4 s4 (.slice none 0 0) [] w.heap.size w4.heap.size o) :=
    Lib.hid ⟨hS4.turn (Chg.of_below hbx (fun _ => False)) (fun _ h => h.elim) (fun h => h), ood_nil _ _, hZ4.chg (Chg.of_below hbx (fun _ => False)) (fun h => h), b5_box w4 o _, ext_trans hW4 hbx, rfl, by simp, hzb, ⟨by omega, by omega⟩, fun h => by simp [BODS, BI, Value.ownBlock] at h, hdo⟩
  have HBR := Lib.hid (show 0 ≤ o.br ∧ o.br ≤ 1000000 by have h1 := hDO.2.1; have h2 := hDO.2.2.1; omega)
  clear hoid hDO hdo hZ4 hW4 hbx hS4 hC4 HS HZ1 HW1
  go_wp2_with fail
  generalize w4.alloc (.cells #[.int .i64 o.id, .string o.cu, .int .i64 o.br, .int .i64 o.due, .int .i64 o.sent] 26) = w5 at *
  generalize w4.heap.size = q at *
  refine (src_one _ b v bs a4 s4 4 _ HT4.out.src (by omega)).mono ?_
  rintro e w6 ⟨y, a6, s6, rfl, h61, h62, hS6, hC6⟩
  have HT6 := Lib.hid (HT4.out.pick hS6 hC6)
  clear hS6 hC6 HT4
  cases y with
  | false =>
    obtain ⟨c0, c1, c2, c3, c4, _⟩ := HT6.out.bq
    obtain ⟨z0, z1, z2, z3, z4, zf⟩ := HT6.out.bz
    have y0 := zf 0
    have y1 := zf 1
    have y2 := zf 2
    have y3 := zf 3
    have y4 := zf 4
    clear zf
    go_wp2_with fail
    refine bodyPost_ret (v := .agg #[.int .i64 o.id, .string o.cu, .int .i64 o.br, .int .i64 o.due, .int .i64 o.sent]) (by simp [results, Tryz.results17, go_sem, z0, z1, z2, z3, z4]) rfl ?_
    have HF := HT6.out.fin _ (chg5 _ w.heap.size (.int .i64 o.id) (.string o.cu) (.int .i64 o.br) (.int .i64 o.due) (.int .i64 o.sent))
    exact ⟨o, rfl, HT6.out.sm, HF.2⟩
  | true =>
    go_wp2_with fail
    refine (draw_spoil _ b v bs a6 s6 q 0 o w6 HT6.out.src (by omega) HT6.out.hq.1 (by have := HT6.out.hwz; have := HT6.out.hq.2; omega) HT6.out.bq.f5 HBR.out.1 HBR.out.2).mono ?_
    rintro e w7 ⟨o', a7, s7, w8, i, x, rfl, ho', h71, h72, hs7, ht7, hc7, rfl⟩
    have HT7 := Lib.hid (HT6.out.spoil (fun h => by simp [BODS, BI, Value.ownBlock] at h) hs7 hc7 ht7 ho')
    clear hs7 ht7 hc7 ho' HT6
    generalize w8.setCell ⟨q, 0 + i, none⟩ x = w9 at *
    obtain ⟨c0, c1, c2, c3, c4, _⟩ := HT7.out.bq
    obtain ⟨z0, z1, z2, z3, z4, zf⟩ := HT7.out.bz
    have y0 := zf 0
    have y1 := zf 1
    have y2 := zf 2
    have y3 := zf 3
    have y4 := zf 4
    clear zf
    go_wp2_with fail
    refine bodyPost_ret (v := .agg #[.int .i64 o'.id, .string o'.cu, .int .i64 o'.br, .int .i64 o'.due, .int .i64 o'.sent]) (by simp [results, Tryz.results17, go_sem, z0, z1, z2, z3, z4]) rfl ?_
    have HF := HT7.out.fin _ (chg5 _ w.heap.size (.int .i64 o'.id) (.string o'.cu) (.int .i64 o'.br) (.int .i64 o'.due) (.int .i64 o'.sent))
    exact ⟨o', rfl, HT7.out.sm, HF.2⟩
end Go.Proofs.YtbggggaoljpfnaaGreatDoor

/-
  Drawn orders, seventh part: l01Spoil, DrawReadOrder, DrawSameOrders.
-/
namespace Go.Proofs.YtbggggaoljpfnaaGreatDoor
open Go.ChangeShapes Go.WideShapes Go.ChangeAt Go.RowKit Go.Sort
set_option linter.unusedVariables false
set_option maxRecDepth 100000

theorem ext_size (s : ByteArray) (a b : Nat) : (s.extract a b).size = min b s.size - a := ByteArray.size_extract
theorem empt (t : ByteArray) : t.toList.isEmpty = decide (t.size = 0) := by
  rw [ByteArray.toList_eq, ← size_toList]
  cases t.data.toList with
  | nil => rfl
  | cons a r => simp
/-- A text with a change. -/
def Spoil (W0 : World) (b : Nat) (v : Value) (bs : List UInt8) (at' : Int) (t : ByteArray) (w : World) : Ending → World → Prop := fun e w' => ∃ (t2 : ByteArray) (at2 s2 : Int), e = .returned (.string t2) ∧ t2.size ≤ t.size + 1 ∧ at' ≤ at2 ∧ at2 ≤ at' + 6 ∧ Src W0 w' b v bs at2 s2 ∧ Chg (fun k => k = b) w w'
set_option maxHeartbeats 1600000 in
theorem draw_spoilT (W0 : World) (b : Nat) (v : Value) (bs : List UInt8) (at' seed : Int) (t : ByteArray) (ht : t.size ≤ 100000) (w : World) (hS : Src W0 w b v bs at' seed) (ha : at' ≤ 1000000) :
    Calls Tryz.prog 57 #[.pointer (some ⟨b, 0, none⟩), .string t] w (Spoil W0 b v bs at' t w) := by
  have HS := Lib.hid hS; clear hS
  go_enter Tryz.func57, Tryz.ntmps57
  go_wp2_with fail
  refine (src_pick W0 b v bs at' seed 5 _ HS.out (by omega)).mono ?_
  rintro e w1 ⟨x, a1, s1, rfl, hx, h1, h2, HS1, HC1⟩
  have HS1 := Lib.hid HS1
  have HC1 := Lib.hid HC1
  obtain ⟨x0, _, x4, _⟩ := hx
  have x4 := x4 (by omega)
  clear HS
  by_cases hx0 : x = 0
  · subst hx0
    go_wp2_with fail
    refine (src_pick W0 b v bs a1 s1 ((t.size : Int) + 1) _ HS1.out (by omega)).mono ?_
    rintro e w2 ⟨y, a2, s2, rfl, hy, h3, h4, HS2, HC2⟩
    obtain ⟨k, rfl, hk⟩ := pick_nat (n := t.size + 1) hy (by omega)
    have HC2 := Lib.hid (HC1.out.trans HC2)
    have HAM := Lib.hid (src_litSD W0 b v bs a2 s2 [⟨#[32]⟩, ⟨#[48]⟩, ⟨#[45]⟩, ⟨#[120]⟩, ⟨#[49]⟩, ⟨#[57]⟩, ⟨#[46]⟩] (by simp) (by simp) w2 HS2 (by omega) 9 _ rfl)
    have e1 : (0:Int) ≤ k := by omega
    have e2 : (k:Int) ≤ t.size := by omega
    have e3 : k ≤ t.size := by omega
    have HZ1 := Lib.hid (ext_size t 0 k)
    have HZ2 := Lib.hid (ext_size t k t.size)
    clear hy HS2 HS1
    go_wp2_with fail
    go_region_with ((go_at_call 63; refine (show Calls _ _ _ _ _ from HAM.out).mono ?_; rintro e w3 ⟨z, a3, s3, rfl, hz, h5, h6, HS3, HC3⟩; (have hz1 : z.size = 1 := (by simp at hz; rcases hz with rfl | rfl | rfl | rfl | rfl | rfl | rfl <;> rfl)); (have HZ := Lib.hid hz1); (have e5 : ¬ 9223372036854775807 < min k t.size + z.size := (by omega)); (have e6 : ¬ 9223372036854775807 < min k t.size + z.size + (t.size - k) := (by omega)); (have HS3 := Lib.hid HS3); (have HC3 := Lib.hid (HC2.out.trans HC3)); clear hz hz1))
    all_goals
      go_wp2_with fail
      go_ret
      refine ⟨_, a3, s3, rfl, ?_, by omega, by omega, HS3.out, HC3.out⟩
      rw [ByteArray.size_append, ByteArray.size_append, HZ1.out, HZ2.out, HZ.out]
      omega
  · have e0 : (x == 0) = false := by simp [hx0]
    by_cases hx1 : x = 1
    · subst hx1
      by_cases hz : t.size = 0
      · have ht0 : t.toList.isEmpty = true := by rw [empt]; exact decide_eq_true hz
        have ht1 : (!t.toList.isEmpty) = false := by rw [ht0]; rfl
        go_wp2_with fail
        go_ret
        exact ⟨t, a1, s1, rfl, by omega, by omega, by omega, HS1.out, HC1.out⟩
      · have ht0 : t.toList.isEmpty = false := by rw [empt]; exact decide_eq_false hz
        have ht1 : (!t.toList.isEmpty) = true := by rw [ht0]; rfl
        go_wp2_with fail
        refine (src_pick W0 b v bs a1 s1 t.size _ HS1.out (by omega)).mono ?_
        rintro e w2 ⟨y, a2, s2, rfl, hy, h3, h4, HS2, HC2⟩
        obtain ⟨k, rfl, hk⟩ := pick_nat hy (by omega)
        have HC2 := Lib.hid (HC1.out.trans HC2)
        have HS2 := Lib.hid HS2
        have e1 : (0:Int) ≤ k := by omega
        have e2 : (k:Int) ≤ t.size := by omega
        have e3 : k ≤ t.size := by omega
        have e4 : (k:Int) + 1 ≤ t.size := by omega
        have e5 : (0:Int) ≤ (k:Int) + 1 := by omega
        have e6 : IntKind.i64.wrap ((k:Int) + 1) = (k:Int) + 1 := IntWalk.i64_in _ (by omega)
        have e7 : ((k:Int) + 1).toNat = k + 1 := by omega
        have e8 : ¬ 9223372036854775807 < min k t.size + (t.size - (k + 1)) := by omega
        have HZ1 := Lib.hid (ext_size t 0 k)
        have HZ2 := Lib.hid (ext_size t (k + 1) t.size)
        clear hy ht0 ht1 HS1
        go_wp2_with fail
        go_quiet (fail)
        clear e6 e7
        go_wp2_with fail
        go_ret
        refine ⟨_, a2, s2, rfl, ?_, by omega, by omega, src_drew HS2.out _, HC2.out.trans (Chg.of_below (ext_drewN (ext_refl _) _) _)⟩
        rw [ByteArray.size_append, HZ1.out, HZ2.out]
        omega
    · have e1 : (x == 1) = false := by simp [hx1]
      go_wp2_with fail
      go_ret
      exact ⟨t, a1, s1, rfl, by omega, by omega, by omega, HS1.out, HC1.out⟩
theorem odb_size {o : OD} (h : oneO o = true) : (odb o).size ≤ 200 := by
  obtain ⟨g1, g2, g3, g4, g5⟩ := oneO_iff.1 h
  have h0 := (isN_size g2).2
  have h1 := itb_size o.id (by omega) (by omega)
  have h2 := itb_size o.sent (by omega) (by omega)
  have h3 := itb_size o.br (by omega) (by omega)
  have h4 := itb_size o.due (by omega) (by omega)
  unfold odb
  simp only [ByteArray.size_append]
  have a1 : (⟨#[35]⟩ : ByteArray).size = 1 := rfl
  have a2 : (⟨#[32]⟩ : ByteArray).size = 1 := rfl
  have a3 : (⟨#[47]⟩ : ByteArray).size = 1 := rfl
  have a4 : (⟨#[32, 100, 117, 101, 32]⟩ : ByteArray).size = 5 := rfl
  omega
/-- What DrawReadOrder returns. -/
def DrawnS (w : World) : Ending → World → Prop := fun e w' => ∃ (t : ByteArray), e = .returned (.string t) ∧ t.size ≤ 1000 ∧ Below w.heap.size w w'
set_option maxHeartbeats 1600000 in
theorem draw_ReadOrder (v : Value) (bs : List UInt8) (w : World) (hR : RB w v bs) : Calls Tryz.prog 20 #[v] w (DrawnS w) := by
  have HR := Lib.hid hR
  clear hR
  go_enter Tryz.func20, Tryz.ntmps20
  go_wp2_with fail
  refine (src_start v bs _ HR.out).mono ?_
  rintro e w1 ⟨b, rfl, hS, hb⟩
  have HS := Lib.hid hS
  have HW1 := Lib.hid hb
  have hbl := hS.low
  have hbs := hS.lt
  clear hS hb
  go_wp2_with fail
  refine (draw_new _ b v bs 0 0 12 _ HS.out (by omega)).mono ?_
  rintro e w4 ⟨o, a4, s4, rfl, hoid, hDO, h41, h42, hS4, hC4⟩
  obtain ⟨d1, _, d3, d4, d5, d6, d7⟩ := hDO
  have hone : oneO o = true := oneO_iff.2 ⟨by omega, d4, by omega, d6, d7⟩
  have hW4 := Chg.ext HW1.out hC4 (fun k hk => by omega)
  have hbx := ext_alloc1 w4 (.cells #[.int .i64 o.id, .string o.cu, .int .i64 o.br, .int .i64 o.due, .int .i64 o.sent] 26)
  have HW5 := Lib.hid (ext_trans hW4 hbx)
  have HS5 := Lib.hid (hS4.turn (Chg.of_below hbx (fun _ => False)) (fun _ h => h.elim) (fun h => h))
  have HTX := Lib.hid (spec_text ⟨w4.heap.size, 0, none⟩ o _ hone (show o.cu.size ≤ 1048576 by omega) (pOD_box w4 o 26))
  have hsz := odb_size hone
  obtain ⟨t, ht⟩ : ∃ t, odb o = t := ⟨_, rfl⟩
  rw [ht] at hsz HTX
  clear hoid d1 d3 d4 d5 d6 d7 hone hW4 hbx hS4 hC4 HS HW1 ht
  go_wp2_with fail
  refine (show Calls _ _ _ _ _ from HTX.out).mono ?_
  rintro e w6 ⟨rfl, hb6⟩
  have HW6 := Lib.hid (ext_trans HW5.out hb6)
  have HS6 := Lib.hid (HS5.out.turn (Chg.of_below hb6 (fun _ => False)) (fun _ h => h.elim) (fun h => h))
  clear hb6 HTX HS5 HW5
  go_wp2_with fail
  refine (src_one _ b v bs a4 s4 3 _ HS6.out (by omega)).mono ?_
  rintro e w7 ⟨y, a7, s7, rfl, h71, h72, hS7, hC7⟩
  have HS7 := Lib.hid hS7
  have HW7 := Lib.hid (Chg.ext HW6.out hC7 (fun k hk => by omega))
  clear hS7 hC7 HS6 HW6
  cases y with
  | false =>
    go_wp2_with fail
    go_ret
    exact ⟨t, rfl, by omega, HW7.out⟩
  | true =>
    go_wp2_with fail
    refine (draw_spoilT _ b v bs a7 s7 t (by omega) _ HS7.out (by omega)).mono ?_
    rintro e w8 ⟨t2, a8, s8, rfl, ht2, h81, h82, hS8, hC8⟩
    have HW8 := Lib.hid (Chg.ext HW7.out hC8 (fun k hk => by omega))
    clear hS8 hC8
    go_wp2_with fail
    go_ret
    exact ⟨t2, rfl, by omega, HW8.out⟩
/-- What DrawSameOrders returns. -/
def Drawn2L (w : World) : Ending → World → Prop := fun e w' => ∃ (u : Value) (l : List OD) (u2 : Value) (m : List OD), e = .returned (.tuple #[u, u2]) ∧ OODS w' w.heap.size u l ∧ SmODS l ∧ OODS w' w.heap.size u2 m ∧ SmODS m ∧ Below w.heap.size w w'
/-- What stands while a second list is drawn: u, l is the first one, u2, m the second one. -/
structure SL (W0 w' : World) (b : Nat) (v : Value) (bs : List UInt8) (at' seed : Int) (u : Value) (l : List OD) (u2 : Value) (m : List OD) (base : Nat) : Prop where
  src : Src W0 w' b v bs at' seed
  own1 : OODS w' W0.heap.size u l
  own2 : OODS w' base u2 m
  low : Below W0.heap.size W0 w'
  hub : ¬ BODS u b
  hul : ∀ k, BODS u k → k < base
  hb : b < base
  hB : W0.heap.size ≤ base
  sm : ∀ o ∈ m, o.cu.size ≤ 16
  len : m.length ≤ 8
  hz : base ≤ w'.heap.size
section
variable {W0 w' w'' : World} {b : Nat} {v : Value} {bs : List UInt8} {at' seed at2 seed2 : Int} {u u2 u3 : Value} {l m : List OD} {base g n c k i : Nat} {o o' : OD} {x : Value}
theorem SL.pick (h : SL W0 w' b v bs at' seed u l u2 m base) (hs : Src W0 w'' b v bs at2 seed2) (hc : Chg (fun k => k = b) w' w'') : SL W0 w'' b v bs at2 seed2 u l u2 m base :=
  ⟨hs, h.own1.chg hc (fun k hk e => h.hub (e ▸ hk)), h.own2.chg hc (fun k hk e => by have := (h.own2.ge k hk).1; have := h.hb; omega), Chg.ext h.low hc (fun k hk => by have := h.src.low; omega), h.hub, h.hul, h.hb, h.hB, h.sm, h.len, Nat.le_trans h.hz hc.size⟩
theorem SL.other (h : SL W0 w' b v bs at' seed u l u2 m base) {S : Nat → Prop} (hc : Chg S w' w'') (hS : ∀ k, S k → base ≤ k) {m2 : List OD} (ho : OODS w'' base u3 m2) (hm : ∀ o ∈ m2, o.cu.size ≤ 16) (hl : m2.length ≤ 8) : SL W0 w'' b v bs at' seed u l u3 m2 base :=
  ⟨h.src.turn hc (fun k hk => Nat.le_trans h.hB (hS k hk)) (fun hk => by have := hS b hk; have := h.hb; omega), h.own1.chg hc (fun k hk hk2 => by have := hS k hk2; have := h.hul k hk; omega), ho, Chg.ext h.low hc (fun k hk => Nat.le_trans h.hB (hS k hk)), h.hub, h.hul, h.hb, h.hB, hm, hl, Nat.le_trans h.hz hc.size⟩
theorem SL.drew (h : SL W0 w' b v bs at' seed u l u2 m base) : SL W0 w'.drew b v bs at' seed u l u2 m base :=
  h.other (Chg.of_below (ext_drew (ext_refl _)) (fun _ => False)) (fun _ h => h.elim) (h.own2.ext (ext_drew (ext_refl _))) h.sm h.len
end
/-- 'append(list, Order{})'. -/
theorem wpList_append_o0 {w0 : World} {ops : Array Oper} {rest : List Oper} {o : Oper} {a : Act} {Q : Exit → Act → World → Prop} (hgd : o.guard = none) (s x : Operand)
    (ho : o.op = .call { callee := .builtin .append, args := #[s, x], argTypes := #[24, 24] })
    (base : Nat) (v : Value) (l : List OD) (hs : a.eval s = v) (hx : a.eval x = .slice (some ⟨w0.heap.size, 0, none⟩) 1 1) (hO : OODS w0 base v l)
    (hl : l.length ≤ 1048576) (hbase : base ≤ w0.heap.size)
    (h : ∀ g cap w', OODS w' base (.slice (some ⟨g, 0, none⟩) (l.length + 1) cap) (l ++ [⟨0, ⟨#[]⟩, 0, 0, 0⟩]) → Chg (BODS v) w0 w' → wpList Tryz.prog ops Q rest (a.put o.dst (.slice (some ⟨g, 0, none⟩) (l.length + 1) cap)) w') :
    wpList Tryz.prog ops Q (o :: rest) a (w0.alloc (.cells #[.int .i64 0, .string ⟨#[]⟩, .int .i64 0, .int .i64 0, .int .i64 0] 26)) :=
  wpList_append_o1 hgd s x ho base v l ⟨0, ⟨#[]⟩, 0, 0, 0⟩ hs hx hO hl hbase h
set_option maxHeartbeats 1600000 in
theorem draw_SameOrders (v : Value) (bs : List UInt8) (w : World) (hR : RB w v bs) : Calls Tryz.prog 22 #[v] w (Drawn2L w) := by
  have HR := Lib.hid hR
  clear hR
  go_enter Tryz.func22, Tryz.ntmps22
  go_wp2_with fail
  refine (src_start v bs _ HR.out).mono ?_
  rintro e w1 ⟨b, rfl, hS, hb⟩
  have HS := Lib.hid hS
  have HW1 := Lib.hid hb
  have hbl := hS.low
  have hbs := hS.lt
  have hbw := hb.size
  clear hS hb
  go_wp2_with fail
  refine (draw_list _ b v bs 0 0 _ HS.out (by omega)).mono ?_
  rintro e w2 ⟨A, c, l, a2, s2, rfl, hl, h21, h22, hD⟩
  have HD := Lib.hid hD
  have hw2 := hD.chg.size
  have HM := Lib.hid (sm_short (l := l) (by omega) (fun o ho => (hD.all o ho).1))
  clear hD HS
  have hs3 : ∀ (A1 : Option Addr) (c1 : Nat) (w3 : World), OODS w3 w2.heap.size (.slice A1 l.length c1) l → Chg (BODS (.slice (some ⟨w2.heap.size, 0, none⟩) 0 0)) (w2.alloc (.cells #[] 26)) w3 → SL w w3 b v bs a2 s2 (.slice A l.length c) l (.slice A1 l.length c1) l w2.heap.size := fun A1 c1 w3 hO hg => by
    have hd := HD.out
    have hg2 : Chg (fun k => k = w2.heap.size) w2 w3 := (Chg.of_below (ext_alloc1 _ _) _).trans ⟨hg.os, hg.tape, hg.output, hg.size, fun k hk hn => hg.block k hk (fun h => hn (by simp [BODS, BI, Value.ownBlock] at h; exact h.symm))⟩
    exact ⟨hd.src.turn hg2 (fun k hk => by have := hd.hw; omega) (by have := hd.src.lt; omega), (hd.own.chg hg2 (fun k hk e => by have := (hd.own.ge k hk).2; omega)).mono hd.hw, hO, Chg.ext (Chg.ext HW1.out hd.chg (fun k hk => by omega)) hg2 (fun k hk => by have := hd.hw; omega), fun h => by have := (hd.own.ge b h).1; omega, fun k hk => (hd.own.ge k hk).2, by have := hd.src.lt; omega, by omega, fun o ho => (hd.all o ho).1, by omega, hg2.size⟩
  by_cases hl0 : 0 < l.length
  · have e1 : (0:Int) < l.length := by omega
    have e2 : decide ((0:Int) < l.length) = true := decide_eq_true e1
    go_wp2_with (at_builtin; refine wpList_append_od rfl _ _ rfl w2.heap.size (.slice (some ⟨w2.heap.size, 0, none⟩) 0 0) _ [] l rfl rfl (ood_lit w2 _ (Nat.le_refl _)) (HD.out.own.rd.alloc _) (by simp) (by omega) (by simp) ?_; intro A1 c1 w3 hO1 hg1)
    simp only [List.length_nil, Nat.zero_add, List.nil_append] at hO1
    have HL3 := Lib.hid (hs3 A1 c1 w3 hO1 hg1)
    clear hO1 hg1 hs3
    obtain ⟨g, hg, hgb, hgl, _⟩ := HL3.out.own2.blk hl0
    subst hg
    refine (src_one _ b v bs a2 s2 2 _ HL3.out.src (by omega)).mono ?_
    rintro e w4 ⟨q, a4, s4, rfl, h41, h42, hS4, hC4⟩
    have HL4 := Lib.hid (HL3.out.pick hS4 hC4)
    clear hS4 hC4 HL3
    cases q with
    | false =>
      go_wp2_with fail
      refine (src_one _ b v bs a4 s4 5 _ HL4.out.src (by omega)).mono ?_
      rintro e w7 ⟨y, a7, s7, rfl, h71, h72, hS7, hC7⟩
      have HL7 := Lib.hid (HL4.out.pick hS7 hC7)
      clear hS7 hC7 HL4
      cases y with
      | false =>
        go_wp2_with fail
        go_ret2
        exact ⟨_, l, _, _, rfl, HL7.out.own1, HM.out, HL7.out.own2.mono HL7.out.hB, sm_short (by have := HL7.out.len; omega) HL7.out.sm, HL7.out.low⟩
      | true =>
        have hbs7 := HL7.out.own2
        have hl7 := HL7.out.len
        have hbz := HL7.out.hz
        go_wp2_with (at_builtin; refine wpList_append_o0 rfl _ _ rfl w2.heap.size (.slice (some ⟨g, 0, none⟩) l.length c1) l rfl rfl hbs7 (by omega) hbz ?_; intro g8 c8 w8 hO8 hg8)
        have HL8 := Lib.hid (HL7.out.other hg8 (fun k hk => (hbs7.ge k hk).1) hO8 (fun o ho => by
          rcases List.mem_append.1 ho with h | h
          · exact HL7.out.sm o h
          · rw [List.mem_singleton.1 h]; exact Nat.zero_le _) (by rw [List.length_append]; simp; omega))
        go_ret2
        exact ⟨_, l, _, _, rfl, HL8.out.own1, HM.out, HL8.out.own2.mono HL8.out.hB, sm_short (by have := HL8.out.len; omega) HL8.out.sm, HL8.out.low⟩
    | true =>
      have HPK := Lib.hid (src_pick _ b v bs a4 s4 2 w4.drew HL4.out.drew.src (by omega))
      obtain ⟨d0, d1, d2, d3, d4, df⟩ := HL4.out.own2.cells5 rfl hl0
      go_wp2_with fail
      go_region_with ((go_at_call 33; refine (show Calls _ _ _ _ _ from HPK.out).mono ?_; rintro e w5 ⟨x, a5, s5, rfl, hx, h51, h52, HS5, HC5⟩; (obtain ⟨x0, x1, _, _⟩ := hx); (have HL5 := Lib.hid (HL4.out.drew.pick HS5 HC5)); (obtain ⟨c0, _, _, _, c4, cf⟩ := HL5.out.own2.cells5 rfl hl0); (have f4 := cf 4); clear HS5 HC5))
      all_goals
        have HO6 := Lib.hid (HL5.out.own2.turn (k := 0) (i := 4) rfl hl0 (tn4 (gd l 0) (IntKind.i64.wrap ((gd l 0).sent + x))))
        have HL6 : Hid (SL w (w5.setCell ⟨g, 4, none⟩ (.int .i64 (IntKind.i64.wrap ((gd l 0).sent + x)))) b v bs a5 s5 (.slice A l.length c) l (.slice (some ⟨g, 0, none⟩) l.length c1) (l.set 0 ⟨(gd l 0).id, (gd l 0).cu, (gd l 0).br, (gd l 0).due, IntKind.i64.wrap ((gd l 0).sent + x)⟩) w2.heap.size) :=
          Lib.hid (HL5.out.other (chg_set w5 g 4 _) (fun k hk => by omega) HO6.out (fun o ho => by
            rcases List.mem_or_eq_of_mem_set ho with h | h
            · exact HL5.out.sm o h
            · rw [h]; exact HL5.out.sm (gd l 0) (gd_mem hl0)) (by rw [List.length_set]; omega))
        clear HO6 HL5 HL4 d0 d1 d2 d3 d4 df c0 c4 cf f4
        generalize w5.setCell ⟨g, 4, none⟩ (.int .i64 (IntKind.i64.wrap ((gd l 0).sent + x))) = w6 at *
        have hml : (l.set 0 ⟨(gd l 0).id, (gd l 0).cu, (gd l 0).br, (gd l 0).due, IntKind.i64.wrap ((gd l 0).sent + x)⟩).length ≤ 7 := by rw [List.length_set]; exact hl
        generalize l.set 0 ⟨(gd l 0).id, (gd l 0).cu, (gd l 0).br, (gd l 0).due, IntKind.i64.wrap ((gd l 0).sent + x)⟩ = m at *
        go_wp2_with fail
        refine (src_one _ b v bs a5 s5 5 _ HL6.out.src (by omega)).mono ?_
        rintro e w7 ⟨y, a7, s7, rfl, h71, h72, hS7, hC7⟩
        have HL7 := Lib.hid (HL6.out.pick hS7 hC7)
        clear hS7 hC7 HL6
        cases y with
        | false =>
          go_wp2_with fail
          go_ret2
          exact ⟨_, l, _, _, rfl, HL7.out.own1, HM.out, HL7.out.own2.mono HL7.out.hB, sm_short (by have := HL7.out.len; omega) HL7.out.sm, HL7.out.low⟩
        | true =>
          have hbs7 := HL7.out.own2
          have hl7 := HL7.out.len
          have hbz := HL7.out.hz
          go_wp2_with (at_builtin; refine wpList_append_o0 rfl _ _ rfl w2.heap.size (.slice (some ⟨g, 0, none⟩) l.length c1) m rfl rfl hbs7 (by omega) hbz ?_; intro g8 c8 w8 hO8 hg8)
          have HL8 := Lib.hid (HL7.out.other hg8 (fun k hk => (hbs7.ge k hk).1) hO8 (fun o ho => by
            rcases List.mem_append.1 ho with h | h
            · exact HL7.out.sm o h
            · rw [List.mem_singleton.1 h]; exact Nat.zero_le _) (by rw [List.length_append]; simp; omega))
          go_ret2
          exact ⟨_, l, _, _, rfl, HL8.out.own1, HM.out, HL8.out.own2.mono HL8.out.hB, sm_short (by have := HL8.out.len; omega) HL8.out.sm, HL8.out.low⟩
  · have e2 : decide ((0:Int) < l.length) = false := decide_eq_false (by omega)
    have e1 : ¬ (0:Int) < l.length := by omega
    go_wp2_with (at_builtin; refine wpList_append_od rfl _ _ rfl w2.heap.size (.slice (some ⟨w2.heap.size, 0, none⟩) 0 0) _ [] l rfl rfl (ood_lit w2 _ (Nat.le_refl _)) (HD.out.own.rd.alloc _) (by simp) (by omega) (by simp) ?_; intro A1 c1 w3 hO1 hg1)
    simp only [List.length_nil, Nat.zero_add, List.nil_append] at hO1
    have HL3 := Lib.hid (hs3 A1 c1 w3 hO1 hg1)
    clear hO1 hg1 hs3
    refine (src_one _ b v bs a2 s2 5 _ HL3.out.src (by omega)).mono ?_
    rintro e w7 ⟨y, a7, s7, rfl, h71, h72, hS7, hC7⟩
    have HL7 := Lib.hid (HL3.out.pick hS7 hC7)
    clear hS7 hC7 HL3
    cases y with
    | false =>
      go_wp2_with fail
      go_ret2
      exact ⟨_, l, _, _, rfl, HL7.out.own1, HM.out, HL7.out.own2.mono HL7.out.hB, sm_short (by have := HL7.out.len; omega) HL7.out.sm, HL7.out.low⟩
    | true =>
      have hbs7 := HL7.out.own2
      have hl7 := HL7.out.len
      have hbz := HL7.out.hz
      go_wp2_with (at_builtin; refine wpList_append_o0 rfl _ _ rfl w2.heap.size (.slice A1 l.length c1) l rfl rfl hbs7 (by omega) hbz ?_; intro g8 c8 w8 hO8 hg8)
      have HL8 := Lib.hid (HL7.out.other hg8 (fun k hk => (hbs7.ge k hk).1) hO8 (fun o ho => by
        rcases List.mem_append.1 ho with h | h
        · exact HL7.out.sm o h
        · rw [List.mem_singleton.1 h]; exact Nat.zero_le _) (by rw [List.length_append]; simp; omega))
      go_ret2
      exact ⟨_, l, _, _, rfl, HL8.out.own1, HM.out, HL8.out.own2.mono HL8.out.hB, sm_short (by have := HL8.out.len; omega) HL8.out.sm, HL8.out.low⟩
end Go.Proofs.YtbggggaoljpfnaaGreatDoor
