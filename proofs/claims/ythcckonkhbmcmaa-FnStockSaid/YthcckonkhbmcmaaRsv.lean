/-
  Orders: ReserveStock.
-/
import Derived.Test.YthcckonkhbmcmaaByDue
import Derived.Laws.OwnMore
namespace Go.Proofs.Ythcckonkhbmcmaa
open Go.ChangeShapes Go.WideShapes Go.ChangeAt Go.RowKit Go.Sort
set_option linter.unusedVariables false
set_option maxRecDepth 100000

/-- What is left of the stock behind the first k of the open orders by their days, and what the orders got. -/
def rst (l : List OD) (q : List Int) (s : Int) : Nat → Int
  | 0 => s
  | k + 1 => rst l q s k - min (rst l q s k) (oI l (gi q k))
def rou (l : List OD) (q : List Int) (s : Int) : Nat → List Int
  | 0 => List.replicate l.length 0
  | k + 1 => (rou l q s k).set (gi q k).toNat (min (rst l q s k) (oI l (gi q k)))
theorem rou_len (l : List OD) (q : List Int) (s : Int) (k : Nat) : (rou l q s k).length = l.length := by
  induction k with
  | zero => simp [rou]
  | succ k ih => rw [rou, List.length_set, ih]
def mReserveStock (l : List OD) (s : Int) : List Int × Int := bif vOrders l then (bif inB s 0 10000000 then (rou l (dueTo l l.length) s (dueTo l l.length).length, 0) else ([], 2)) else ([], 1)
theorem rst_bd {l : List OD} (hv : vOrders l = true) {s : Int} (h0 : 0 ≤ s) (h1 : s ≤ 10000000) : ∀ k, k ≤ (dueTo l l.length).length → 0 ≤ rst l (dueTo l l.length) s k ∧ rst l (dueTo l l.length) s k ≤ 10000000
  | 0, _ => ⟨h0, h1⟩
  | k + 1, hk => by
    have ih := rst_bd hv h0 h1 k (by omega)
    obtain ⟨j, hj, hjl, _⟩ := due_at (l := l) (m := l.length) (k := k) (by omega)
    have ho := opn_bd hv hjl
    have : oI l (gi (dueTo l l.length) k) = opn (gd l j) := by unfold oI; rw [hj, Int.toNat_natCast]
    rw [rst, this]
    omega
theorem oI_set {w : World} {base g n cap : Nat} {xs : List Int} (h : OI w base (.slice (some ⟨g, 0, none⟩) n cap) xs) (hn : xs.length = n) (j : Nat) (x : Int) : OI (w.setCell ⟨g, j, none⟩ (.int .i64 x)) base (.slice (some ⟨g, 0, none⟩) n cap) (xs.set j x) := by
  subst hn
  unfold OI at h ⊢
  have := (World.ownsRow.stored h j (.int .i64 x)).1
  rw [← List.map_set] at this
  rw [List.length_set]
  exact this
theorem oI_cell {w : World} {base g n cap : Nat} {xs : List Int} (h : OI w base (.slice (some ⟨g, 0, none⟩) n cap) xs) (hn : xs.length = n) {j : Nat} (hj : j < xs.length) : w.cell? ⟨g, j, none⟩ = some (.int .i64 (gi xs j)) ∧ w.frozen? ⟨g, j, none⟩ = false := by
  subst hn
  unfold OI at h
  refine ⟨?_, World.ownsRow.frozenAt h j⟩
  rw [World.ownsRow.cellAt h j (by simpa using hj)]
  rw [List.getElem?_map, List.getElem?_eq_getElem hj, gi_eq hj]; rfl
theorem oI_make {w : World} {n : Nat} {w1 : World} (h : w1.ownsRow w.heap.size 2 1 (.slice (some ⟨w.heap.size, 0, none⟩) n n) n (List.replicate n (Value.int .i64 0))) : OI w1 w.heap.size (.slice (some ⟨w.heap.size, 0, none⟩) n n) (List.replicate n 0) := by
  unfold OI
  rw [List.length_replicate, List.map_replicate]
  exact h

set_option maxHeartbeats 3200000 in
theorem spec_ReserveStock (v : Value) (l : List OD) (s : Int) (w : World) (ha : RODS w v l) (hsm : SmODS l) :
    Calls Try.prog 7 #[v, .int .i64 s] w (RetI (mReserveStock l s).1 (mReserveStock l s).2 w) := by
  obtain ⟨A, c, rfl, hc1, hc2⟩ := ha.open_
  have HA := Lib.hid ha; clear ha
  have HV0 := Lib.hid (spec_stock _ l s 0 hsm w HA.out)
  clear hsm
  unfold maxLen at hc2
  go_enter Try.func7, Try.ntmps7
  go_wp2_with fail
  refine (show Calls _ _ _ _ _ from HV0.out).mono ?_
  rintro e w1 ⟨rfl, hb⟩
  have HW1 := Lib.hid hb; clear hb HV0
  cases hv : vOrders l with
  | false =>
    have HM : Hid (mReserveStock l s = ([], 1)) := Lib.hid (by unfold mReserveStock; rw [hv]; rfl)
    rw [show codeS l s 0 = 1 from by unfold codeS; rw [hv]; rfl]
    clear hv
    go_wp2_with fail
    go_ret2
    rw [HM.out]
    exact ⟨_, rfl, oi_nil _ _, by simp [SmI], HW1.out⟩
  | true =>
  cases hi : inB s 0 10000000 with
  | false =>
    have HM : Hid (mReserveStock l s = ([], 2)) := Lib.hid (by unfold mReserveStock; rw [hv, hi]; rfl)
    rw [show codeS l s 0 = 2 from by unfold codeS; rw [hv, hi]; rfl]
    clear hv hi
    go_wp2_with fail
    go_ret2
    rw [HM.out]
    exact ⟨_, rfl, oi_nil _ _, by simp [SmI], HW1.out⟩
  | true =>
  have hs2 := inB_iff.1 hi
  rw [show codeS l s 0 = 0 from by unfold codeS; rw [hv, hi]; rfl]
  have HV := Lib.hid hv
  have hlen := v_len hv
  have HM : Hid (mReserveStock l s = (rou l (dueTo l l.length) s (dueTo l l.length).length, 0)) := Lib.hid (by unfold mReserveStock; rw [hv, hi]; rfl)
  have HRB := Lib.hid (fun k hk => rst_bd hv hs2.1 hs2.2 k hk)
  have HDU := Lib.hid (fun w (h : RODS w (.slice A l.length c) l) => spec_due (.slice A l.length c) l HV.out w h)
  have hql := due_len l l.length
  have HDA2 := Lib.hid (fun k h => due_at (l := l) (m := l.length) (k := k) h)
  clear hv hi hs2
  obtain ⟨q, hq⟩ : ∃ q, dueTo l l.length = q := ⟨_, rfl⟩
  rw [hq] at hql HM HRB HDA2 HDU
  clear hq
  obtain ⟨i0, hii, hz0, hz1, hz2⟩ := info_parts info_int
  have hb : i0.bytes * l.length ≤ 281474976710656 := by rw [hz2]; omega
  have HZ2 := Lib.hid hz2; clear hz2
  go_wp2_with (refine wpList_make_full _ rfl _ _ _ rfl w1.heap.size 2 i0 (.int .i64 0) 1 Try.underlying27 hii hz0 hz1 .i64 .i64 _ _ l.length rfl rfl rfl rfl hb (by unfold maxLen; omega) (Nat.le_refl _) ?_; intro w2 hown2 hgrow2)
  have HB2 : Hid (Below w1.heap.size w1 w2) := Lib.hid ((ext_refl w1).grown hgrow2 (Nat.le_refl _) (by simp))
  have HO2 : Hid (OI w2 w1.heap.size (.slice (some ⟨w1.heap.size, 0, none⟩) l.length l.length) (rou l q s 0)) := Lib.hid (oI_make (by simpa [Value.cells, toList_madeCells_one] using hown2))
  have hlt12 : w1.heap.size < w2.heap.size := (HO2.out.ge _ rfl).2
  clear hown2 hgrow2 hb hii hz0 hz1 HZ2
  refine (show Calls _ _ _ _ _ from HDU.out w2 (HA.out.ext (ext_trans HW1.out HB2.out))).mono ?_
  rintro e w3 ⟨v2, rfl, hOq, hb⟩
  obtain ⟨B, d, rfl, hd1, hd2, _⟩ := hOq.rd.open2
  unfold maxLen at hd2
  have HOQ := Lib.hid hOq
  have HO3 := Lib.hid (HO2.out.ext hb)
  have HB3 := Lib.hid (ext_trans HB2.out hb)
  clear hOq hb HDU HO2 HB2
  generalize hg1 : w1.heap.size = g at *
  have HG1 := Lib.hid hg1
  clear hg1
  go_wp2_with fail
  go_loopw [1, 9] (fun sv i wr => ∃ k : Nat, k ≤ q.length ∧ i = .int .i64 k ∧ sv = .int .i64 (rst l q s k) ∧ Hid (OI wr g (.slice (some ⟨g, 0, none⟩) l.length l.length) (rou l q s k)) ∧ Hid (OI wr w2.heap.size (.slice B q.length d) q) ∧ Hid (Below g w1 wr)) (fun _ i _ => q.length - (intOf i).toNat)
  case atStart => exact ⟨0, Nat.zero_le _, rfl, rfl, HO3, HOQ, HB3⟩
  case round =>
    obtain ⟨k, hk, rfl, rfl, HO, HQ, HB⟩ := hrel
    have HWW : Hid (Below w.heap.size w wr) := Lib.hid (HW1.out.trans (HB.out.mono (by rw [← HG1.out]; exact HW1.out.size)))
    by_cases hlt : k < q.length
    · obtain ⟨j, hj1, hj3, _⟩ := HDA2.out k hlt
      obtain ⟨bd, rfl, _, hcb⟩ := HQ.out.rd.at2 hlt
      have hcq := hcb k hlt
      rw [hj1] at hcq
      obtain ⟨ad, rfl, _, hc⟩ := (HA.out.ext HWW.out).at hj3
      have HPJ := Lib.hid (hc j hj3)
      clear hc hcb
      have ho := opn_bd HV.out hj3
      have hr := HRB.out k hk
      have hoI : oI l (gi q k) = opn (gd l j) := by unfold oI; rw [hj1, Int.toNat_natCast]
      have HS : Hid (rst l q s (k + 1) = rst l q s k - min (rst l q s k) (opn (gd l j))) := Lib.hid (by rw [rst, hoI])
      have HU : Hid (rou l q s (k + 1) = (rou l q s k).set j (min (rst l q s k) (opn (gd l j)))) := Lib.hid (by rw [rou, hoI, hj1, Int.toNat_natCast])
      have hjr : j < (rou l q s k).length := by rw [rou_len]; exact hj3
      have hop := v_one HV.out hj3
      have hlr := rou_len l q s k
      clear hoI hj1
      obtain ⟨r, hrr⟩ : ∃ r, rst l q s k = r := ⟨_, rfl⟩
      obtain ⟨xs, hxs⟩ : ∃ xs, rou l q s k = xs := ⟨_, rfl⟩
      rw [hrr] at hr HS HU
      rw [hxs] at HO HU hjr hlr
      rw [hrr]
      have HLR := Lib.hid hlr
      clear hrr hxs hlr
      have e1 : (0:Int) ≤ k := by omega
      have e2 : (k:Int) < q.length := by omega
      have e3 : (0:Int) ≤ j := by omega
      have e4 : (j:Int) < l.length := by omega
      have HC := Lib.hid (spec_open _ (gd l j) wr HPJ.out hop)
      have HOP : Hid ((gd l j).br - (gd l j).sent = opn (gd l j)) := Lib.hid rfl
      rw [HOP.out] at HC
      obtain ⟨u, hu⟩ : ∃ u, opn (gd l j) = u := ⟨_, rfl⟩
      rw [hu] at HC ho HS HU
      clear hu HOP
      go_wp2_with fail
      refine (show Calls _ _ _ _ _ from HC.out).mono ?_
      rintro e w4 ⟨rfl, hb⟩
      have hgw : g ≤ wr.heap.size := by have := (HO.out.ge g rfl).2; omega
      have HB4 := Lib.hid (HB.out.trans (hb.mono hgw))
      have HO4 := Lib.hid (HO.out.ext hb)
      have HQ4 := Lib.hid (HQ.out.ext hb)
      clear hb hcq HC hgw
      obtain ⟨m, hm⟩ : ∃ m, min r u = m := ⟨_, rfl⟩
      have hmb : 0 ≤ m ∧ m ≤ r := by omega
      obtain ⟨c0, f0⟩ := oI_cell HO4.out HLR.out hjr
      have hsc : (w4.setCell ⟨g, j, none⟩ (.int .i64 m)).cell? ⟨g, j, none⟩ = some (.int .i64 m) := World.cell?_setCell_same _ _ _ c0
      have HCH : Hid (Chg (fun i => i = g) w4 (w4.setCell ⟨g, j, none⟩ (.int .i64 m))) := Lib.hid (Chg.setCell (S := fun k => k = g) w4 (p := ⟨g, j, none⟩) rfl _)
      go_wp2_with fail
      refine (spec_min _ _ _).mono ?_
      rintro e w5 ⟨rfl, rfl⟩
      rw [minI_eq, hm]
      rw [hm] at HS HU
      clear hm
      go_wp2_with fail
      go_roundw
      case rel => exact ⟨k + 1, by omega, by go_num, by rw [HS.out], Lib.hid (by rw [HU.out]; exact oI_set HO4.out HLR.out j m), Lib.hid (HQ4.out.chg HCH.out (fun i hi e => by have := (HQ4.out.ge i hi).1; omega)), Lib.hid (HB4.out.trans (HCH.out.below (by have := (HO4.out.ge g rfl).2; omega) (fun i hi => by omega)))⟩
      case measure => simp [intOf]; omega
    · obtain rfl : k = q.length := by omega
      go_wp2_with fail
      go_ret2
      rw [HM.out]
      exact ⟨_, rfl, HO.out.mono (by rw [← HG1.out]; exact HW1.out.size), (show (rou l q s q.length).length ≤ 1048576 by rw [rou_len]; omega), HWW.out⟩
set_option maxHeartbeats 3200000 in
theorem impl_ReserveStock (v : Value) (l : List OD) (s : Int) (w : World) (ha : RODS w v l) (hsm : SmODS l) :
    Calls Try.prog 6 #[v, .int .i64 s] w (RetI (mReserveStock l s).1 (mReserveStock l s).2 w) := by
  obtain ⟨A, c, rfl, hc1, hc2⟩ := ha.open_
  have HA := Lib.hid ha; clear ha
  have HV0 := Lib.hid (impl_ValidOrders _ l w HA.out hsm)
  clear hsm
  unfold maxLen at hc2
  go_enter Try.func6, Try.ntmps6
  go_wp2_with fail
  refine (show Calls _ _ _ _ _ from HV0.out).mono ?_
  rintro e w1 ⟨rfl, hb⟩
  have HW1 := Lib.hid hb; clear hb HV0
  cases hv : vOrders l with
  | false =>
    have HM : Hid (mReserveStock l s = ([], 1)) := Lib.hid (by unfold mReserveStock; rw [hv]; rfl)
    clear hv
    go_wp2_with fail
    go_ret2
    rw [HM.out]
    exact ⟨_, rfl, oi_nil _ _, by simp [SmI], HW1.out⟩
  | true =>
  go_wp2_with fail
  refine (impl_within s 0 10000000 _).mono ?_
  rintro e w0 ⟨rfl, rfl⟩
  cases hi : inB s 0 10000000 with
  | false =>
    have HM : Hid (mReserveStock l s = ([], 2)) := Lib.hid (by unfold mReserveStock; rw [hv, hi]; rfl)
    clear hv hi
    go_wp2_with fail
    go_ret2
    rw [HM.out]
    exact ⟨_, rfl, oi_nil _ _, by simp [SmI], HW1.out⟩
  | true =>
  have hs2 := inB_iff.1 hi
  have HV := Lib.hid hv
  have hlen := v_len hv
  have HM : Hid (mReserveStock l s = (rou l (dueTo l l.length) s (dueTo l l.length).length, 0)) := Lib.hid (by unfold mReserveStock; rw [hv, hi]; rfl)
  have HRB := Lib.hid (fun k hk => rst_bd hv hs2.1 hs2.2 k hk)
  have HDU := Lib.hid (fun w (h : RODS w (.slice A l.length c) l) => impl_due (.slice A l.length c) l HV.out w h)
  have hql := due_len l l.length
  have HDA2 := Lib.hid (fun k h => due_at (l := l) (m := l.length) (k := k) h)
  clear hv hi hs2
  obtain ⟨q, hq⟩ : ∃ q, dueTo l l.length = q := ⟨_, rfl⟩
  rw [hq] at hql HM HRB HDA2 HDU
  clear hq
  obtain ⟨i0, hii, hz0, hz1, hz2⟩ := info_parts info_int
  have hb : i0.bytes * l.length ≤ 281474976710656 := by rw [hz2]; omega
  have HZ2 := Lib.hid hz2; clear hz2
  go_wp2_with (refine wpList_make_full _ rfl _ _ _ rfl w1.heap.size 2 i0 (.int .i64 0) 1 Try.underlying27 hii hz0 hz1 .i64 .i64 _ _ l.length rfl rfl rfl rfl hb (by unfold maxLen; omega) (Nat.le_refl _) ?_; intro w2 hown2 hgrow2)
  have HB2 : Hid (Below w1.heap.size w1 w2) := Lib.hid ((ext_refl w1).grown hgrow2 (Nat.le_refl _) (by simp))
  have HO2 : Hid (OI w2 w1.heap.size (.slice (some ⟨w1.heap.size, 0, none⟩) l.length l.length) (rou l q s 0)) := Lib.hid (oI_make (by simpa [Value.cells, toList_madeCells_one] using hown2))
  have hlt12 : w1.heap.size < w2.heap.size := (HO2.out.ge _ rfl).2
  clear hown2 hgrow2 hb hii hz0 hz1 HZ2
  refine (show Calls _ _ _ _ _ from HDU.out w2 (HA.out.ext (ext_trans HW1.out HB2.out))).mono ?_
  rintro e w3 ⟨v2, rfl, hOq, hb⟩
  obtain ⟨B, d, rfl, hd1, hd2, _⟩ := hOq.rd.open2
  unfold maxLen at hd2
  have HOQ := Lib.hid hOq
  have HO3 := Lib.hid (HO2.out.ext hb)
  have HB3 := Lib.hid (ext_trans HB2.out hb)
  clear hOq hb HDU HO2 HB2
  generalize hg1 : w1.heap.size = g at *
  have HG1 := Lib.hid hg1
  clear hg1
  go_wp2_with fail
  go_loopw [1, 23] (fun sv i wr => ∃ k : Nat, k ≤ q.length ∧ i = .int .i64 k ∧ sv = .int .i64 (rst l q s k) ∧ Hid (OI wr g (.slice (some ⟨g, 0, none⟩) l.length l.length) (rou l q s k)) ∧ Hid (OI wr w2.heap.size (.slice B q.length d) q) ∧ Hid (Below g w1 wr)) (fun _ i _ => q.length - (intOf i).toNat)
  case atStart => exact ⟨0, Nat.zero_le _, rfl, rfl, HO3, HOQ, HB3⟩
  case round =>
    obtain ⟨k, hk, rfl, rfl, HO, HQ, HB⟩ := hrel
    have HWW : Hid (Below w.heap.size w wr) := Lib.hid (HW1.out.trans (HB.out.mono (by rw [← HG1.out]; exact HW1.out.size)))
    by_cases hlt : k < q.length
    · obtain ⟨j, hj1, hj3, _⟩ := HDA2.out k hlt
      obtain ⟨bd, rfl, _, hcb⟩ := HQ.out.rd.at2 hlt
      have hcq := hcb k hlt
      rw [hj1] at hcq
      obtain ⟨ad, rfl, _, hc⟩ := (HA.out.ext HWW.out).at hj3
      have HPJ := Lib.hid (hc j hj3)
      clear hc hcb
      have ho := opn_bd HV.out hj3
      have hr := HRB.out k hk
      have hoI : oI l (gi q k) = opn (gd l j) := by unfold oI; rw [hj1, Int.toNat_natCast]
      have HS : Hid (rst l q s (k + 1) = rst l q s k - min (rst l q s k) (opn (gd l j))) := Lib.hid (by rw [rst, hoI])
      have HU : Hid (rou l q s (k + 1) = (rou l q s k).set j (min (rst l q s k) (opn (gd l j)))) := Lib.hid (by rw [rou, hoI, hj1, Int.toNat_natCast])
      have hjr : j < (rou l q s k).length := by rw [rou_len]; exact hj3
      have hop := v_one HV.out hj3
      have hlr := rou_len l q s k
      clear hoI hj1
      obtain ⟨r, hrr⟩ : ∃ r, rst l q s k = r := ⟨_, rfl⟩
      obtain ⟨xs, hxs⟩ : ∃ xs, rou l q s k = xs := ⟨_, rfl⟩
      rw [hrr] at hr HS HU
      rw [hxs] at HO HU hjr hlr
      rw [hrr]
      have HLR := Lib.hid hlr
      clear hrr hxs hlr
      have e1 : (0:Int) ≤ k := by omega
      have e2 : (k:Int) < q.length := by omega
      have e3 : (0:Int) ≤ j := by omega
      have e4 : (j:Int) < l.length := by omega
      obtain ⟨p0, p1, p2, p3, p4⟩ := HPJ.out
      have HC : Hid (∀ W, Calls Try.prog 27 #[.agg #[.int .i64 (gd l j).id, .string (gd l j).cu, .int .i64 (gd l j).br, .int .i64 (gd l j).due, .int .i64 (gd l j).sent]] W (Ret (.int .i64 (opn (gd l j))) W)) := Lib.hid fun W => impl_open _ (gd l j) W rfl hop
      obtain ⟨u, hu⟩ : ∃ u, opn (gd l j) = u := ⟨_, rfl⟩
      rw [hu] at HC ho HS HU
      clear hu
      obtain ⟨m, hm⟩ : ∃ m, min r u = m := ⟨_, rfl⟩
      have hmb : 0 ≤ m ∧ m ≤ r := by omega
      go_wp2_with fail
      refine (show Calls _ _ _ _ _ from HC.out _).mono ?_
      rintro e w4 ⟨rfl, hb⟩
      have hgw : g ≤ wr.heap.size := by have := (HO.out.ge g rfl).2; omega
      have HB4 := Lib.hid (HB.out.trans (hb.mono hgw))
      have HO4 := Lib.hid (HO.out.ext hb)
      have HQ4 := Lib.hid (HQ.out.ext hb)
      clear hb hcq HC hgw p0 p1 p2 p3 p4
      obtain ⟨c0, f0⟩ := oI_cell HO4.out HLR.out hjr
      have hsc : (w4.setCell ⟨g, j, none⟩ (.int .i64 m)).cell? ⟨g, j, none⟩ = some (.int .i64 m) := World.cell?_setCell_same _ _ _ c0
      have HCH : Hid (Chg (fun i => i = g) w4 (w4.setCell ⟨g, j, none⟩ (.int .i64 m))) := Lib.hid (Chg.setCell (S := fun k => k = g) w4 (p := ⟨g, j, none⟩) rfl _)
      rw [hm] at HS HU
      go_wp2_with fail
      go_roundw
      case rel => exact ⟨k + 1, by omega, by go_num, by rw [HS.out], Lib.hid (by rw [HU.out]; exact oI_set HO4.out HLR.out j m), Lib.hid (HQ4.out.chg HCH.out (fun i hi e => by have := (HQ4.out.ge i hi).1; omega)), Lib.hid (HB4.out.trans (HCH.out.below (by have := (HO4.out.ge g rfl).2; omega) (fun i hi => by omega)))⟩
      case measure => simp [intOf]; omega
    · obtain rfl : k = q.length := by omega
      go_wp2_with fail
      go_ret2
      rw [HM.out]
      exact ⟨_, rfl, HO.out.mono (by rw [← HG1.out]; exact HW1.out.size), (show (rou l q s q.length).length ≤ 1048576 by rw [rou_len]; omega), HWW.out⟩
end Go.Proofs.Ythcckonkhbmcmaa
