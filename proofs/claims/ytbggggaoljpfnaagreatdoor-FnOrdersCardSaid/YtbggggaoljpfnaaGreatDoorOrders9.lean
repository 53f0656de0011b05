/-
  Orders, ninth part: the place of an order.
-/
import Derived.Test.YtbggggaoljpfnaaGreatDoorOrders5
namespace Go.Proofs.YtbggggaoljpfnaaGreatDoor
open Go.ChangeShapes Go.WideShapes Go.ChangeAt Go.RowKit Go.Sort
set_option linter.unusedVariables false

/-- How many of the first k orders have smaller numbers (in a valid list). -/
def lbn (l : List OD) (id : Int) : Nat → Nat
  | 0 => 0
  | k + 1 => if (gd l k).id < id then k + 1 else lbn l id k
/-- The place of a number. -/
def lb (l : List OD) (id : Int) : Nat := lbn l id l.length
theorem v_lt {l : List OD} (h : vOrders l = true) {i j : Nat} (hij : i < j) (hj : j < l.length) : (gd l i).id < (gd l j).id := by
  obtain ⟨d, rfl⟩ : ∃ d, j = i + 1 + d := ⟨j - (i + 1), by omega⟩
  clear hij
  induction d with
  | zero => exact v_asc h hj
  | succ d ih => exact Int.lt_trans (ih (by omega)) (v_asc h hj)
theorem lbn_spec {l : List OD} (h : vOrders l = true) (id : Int) : ∀ k, k ≤ l.length → lbn l id k ≤ k ∧ (∀ j, j < lbn l id k → (gd l j).id < id) ∧ (∀ j, lbn l id k ≤ j → j < k → id ≤ (gd l j).id) := by
  intro k
  induction k with
  | zero => intro _; exact ⟨Nat.le_refl _, fun j hj => by rw [lbn] at hj; omega, fun j _ hj => by omega⟩
  | succ k ih =>
    intro hk
    obtain ⟨h1, h2, h3⟩ := ih (by omega)
    rw [lbn]
    by_cases hi : (gd l k).id < id
    · rw [if_pos hi]
      refine ⟨Nat.le_refl _, fun j hj => ?_, fun j h4 h5 => by omega⟩
      by_cases hjk : j = k
      · rw [hjk]; exact hi
      · exact Int.lt_trans (v_lt h (show j < k by omega) (by omega)) hi
    · rw [if_neg hi]
      refine ⟨by omega, h2, fun j h4 h5 => ?_⟩
      by_cases hjk : j = k
      · rw [hjk]; omega
      · exact h3 j h4 (by omega)
theorem lb_spec {l : List OD} (h : vOrders l = true) (id : Int) : lb l id ≤ l.length ∧ (∀ j, j < lb l id → (gd l j).id < id) ∧ (∀ j, lb l id ≤ j → j < l.length → id ≤ (gd l j).id) := lbn_spec h id l.length (Nat.le_refl _)
theorem lb_eq {l : List OD} (h : vOrders l = true) {id : Int} {k : Nat} (hk : k ≤ l.length) (h1 : ∀ j, j < k → (gd l j).id < id) (h2 : ∀ j, k ≤ j → j < l.length → id ≤ (gd l j).id) : lb l id = k := by
  obtain ⟨g1, g2, g3⟩ := lb_spec h id
  rcases Nat.lt_trichotomy (lb l id) k with h4 | h4 | h4
  · have := h1 _ h4; have := g3 (lb l id) (Nat.le_refl _) (by omega); omega
  · exact h4
  · have := g2 k h4; have := h2 k (Nat.le_refl _) (by omega); omega
/-- Is there an order with a number? -/
def known (l : List OD) (id : Int) : Bool := decide (lb l id < l.length) && decide ((gd l (lb l id)).id = id)
def fnd (l : List OD) (id : Int) : Int := bif known l id then (lb l id : Int) else -1
theorem fnd_hit {l : List OD} (h : vOrders l = true) {id : Int} {k : Nat} (hk : k < l.length) (he : (gd l k).id = id) : lb l id = k ∧ known l id = true := by
  have h1 : lb l id = k := lb_eq h (by omega) (fun j hj => by rw [← he]; exact v_lt h hj hk) (fun j h2 h3 => by
    by_cases hjk : j = k
    · rw [hjk, he]; exact Int.le_refl _
    · rw [← he]; exact Int.le_of_lt (v_lt h (by omega) h3))
  exact ⟨h1, by unfold known; rw [h1, decide_eq_true hk, decide_eq_true he]; rfl⟩
theorem fnd_none {l : List OD} {id : Int} (h : ∀ j, j < l.length → (gd l j).id ≠ id) : known l id = false := by
  unfold known
  by_cases h1 : lb l id < l.length
  · rw [decide_eq_false (h _ h1), Bool.and_false]
  · rw [decide_eq_false h1]; rfl

set_option maxHeartbeats 800000 in
theorem spec_find (v : Value) (l : List OD) (id : Int) (hv : vOrders l = true) (w : World) (ha : RODS w v l) :
    Calls Tryz.prog 43 #[v, .int .i64 id] w (RetP (.int .i64 (fnd l id)) w) := by
  obtain ⟨A, c, rfl, hc1, hc2⟩ := ha.open_
  have HA := Lib.hid ha; clear ha
  have HV := Lib.hid hv
  have hlen := v_len hv
  clear hv
  unfold maxLen at hc2
  go_enter Tryz.func43, Tryz.ntmps43
  go_wp2_with fail
  go_loop [5] (fun i => ∃ k : Nat, k ≤ l.length ∧ i = .int .i64 k ∧ Hid (∀ j, j < k → (gd l j).id ≠ id)) (fun i => l.length - (intOf i).toNat)
  case atStart => exact ⟨0, Nat.zero_le _, rfl, fun j hj => by omega⟩
  case round =>
    obtain ⟨k, hk, rfl, HT⟩ := hrel
    by_cases hlt : k < l.length
    · obtain ⟨ad, rfl, _, hc⟩ := HA.out.at hlt
      obtain ⟨h0, _⟩ := hc k hlt
      clear hc
      have e1 : (0:Int) ≤ k := by omega
      have e2 : (k:Int) < l.length := by omega
      obtain ⟨x, hx⟩ : ∃ x, (gd l k).id = x := ⟨_, rfl⟩
      rw [hx] at h0
      have HX := Lib.hid hx; clear hx
      by_cases hq : x = id
      · have HF : Hid (fnd l id = k) := Lib.hid (by obtain ⟨g1, g2⟩ := fnd_hit HV.out hlt (HX.out.trans hq); unfold fnd; rw [g2, g1]; rfl)
        go_wp2_with fail
        go_ret
        exact ⟨ret_int HF.out.symm, rfl⟩
      · go_wp2_with fail
        go_round
        case rel => exact ⟨k + 1, by omega, by go_num, fun j hj => by
          by_cases hjk : j = k
          · rw [hjk, HX.out]; exact hq
          · exact HT.out j (by omega)⟩
        case measure => simp [intOf]; omega
    · have hkn : k = l.length := by omega
      subst hkn
      have HF : Hid (fnd l id = -1) := Lib.hid (by unfold fnd; rw [fnd_none HT.out]; rfl)
      go_wp2_with fail
      go_ret
      exact ⟨ret_int HF.out.symm, rfl⟩

def cmpI (a b : Int) : Int := if a < b then -1 else if b < a then 1 else 0
theorem cmp_nan (n : Int) (w : World) : Calls Tryz.prog 78 #[.int .i64 n] w (RetP (.bool false) w) := by
  go_enter Tryz.func78, Tryz.ntmps78
  go_wp2_with fail
  go_ret
  exact ⟨ret_bool (by simp), rfl⟩
theorem cmp_compare (a b : Int) (w : World) : Calls Tryz.prog 67 #[.int .i64 a, .int .i64 b] w (RetP (.int .i64 (cmpI a b)) w) := by
  go_enter Tryz.func67, Tryz.ntmps67
  go_wp2_with fail
  refine (cmp_nan a _).mono ?_
  rintro e w1 ⟨rfl, rfl⟩
  go_wp2_with fail
  refine (cmp_nan b _).mono ?_
  rintro e w1 ⟨rfl, rfl⟩
  by_cases h1 : a < b
  · have e1 : decide (a < b) = true := decide_eq_true h1
    have HX : Hid (cmpI a b = -1) := Lib.hid (by unfold cmpI; rw [if_pos h1])
    go_wp2_with fail
    go_ret
    exact ⟨ret_int HX.out.symm, rfl⟩
  · have e1 : decide (a < b) = false := decide_eq_false h1
    by_cases h2 : b < a
    · have e2 : decide (b < a) = true := decide_eq_true h2
      have HX : Hid (cmpI a b = 1) := Lib.hid (by unfold cmpI; rw [if_neg h1, if_pos h2])
      go_wp2_with fail
      go_ret
      exact ⟨ret_int HX.out.symm, rfl⟩
    · have e2 : decide (b < a) = false := decide_eq_false h2
      have HX : Hid (cmpI a b = 0) := Lib.hid (by unfold cmpI; rw [if_neg h1, if_neg h2])
      go_wp2_with fail
      go_ret
      exact ⟨ret_int HX.out.symm, rfl⟩
theorem place_fn (o : OD) (id : Int) (w : World) :
    Calls Tryz.prog 66 #[.agg #[.int .i64 o.id, .string o.cu, .int .i64 o.br, .int .i64 o.due, .int .i64 o.sent], .int .i64 id] w (Ret (.int .i64 (cmpI o.id id)) w) := by
  go_enter Tryz.func66, Tryz.ntmps66
  go_wp2_with fail
  refine (cmp_compare _ _ _).mono ?_
  rintro e w1 ⟨rfl, rfl⟩
  go_wp2_with fail
  go_ret
  exact ⟨rfl, ext_alloc1 _ _⟩

set_option maxHeartbeats 1600000 in
theorem place_search (v : Value) (l : List OD) (id : Int) (hv : vOrders l = true) (w : World) (ha : RODS w v l) :
    Calls Tryz.prog 65 #[v, .int .i64 id, .func (.func 66) #[] #[]] w (Ret (.tuple #[.int .i64 (lb l id), .bool (known l id)]) w) := by
  obtain ⟨A, c, rfl, hc1, hc2⟩ := ha.open_
  have HA := Lib.hid ha; clear ha
  have HV := Lib.hid hv
  have hlen := v_len hv
  clear hv
  unfold maxLen at hc2
  go_enter Tryz.func65, Tryz.ntmps65
  go_wp2_with fail
  go_loopw [9, 10] (fun i j wr => ∃ a b : Nat, a ≤ b ∧ b ≤ l.length ∧ i = .int .i64 a ∧ j = .int .i64 b ∧ Hid (∀ x, x < a → (gd l x).id < id) ∧ Hid (∀ x, b ≤ x → x < l.length → id ≤ (gd l x).id) ∧ Below w.heap.size w wr) (fun i j _ => (intOf j).toNat - (intOf i).toNat)
  case atStart => exact ⟨0, l.length, Nat.zero_le _, Nat.le_refl _, rfl, rfl, (fun x hx => by omega), (fun x h1 h2 => by omega), ext_refl _⟩
  case round =>
    obtain ⟨a, b, hab, hb, rfl, rfl, H1, H2, hbw⟩ := hrel
    have HAw := Lib.hid (HA.out.ext hbw)
    have HW := Lib.hid hbw; clear hbw
    by_cases hlt : a < b
    · obtain ⟨ad, rfl, _, hc⟩ := HAw.out.at (show (a + b) / 2 < l.length by omega)
      obtain ⟨h0, h1, h2, h3, h4⟩ := hc ((a + b) / 2) (by omega)
      clear hc
      obtain ⟨o, ho⟩ : ∃ o, gd l ((a + b) / 2) = o := ⟨_, rfl⟩
      rw [ho] at h0 h1 h2 h3 h4
      have HO := Lib.hid ho; clear ho
      have e2 : (a:Int) < b := by omega
      go_wp2_with fail
      refine (place_fn o id _).mono ?_
      rintro e w3 ⟨rfl, hb⟩
      have HW3 := Lib.hid (ext_trans HW.out hb)
      clear hb h0 h1 h2 h3 h4
      by_cases hlo : o.id < id
      · have e3 : cmpI o.id id = -1 := by unfold cmpI; rw [if_pos hlo]
        rw [e3]
        have HLO := Lib.hid hlo; clear hlo e3
        go_wp2_with fail
        go_roundw
        case rel => exact ⟨(a + b) / 2 + 1, b, by omega, by omega, congrArg (Value.int .i64) (by omega), rfl, (fun x hx => by
          by_cases hxm : x = (a + b) / 2
          · rw [hxm, HO.out]; exact HLO.out
          · exact Int.lt_trans (v_lt HV.out (show x < (a + b) / 2 by omega) (by omega)) (by rw [HO.out]; exact HLO.out)), H2.out, HW3.out⟩
        case measure => simp [intOf]; omega
      · obtain ⟨y, hy, hy0⟩ : ∃ y, cmpI o.id id = y ∧ 0 ≤ y := ⟨_, rfl, by unfold cmpI; rw [if_neg hlo]; split <;> omega⟩
        rw [hy]
        have HLO := Lib.hid hlo; clear hlo hy
        go_wp2_with fail
        go_roundw
        case rel => exact ⟨a, (a + b) / 2, by omega, by omega, rfl, congrArg (Value.int .i64) (by omega), H1.out, (fun x h1 h2 => by
          have := HLO.out
          by_cases hxm : x = (a + b) / 2
          · rw [hxm, HO.out]; omega
          · have h9 := v_lt HV.out (show (a + b) / 2 < x by omega) h2
            rw [HO.out] at h9; omega), HW3.out⟩
        case measure => simp [intOf]; omega
    · have hab2 : a = b := by omega
      subst hab2
      have HLB := Lib.hid (lb_eq HV.out hb H1.out H2.out)
      by_cases hla : a < l.length
      · obtain ⟨ad, rfl, _, hc⟩ := HAw.out.at hla
        obtain ⟨h0, h1, h2, h3, h4⟩ := hc a hla
        clear hc
        obtain ⟨o, ho⟩ : ∃ o, gd l a = o := ⟨_, rfl⟩
        rw [ho] at h0 h1 h2 h3 h4
        have HO := Lib.hid ho; clear ho
        have e1 : (0:Int) ≤ a := by omega
        have e2 : (a:Int) < l.length := by omega
        go_wp2_with fail
        refine (place_fn o id _).mono ?_
        rintro e w3 ⟨rfl, hb⟩
        have HW3 := Lib.hid (ext_trans HW.out hb)
        clear hb h0 h1 h2 h3 h4
        by_cases hq : o.id = id
        · have e3 : cmpI o.id id = 0 := by unfold cmpI; rw [if_neg (by omega), if_neg (by omega)]
          rw [e3]
          have HK : Hid (known l id = true) := Lib.hid (by unfold known; rw [HLB.out, decide_eq_true hla, HO.out, decide_eq_true hq]; rfl)
          clear e3 hq
          go_wp2_with fail
          go_ret2
          exact ⟨by rw [HLB.out, HK.out]; rfl, HW3.out⟩
        · obtain ⟨y, hy, hy0⟩ : ∃ y, cmpI o.id id = y ∧ y ≠ 0 := ⟨_, rfl, by unfold cmpI; split; omega; split <;> omega⟩
          rw [hy]
          have HK : Hid (known l id = false) := Lib.hid (by unfold known; rw [HLB.out, HO.out, decide_eq_false hq, Bool.and_false])
          have HY1 : Hid ((y == 0) = false) := Lib.hid (by simpa using hy0)
          clear hy hq
          go_wp2_with fail
          go_ret2
          exact ⟨by rw [HLB.out, HK.out, ← HY1.out]; rfl, HW3.out⟩
      · have e2 : ¬ (a:Int) < l.length := by omega
        have HK : Hid (known l id = false) := Lib.hid (by unfold known; rw [HLB.out, decide_eq_false hla]; rfl)
        go_wp2_with fail
        go_ret2
        exact ⟨by rw [HLB.out, HK.out]; rfl, HW.out⟩
theorem impl_place (v : Value) (l : List OD) (id : Int) (hv : vOrders l = true) (w : World) (ha : RODS w v l) :
    Calls Tryz.prog 38 #[v, .int .i64 id] w (Ret (.tuple #[.int .i64 (lb l id), .bool (known l id)]) w) := by
  have HC := Lib.hid (place_search v l id hv w ha)
  clear hv ha
  go_enter Tryz.func38, Tryz.ntmps38
  go_wp2_with fail
  refine (show Calls _ _ _ _ _ from HC.out).mono ?_
  rintro e w' ⟨rfl, hb⟩
  go_wp2_with fail
  go_ret2
  exact ⟨rfl, hb⟩

end Go.Proofs.YtbggggaoljpfnaaGreatDoor
