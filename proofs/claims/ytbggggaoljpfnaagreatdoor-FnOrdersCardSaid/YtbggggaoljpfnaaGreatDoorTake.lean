/-
  TakeOrder.
-/
import Derived.Test.YtbggggaoljpfnaaGreatDoorIns2
import Derived.Deep.RegionHeld3
namespace Go.Proofs.YtbggggaoljpfnaaGreatDoor
open Go.ChangeShapes Go.WideShapes Go.ChangeAt Go.RowKit Go.Sort
set_option linter.unusedVariables false
set_option maxRecDepth 100000

def mTakeOrder (l : List OD) (x : OD) : List OD × Int :=
  bif vOrders l then (bif oneO x then (bif known l x.id then ([], 4) else (bif decide (l.length = 30) then ([], 5) else (l.take (lb l x.id) ++ x :: l.drop (lb l x.id), 0))) else ([], 2)) else ([], 1)
theorem tot_le12 : ∀ (l : List OD), (∀ o ∈ l, o.cu.size ≤ 12) → totOD l ≤ 12 * l.length := by
  intro l
  induction l with
  | nil => intro _; simp [totOD]
  | cons a r ih =>
    intro h
    have h1 := ih fun o ho => h o (List.mem_cons_of_mem _ ho)
    have h2 := h a (List.mem_cons_self ..)
    unfold totOD at *
    rw [List.map_cons, List.sum_cons, List.length_cons]
    omega
theorem one_size {o : OD} (h : oneO o = true) : o.cu.size ≤ 12 := by
  have := (oneO_iff.1 h).2.1
  unfold isN at this
  simp only [Bool.and_eq_true, decide_eq_true_eq] at this
  omega
theorem v_size {l : List OD} (hv : vOrders l = true) : ∀ o ∈ l, o.cu.size ≤ 12 := fun o ho => by
  obtain ⟨k, hk, rfl⟩ := List.getElem_of_mem ho
  have := one_size (v_one hv hk)
  rwa [gd_eq hk] at this
theorem sm_ins {l : List OD} {x : OD} (k : Nat) (hv : vOrders l = true) (hx : oneO x = true) : SmODS (l.take k ++ x :: l.drop k) := by
  have h1 := tot_le12 (l.take k ++ x :: l.drop k) (fun o ho => by
    rcases List.mem_append.1 ho with h | h
    · exact v_size hv o (List.mem_of_mem_take h)
    · rcases List.mem_cons.1 h with rfl | h
      · exact one_size hx
      · exact v_size hv o (List.mem_of_mem_drop h))
  have h2 := v_len hv
  unfold SmODS
  have h3 : (l.take k ++ x :: l.drop k).length ≤ 2 * l.length + 1 := by rw [List.length_append, List.length_cons, List.length_take, List.length_drop]; omega
  omega
theorem ood_one (w : World) (x : OD) : OODS (w.alloc (.cells #[.int .i64 x.id, .string x.cu, .int .i64 x.br, .int .i64 x.due, .int .i64 x.sent] 26)) 0 (.slice (some ⟨w.heap.size, 0, none⟩) 1 1) [x] :=
  ⟨rfl, .inr ⟨w.heap.size, 1, _, rfl, Nat.zero_le _, heap_alloc_new w _, Nat.le_refl _, by unfold maxLen; omega, rfl, rfl⟩⟩

/-- What the call of slices.Insert leaves. -/
def InsP (l : List OD) (x : OD) (k : Nat) (w3 : World) : Ending → World → Prop := fun e w' => ∃ A' c', e = .returned (.slice A' (l.length + 1) c') ∧ OODS w' w3.heap.size (.slice A' (l.length + 1) c') (l.take k ++ x :: l.drop k) ∧ Below w3.heap.size w3 w'
theorem take_a (l : List OD) (x : OD) (k : Nat) (hk : k ≤ l.length) (hl : l.length ≤ 30) (A4 : Option Addr) (c4 : Nat) (w3 w4 : World) (hO4 : OODS w4 w3.drew.heap.size (.slice A4 l.length c4) l) (hb4 : Below w3.drew.heap.size w3.drew w4) :
    Calls Tryz.prog 39 #[.slice A4 l.length c4, .int .i64 k, .slice (some ⟨w4.heap.size, 0, none⟩) 1 1] (w4.alloc (.cells #[.int .i64 x.id, .string x.cu, .int .i64 x.br, .int .i64 x.due, .int .i64 x.sent] 26)) (InsP l x k w3) := by
  have hz : w3.heap.size ≤ w4.heap.size := hb4.size
  refine (od_insert A4 l.length c4 w3.heap.size 0 w4.heap.size k l x rfl (by omega) hk _ (hO4.ext (ext_alloc1 _ _)) (by simp; omega) (fun q hq => ?_) (ood_one w4 x)).mono ?_
  · have := (hO4.ge q hq).2; omega
  · rintro e w' ⟨A', c', rfl, hO, hg⟩
    exact ⟨A', c', rfl, hO, Chg.ext (w0 := w3) (ext_alloc (ext_trans (ext_drew (ext_refl _)) hb4) _) hg (fun q hq => (hO4.ge q hq).1)⟩
theorem take_b (l : List OD) (x : OD) (k : Nat) (hk : k ≤ l.length) (hl : l.length ≤ 30) (A4 : Option Addr) (c4 : Nat) (w3 w4 : World) (hO4 : OODS w4 (w3.alloc (.cells #[.int .i64 x.id, .string x.cu, .int .i64 x.br, .int .i64 x.due, .int .i64 x.sent] 26)).drew.heap.size (.slice A4 l.length c4) l) (hb4 : Below (w3.alloc (.cells #[.int .i64 x.id, .string x.cu, .int .i64 x.br, .int .i64 x.due, .int .i64 x.sent] 26)).drew.heap.size (w3.alloc (.cells #[.int .i64 x.id, .string x.cu, .int .i64 x.br, .int .i64 x.due, .int .i64 x.sent] 26)).drew w4) :
    Calls Tryz.prog 39 #[.slice A4 l.length c4, .int .i64 k, .slice (some ⟨w3.heap.size, 0, none⟩) 1 1] w4 (InsP l x k w3) := by
  have hz1 : (w3.alloc (.cells #[.int .i64 x.id, .string x.cu, .int .i64 x.br, .int .i64 x.due, .int .i64 x.sent] 26)).drew.heap.size = w3.heap.size + 1 := by simp
  have hz : w3.heap.size + 1 ≤ w4.heap.size := by rw [← hz1]; exact hb4.size
  have hge : ∀ q, BI (.slice A4 l.length c4) q → w3.heap.size + 1 ≤ q := fun q hq => by rw [← hz1]; exact (hO4.ge q hq).1
  refine (od_insert A4 l.length c4 w3.heap.size 0 w3.heap.size k l x rfl (by omega) hk _ (hO4.mono (by rw [hz1]; omega)) (by omega) (fun q hq => ?_) (((ood_one w3 x).ext (ext_drew (ext_refl _))).ext hb4)).mono ?_
  · have := hge q hq; omega
  · rintro e w' ⟨A', c', rfl, hO, hg⟩
    exact ⟨A', c', rfl, hO, Chg.ext (w0 := w3) (ext_trans (ext_drew (ext_alloc1 _ _)) hb4) hg (fun q hq => by have := hge q hq; omega)⟩

set_option maxHeartbeats 3200000 in
theorem impl_TakeOrder (v : Value) (l : List OD) (u : Value) (x : OD) (w : World) (ha : RODS w v l) (hsm : SmODS l) (hx : ROD w u x) (hsx : SmOD x) :
    Calls Tryz.prog 6 #[v, u] w (RetO (mTakeOrder l x).1 (mTakeOrder l x).2 w) := by
  obtain ⟨A, c, rfl, hc1, hc2⟩ := ha.open_
  obtain rfl : u = _ := hx
  have HA := Lib.hid ha; clear ha
  have HS := Lib.hid hsm
  have HL : Hid (LenOD x) := Lib.hid (by unfold SmOD at hsx; unfold LenOD maxLen; omega)
  have HP := Lib.hid (pOD_box w x 26)
  clear hsm hsx
  unfold maxLen at hc2
  go_enter Tryz.func6, Tryz.ntmps6
  go_wp2_with fail
  refine (impl_ValidOrders _ l _ (HA.out.alloc _) HS.out).mono ?_
  rintro e w1 ⟨rfl, hb⟩
  have HW1 := Lib.hid (ext_trans (ext_alloc1 _ _) hb)
  have HP1 := Lib.hid (HP.out.ext hb); clear hb HP
  cases hv : vOrders l with
  | false =>
    have HM : Hid (mTakeOrder l x = ([], 1)) := Lib.hid (by unfold mTakeOrder; rw [hv]; rfl)
    clear hv
    go_wp2_with fail
    go_ret2
    rw [HM.out]
    exact ⟨_, rfl, ood_nil _ _, by simp [SmODS, totOD], HW1.out⟩
  | true =>
    have HV := Lib.hid hv
    have hlen := v_len hv
    clear hv
    obtain ⟨h0, h1, h2, h3, h4⟩ := HP1.out
    go_wp2_with fail
    refine (impl_one _ x _ HL.out rfl).mono ?_
    rintro e w2 ⟨rfl, hb⟩
    have HW2 := Lib.hid (ext_trans HW1.out hb)
    have HP2 := Lib.hid (HP1.out.ext hb); clear hb HP1 h0 h1 h2 h3 h4
    cases hi : oneO x with
    | false =>
      have HM : Hid (mTakeOrder l x = ([], 2)) := Lib.hid (by unfold mTakeOrder; rw [HV.out, hi]; rfl)
      clear hi
      go_wp2_with fail
      go_ret2
      rw [HM.out]
      exact ⟨_, rfl, ood_nil _ _, by simp [SmODS, totOD], HW2.out⟩
    | true =>
      have HI := Lib.hid hi
      clear hi
      have HPL := Lib.hid (impl_place _ l x.id HV.out _ (HA.out.ext HW2.out))
      have h0 := HP2.out.1
      go_wp2_with fail
      refine (show Calls _ _ _ _ _ from HPL.out).mono ?_
      rintro e w3 ⟨rfl, hb⟩
      have HW3 := Lib.hid (ext_trans HW2.out hb)
      have HP3 := Lib.hid (HP2.out.ext hb)
      clear hb HPL h0 HP2
      cases hk : known l x.id with
      | true =>
        have HM : Hid (mTakeOrder l x = ([], 4)) := Lib.hid (by unfold mTakeOrder; rw [HV.out, HI.out, hk]; rfl)
        clear hk
        go_wp2_with fail
        go_ret2
        rw [HM.out]
        exact ⟨_, rfl, ood_nil _ _, by simp [SmODS, totOD], HW3.out⟩
      | false =>
        have HK := Lib.hid hk
        clear hk
        by_cases h30 : l.length = 30
        · have HM : Hid (mTakeOrder l x = ([], 5)) := Lib.hid (by unfold mTakeOrder; rw [HV.out, HI.out, HK.out, decide_eq_true h30]; rfl)
          have e1 : (l.length : Int) = 30 := by omega
          clear h30
          go_wp2_with fail
          go_ret2
          rw [HM.out]
          exact ⟨_, rfl, ood_nil _ _, by simp [SmODS, totOD], HW3.out⟩
        · have HM : Hid (mTakeOrder l x = (l.take (lb l x.id) ++ x :: l.drop (lb l x.id), 0)) := Lib.hid (by unfold mTakeOrder; rw [HV.out, HI.out, HK.out, decide_eq_false h30]; rfl)
          have HSM := Lib.hid (sm_ins (x := x) (lb l x.id) HV.out HI.out)
          have e1 : ¬ (l.length : Int) = 30 := by omega
          have hlb := (lb_spec HV.out x.id).1
          generalize lb l x.id = k at *
          have HA3 := Lib.hid (HA.out.ext (ext_drew HW3.out))
          have HP4 := Lib.hid (HP3.out.ext (ext_drew (ext_refl w3)))
          have hz3 := HW3.out.size
          clear h30
          go_wp2_with fail
          go_region_held3 (fun w' => w'.cell? ⟨w.heap.size, 0, none⟩ = some (.int .i64 x.id) ∧ w'.cell? ⟨w.heap.size, 1, none⟩ = some (.string x.cu) ∧ w'.cell? ⟨w.heap.size, 2, none⟩ = some (.int .i64 x.br) ∧ w'.cell? ⟨w.heap.size, 3, none⟩ = some (.int .i64 x.due) ∧ w'.cell? ⟨w.heap.size, 4, none⟩ = some (.int .i64 x.sent)) (first | exact hp5 | exact HP4.out | exact hp4 | exact HP4.out.ext (ext_alloc1 _ _) | exact HP3.out.ext (ext_drew (ext_alloc1 _ _)) | exact hp4.ext (ext_alloc1 _ _) | assumption)
            (first
              | (go_at_call 40; (first | (have ht := od_clone _ l (by omega) w3.drew (HA.out.ext (ext_drew HW3.out)); with_reducible refine ht.mono ?_; clear ht) | (have ht := od_clone _ l (by omega) (w3.alloc (.cells #[.int .i64 x.id, .string x.cu, .int .i64 x.br, .int .i64 x.due, .int .i64 x.sent] 26)).drew (((HA.out.ext HW3.out).alloc _).ext (ext_drew (ext_refl _))); with_reducible refine ht.mono ?_; clear ht)); rintro e w4 ⟨A4, c4, rfl, hO4, hb4⟩; (first | have hp4 := HP4.out.ext hb4 | have hp4 := (HP3.out.ext (ext_drew (ext_alloc1 _ _))).ext hb4))
              | (go_at_call 39; (first | (have ht := take_a l x k hlb hlen A4 c4 w3 w4 hO4 hb4; with_reducible refine ht.mono ?_; clear ht) | (have ht := take_b l x k hlb hlen A4 c4 w3 w4 hO4 hb4; with_reducible refine ht.mono ?_; clear ht)); rintro e w5 ⟨A5, c5, rfl, hO5, hb5⟩; (have hp5 := HP3.out.ext hb5)))
          all_goals
            go_wp2_with fail
            go_ret2
            rw [HM.out]
            exact ⟨_, rfl, hO5.mono hz3, HSM.out, ext_trans HW3.out hb5⟩

set_option maxHeartbeats 3200000 in
theorem spec_TakeOrder (v : Value) (l : List OD) (u : Value) (x : OD) (w : World) (ha : RODS w v l) (hsm : SmODS l) (hx : ROD w u x) (hsx : SmOD x) :
    Calls Tryz.prog 7 #[v, u] w (RetO (mTakeOrder l x).1 (mTakeOrder l x).2 w) := by
  obtain ⟨A, c, rfl, hc1, hc2⟩ := ha.open_
  obtain rfl : u = _ := hx
  have HA := Lib.hid ha; clear ha
  have HS := Lib.hid hsm
  have HL : Hid (LenOD x) := Lib.hid (by unfold SmOD at hsx; unfold LenOD maxLen; omega)
  have HP := Lib.hid (pOD_box w x 26)
  clear hsm hsx
  unfold maxLen at hc2
  go_enter Tryz.func7, Tryz.ntmps7
  go_wp2_with fail
  refine (spec_okO _ l HS.out _ (HA.out.alloc _)).mono ?_
  rintro e w1 ⟨rfl, hb⟩
  have HW1 := Lib.hid (ext_trans (ext_alloc1 _ _) hb)
  have HP1 := Lib.hid (HP.out.ext hb); clear hb HP
  cases hv : vOrders l with
  | false =>
    have HM : Hid (mTakeOrder l x = ([], 1)) := Lib.hid (by unfold mTakeOrder; rw [hv]; rfl)
    clear hv
    go_wp2_with fail
    go_ret2
    rw [HM.out]
    exact ⟨_, rfl, ood_nil _ _, by simp [SmODS, totOD], HW1.out⟩
  | true =>
    have HV := Lib.hid hv
    have hlen := v_len hv
    clear hv
    go_wp2_with fail
    refine (spec_one ⟨w.heap.size, 0, none⟩ x HL.out _ HP1.out).mono ?_
    rintro e w2 ⟨rfl, hb⟩
    have HW2 := Lib.hid (ext_trans HW1.out hb)
    have HP2 := Lib.hid (HP1.out.ext hb); clear hb HP1
    cases hi : oneO x with
    | false =>
      have HM : Hid (mTakeOrder l x = ([], 2)) := Lib.hid (by unfold mTakeOrder; rw [HV.out, hi]; rfl)
      clear hi
      go_wp2_with fail
      go_ret2
      rw [HM.out]
      exact ⟨_, rfl, ood_nil _ _, by simp [SmODS, totOD], HW2.out⟩
    | true =>
      have HI := Lib.hid hi
      clear hi
      have HPL := Lib.hid (spec_find _ l x.id HV.out _ (HA.out.ext HW2.out))
      have h0 := HP2.out.1
      go_wp2_with fail
      refine (show Calls _ _ _ _ _ from HPL.out).mono ?_
      rintro e w3 ⟨rfl, rfl⟩
      clear HPL h0
      cases hk : known l x.id with
      | true =>
        have HM : Hid (mTakeOrder l x = ([], 4)) := Lib.hid (by unfold mTakeOrder; rw [HV.out, HI.out, hk]; rfl)
        have e1 : (0 : Int) ≤ fnd l x.id := by unfold fnd; rw [hk]; exact Int.natCast_nonneg _
        clear hk
        go_wp2_with fail
        go_ret2
        rw [HM.out]
        exact ⟨_, rfl, ood_nil _ _, by simp [SmODS, totOD], HW2.out⟩
      | false =>
        have HK := Lib.hid hk
        have e1 : ¬ (0 : Int) ≤ fnd l x.id := by unfold fnd; rw [hk]; simp
        clear hk
        by_cases h30 : l.length = 30
        · have HM : Hid (mTakeOrder l x = ([], 5)) := Lib.hid (by unfold mTakeOrder; rw [HV.out, HI.out, HK.out, decide_eq_true h30]; rfl)
          have e2 : (30 : Int) ≤ (l.length : Int) := by omega
          clear h30
          go_wp2_with fail
          go_ret2
          rw [HM.out]
          exact ⟨_, rfl, ood_nil _ _, by simp [SmODS, totOD], HW2.out⟩
        · have HM : Hid (mTakeOrder l x = (l.take (lb l x.id) ++ x :: l.drop (lb l x.id), 0)) := Lib.hid (by unfold mTakeOrder; rw [HV.out, HI.out, HK.out, decide_eq_false h30]; rfl)
          have HSM := Lib.hid (sm_ins (x := x) (lb l x.id) HV.out HI.out)
          have e2 : ¬ (30 : Int) ≤ (l.length : Int) := by omega
          obtain ⟨hlb, hlo, hhi⟩ := lb_spec HV.out x.id
          have HLO := Lib.hid hlo
          have HHI : Hid (∀ j, lb l x.id ≤ j → j < l.length → x.id < (gd l j).id) := Lib.hid fun j h1 h2 => by
            have h3 := hhi _ (Nat.le_refl _) (by omega)
            have h4 : (gd l (lb l x.id)).id ≠ x.id := fun h5 => by
              have := HK.out
              unfold known at this
              rw [decide_eq_true (show lb l x.id < l.length by omega), decide_eq_true h5] at this
              cases this
            rcases Nat.lt_or_ge (lb l x.id) j with h6 | h6
            · have := v_lt HV.out h6 h2; omega
            · have : j = lb l x.id := by omega
              subst this; omega
          clear h30 hlo hhi
          generalize lb l x.id = m at *
          go_wp2_with fail
          go_loopw [6] (fun i wr => ∃ (k q : Nat), m ≤ k ∧ k ≤ l.length ∧ i = .int .i64 k ∧ wr = w2.drewN q) (fun i _ => (intOf i).toNat)
          case atStart => exact ⟨l.length, 0, hlb, Nat.le_refl _, rfl, rfl⟩
          case round =>
            obtain ⟨k, q, hk1, hk2, rfl, rfl⟩ := hrel
            by_cases hk0 : k = 0
            · have e3 : decide (0 < k) = false := decide_eq_false (by omega)
              have hkm : m = k := by omega
              subst hkm
              clear hk0
              go_wp2_with fail
              go_quiet (fail)
              rename Nat => n1
              clear e3
              have HW4 := Lib.hid (ext_drewN (ext_drewN HW2.out q) n1)
              have HP4 := Lib.hid (HP2.out.ext (ext_drewN (ext_drewN (ext_refl w2) q) n1))
              have HA4 := Lib.hid (HA.out.ext HW4.out)
              generalize (w2.drewN q).drewN n1 = w4 at *
              have hyl : (l.take m).length ≤ 30 := by rw [List.length_take]; omega
              have hzl : (l.drop m).length ≤ 30 := by rw [List.length_drop]; omega
              have hz1 : (0 : Int) ≤ m := by omega
              have hz2 : (m : Int) ≤ l.length := by omega
              have hz3 : (m : Int) ≤ c := by omega
              have hz4 : l.length ≤ c := hc1
              clear HP2 HW2 HW1 HS HL
              cases A with
              | none =>
                have hl0 : l = [] := by
                  obtain ⟨_, A', c', hv', _, _, h4⟩ := HA4.out
                  injection hv' with q1 q2 q3
                  subst q1
                  rcases Nat.eq_zero_or_pos l.length with h | h
                  · exact List.eq_nil_of_length_eq_zero h
                  · obtain ⟨ad, h, _⟩ := h4 h; cases h
                subst hl0
                have hm0 : m = 0 := by simpa using hlb
                subst hm0
                have HY : Hid (∀ w, RODS w (.slice none 0 c) [] → RODS w (.slice none 0 c) []) := Lib.hid fun w h => h
                have HZ : Hid (∀ w, RODS w (.slice none 0 c) [] → RODS w (.slice none 0 c) []) := Lib.hid fun w h => h
                clear hyl hzl
                go_wp2_with (at_builtin; first
                  | (refine wpList_append_od rfl _ _ rfl w4.heap.size (.slice (some ⟨w4.heap.size, 0, none⟩) 0 0) _ [] ([] : List OD) rfl rfl (ood_lit w4 _ (Nat.le_refl _)) (HY.out _ (HA4.out.alloc _)) (by simp) (by first | omega | (simp; done)) (by simp) ?_; intro A5 c5 w5 hO5 hg5; simp only [List.length_nil, Nat.zero_add, List.nil_append] at hO5 ⊢; (have HB5 := Lib.hid (Chg.ext (w0 := w4) (ext_alloc1 _ _) hg5 (fun k hk => by simp [BODS, BI, Value.ownBlock] at hk; omega))); (obtain ⟨b0, b1, b2, b3, b4⟩ := HP4.out.ext HB5.out); (have HO5 := Lib.hid hO5); (have hz5 := HB5.out.size); clear hg5 hO5)
                  | (refine wpList_append_od rfl _ _ rfl w4.heap.size (.slice A5 (([] : List OD)).length c5) _ ([] : List OD) [x] rfl rfl (HO5.out.ext (ext_alloc1 _ _)) (ood_one w5 x).rd (by first | omega | (simp; done)) (by simp) (by first | (simp; done) | (simp; omega) | omega) ?_; intro A6 c6 w6 hO6 hg6; (have HB6 := Lib.hid (Chg.ext (w0 := w4) (ext_trans HB5.out (ext_alloc1 _ _)) hg6 fun j hj => (HO5.out.ge j hj).1)); (have HO6 := Lib.hid hO6); (have HX6 := Lib.hid (HA4.out.ext HB6.out)); (have hz6 := HB6.out.size); clear hg6 hO6 b0 b1 b2 b3 b4)
                  | (refine wpList_append_od rfl _ _ rfl w4.heap.size (.slice A6 ((([] : List OD)).length + [x].length) c6) _ (([] : List OD) ++ [x]) ([] : List OD) rfl rfl HO6.out (HZ.out _ HX6.out) (by first | (simp; done) | (simp; omega) | omega) (by first | omega | (simp; done)) hz6 ?_; intro A7 c7 w7 hO7 hg7; (have HB7 := Lib.hid (Chg.ext (w0 := w4) HB6.out hg7 fun j hj => (HO6.out.ge j hj).1)); (have HO7 := Lib.hid hO7); clear hg7 hO7))
                all_goals
                  go_ret2
                  rw [HM.out]
                  refine ⟨_, rfl, ?_, HSM.out, ext_trans HW4.out HB7.out⟩
                  have h9 := HO7.out.mono HW4.out.size
                  simpa using h9
              | some ad =>
                have HY : Hid (∀ w, RODS w (.slice (some ad) l.length c) l → RODS w (.slice (some ad) m c) (l.take m)) := Lib.hid fun w h => ood_pre h (by omega)
                have HZ : Hid (∀ w, RODS w (.slice (some ad) l.length c) l → RODS w (.slice (if c = m then some ad else some (ad.add (m * 5))) (l.length - m) (c - m)) (l.drop m)) := Lib.hid fun w h => ood_suf h (by omega)
                generalize hys : l.take m = ys at *
                generalize hzs : l.drop m = zs at *
                clear hys hzs
                go_wp2_with (at_builtin; first
                  | (refine wpList_append_od rfl _ _ rfl w4.heap.size (.slice (some ⟨w4.heap.size, 0, none⟩) 0 0) _ [] ys rfl rfl (ood_lit w4 _ (Nat.le_refl _)) (HY.out _ (HA4.out.alloc _)) (by simp) (by first | omega | (simp; done)) (by simp) ?_; intro A5 c5 w5 hO5 hg5; simp only [List.length_nil, Nat.zero_add, List.nil_append] at hO5 ⊢; (have HB5 := Lib.hid (Chg.ext (w0 := w4) (ext_alloc1 _ _) hg5 (fun k hk => by simp [BODS, BI, Value.ownBlock] at hk; omega))); (obtain ⟨b0, b1, b2, b3, b4⟩ := HP4.out.ext HB5.out); (have HO5 := Lib.hid hO5); (have hz5 := HB5.out.size); clear hg5 hO5)
                  | (refine wpList_append_od rfl _ _ rfl w4.heap.size (.slice A5 (ys).length c5) _ ys [x] rfl rfl (HO5.out.ext (ext_alloc1 _ _)) (ood_one w5 x).rd (by first | omega | (simp; done)) (by simp) (by first | (simp; done) | (simp; omega) | omega) ?_; intro A6 c6 w6 hO6 hg6; (have HB6 := Lib.hid (Chg.ext (w0 := w4) (ext_trans HB5.out (ext_alloc1 _ _)) hg6 fun j hj => (HO5.out.ge j hj).1)); (have HO6 := Lib.hid hO6); (have HX6 := Lib.hid (HA4.out.ext HB6.out)); (have hz6 := HB6.out.size); clear hg6 hO6 b0 b1 b2 b3 b4)
                  | (refine wpList_append_od rfl _ _ rfl w4.heap.size (.slice A6 ((ys).length + [x].length) c6) _ (ys ++ [x]) zs rfl rfl HO6.out (HZ.out _ HX6.out) (by first | (simp; done) | (simp; omega) | omega) (by first | omega | (simp; done)) hz6 ?_; intro A7 c7 w7 hO7 hg7; (have HB7 := Lib.hid (Chg.ext (w0 := w4) HB6.out hg7 fun j hj => (HO6.out.ge j hj).1)); (have HO7 := Lib.hid hO7); clear hg7 hO7))
                all_goals
                  go_ret2
                  rw [HM.out]
                  refine ⟨_, rfl, ?_, HSM.out, ext_trans HW4.out HB7.out⟩
                  have h9 := HO7.out.mono HW4.out.size
                  simpa using h9
            · obtain ⟨p, hp⟩ : ∃ p, k = p + 1 := ⟨k - 1, by omega⟩
              obtain ⟨ad, rfl, _, hc⟩ := (HA.out.ext HW2.out).at (show p < l.length by omega)
              have g0 := (hc p (by omega)).1
              have g1 := HP2.out.1
              clear hc
              have e3 : decide (0 < k) = true := decide_eq_true (by omega)
              have e4 : (k:Int) - 1 = p := by omega
              have e5 : (p:Int) < l.length := by omega
              have e6 : (0:Int) ≤ p := by omega
              have HPK := Lib.hid hp
              by_cases hd : m ≤ p
              · have e9 : decide (x.id < (gd l p).id) = true := decide_eq_true (HHI.out p hd (by omega))
                clear hp hk0
                go_wp2_with fail
                go_quiet (fail)
                rename Nat => n1
                go_wp2_with fail
                go_roundw
                case rel => exact ⟨p, _, hd, by omega, rfl, rfl⟩
                case measure => simp [intOf]; have := HPK.out; omega
              · have e9 : decide (x.id < (gd l p).id) = false := decide_eq_false (by have := HLO.out p (by omega); omega)
                have hkm : m = k := by omega
                subst hkm
                clear hp hk0
                go_wp2_with fail
                go_quiet (fail)
                rename Nat => n1
                clear e3 e4 e5 e6 e9 g0 g1
                have HW4 := Lib.hid (ext_drewN (ext_drewN HW2.out q) n1)
                have HP4 := Lib.hid (HP2.out.ext (ext_drewN (ext_drewN (ext_refl w2) q) n1))
                have HA4 := Lib.hid (HA.out.ext HW4.out)
                generalize (w2.drewN q).drewN n1 = w4 at *
                have hyl : (l.take m).length ≤ 30 := by rw [List.length_take]; omega
                have hzl : (l.drop m).length ≤ 30 := by rw [List.length_drop]; omega
                have hz1 : (0 : Int) ≤ m := by omega
                have hz2 : (m : Int) ≤ l.length := by omega
                have hz3 : (m : Int) ≤ c := by omega
                have hz4 : l.length ≤ c := hc1
                clear HP2 HW2 HW1 HS HL
                have HY : Hid (∀ w, RODS w (.slice (some ad) l.length c) l → RODS w (.slice (some ad) m c) (l.take m)) := Lib.hid fun w h => ood_pre h (by omega)
                have HZ : Hid (∀ w, RODS w (.slice (some ad) l.length c) l → RODS w (.slice (if c = m then some ad else some (ad.add (m * 5))) (l.length - m) (c - m)) (l.drop m)) := Lib.hid fun w h => ood_suf h (by omega)
                generalize hys : l.take m = ys at *
                generalize hzs : l.drop m = zs at *
                clear hys hzs
                go_wp2_with (at_builtin; first
                  | (refine wpList_append_od rfl _ _ rfl w4.heap.size (.slice (some ⟨w4.heap.size, 0, none⟩) 0 0) _ [] ys rfl rfl (ood_lit w4 _ (Nat.le_refl _)) (HY.out _ (HA4.out.alloc _)) (by simp) (by first | omega | (simp; done)) (by simp) ?_; intro A5 c5 w5 hO5 hg5; simp only [List.length_nil, Nat.zero_add, List.nil_append] at hO5 ⊢; (have HB5 := Lib.hid (Chg.ext (w0 := w4) (ext_alloc1 _ _) hg5 (fun k hk => by simp [BODS, BI, Value.ownBlock] at hk; omega))); (obtain ⟨b0, b1, b2, b3, b4⟩ := HP4.out.ext HB5.out); (have HO5 := Lib.hid hO5); (have hz5 := HB5.out.size); clear hg5 hO5)
                  | (refine wpList_append_od rfl _ _ rfl w4.heap.size (.slice A5 (ys).length c5) _ ys [x] rfl rfl (HO5.out.ext (ext_alloc1 _ _)) (ood_one w5 x).rd (by first | omega | (simp; done)) (by simp) (by first | (simp; done) | (simp; omega) | omega) ?_; intro A6 c6 w6 hO6 hg6; (have HB6 := Lib.hid (Chg.ext (w0 := w4) (ext_trans HB5.out (ext_alloc1 _ _)) hg6 fun j hj => (HO5.out.ge j hj).1)); (have HO6 := Lib.hid hO6); (have HX6 := Lib.hid (HA4.out.ext HB6.out)); (have hz6 := HB6.out.size); clear hg6 hO6 b0 b1 b2 b3 b4)
                  | (refine wpList_append_od rfl _ _ rfl w4.heap.size (.slice A6 ((ys).length + [x].length) c6) _ (ys ++ [x]) zs rfl rfl HO6.out (HZ.out _ HX6.out) (by first | (simp; done) | (simp; omega) | omega) (by first | omega | (simp; done)) hz6 ?_; intro A7 c7 w7 hO7 hg7; (have HB7 := Lib.hid (Chg.ext (w0 := w4) HB6.out hg7 fun j hj => (HO6.out.ge j hj).1)); (have HO7 := Lib.hid hO7); clear hg7 hO7))
                all_goals
                  go_ret2
                  rw [HM.out]
                  refine ⟨_, rfl, ?_, HSM.out, ext_trans HW4.out HB7.out⟩
                  have h9 := HO7.out.mono HW4.out.size
                  simpa using h9

end Go.Proofs.YtbggggaoljpfnaaGreatDoor
