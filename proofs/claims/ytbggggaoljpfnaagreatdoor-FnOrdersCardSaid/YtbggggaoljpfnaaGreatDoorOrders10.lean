/-
  Orders, tenth part: copies of lists, SendBricks.
-/
import Derived.Test.YtbggggaoljpfnaaGreatDoorOrders9
import Derived.Test.YtbggggaoljpfnaaGreatDoorApp
import Derived.Test.YtbggggaoljpfnaaGreatDoorOrdR
import Derived.Lib.SliceRun
namespace Go.Proofs.YtbggggaoljpfnaaGreatDoor
open Go.ChangeShapes Go.WideShapes Go.ChangeAt Go.RowKit Go.Sort
set_option linter.unusedVariables false
set_option maxRecDepth 100000

/-- 'append(out, list...)' of orders. -/
theorem wpList_append_od {w : World} {ops : Array Oper} {rest : List Oper} {o : Oper} {a : Act} {Q : Exit → Act → World → Prop} (hgd : o.guard = none) (s x : Operand)
    (ho : o.op = .call { callee := .builtin .append, args := #[s, x], argTypes := #[24, 24] })
    (base : Nat) (v v2 : Value) (l m : List OD) (hs : a.eval s = v) (hx : a.eval x = v2) (hO : OODS w base v l) (hR : RODS w v2 m)
    (hl : l.length ≤ 1048576) (hl2 : m.length ≤ 1048576) (hbase : base ≤ w.heap.size)
    (h : ∀ A c w', OODS w' base (.slice A (l.length + m.length) c) (l ++ m) → Chg (BODS v) w w' → wpList Tryz.prog ops Q rest (a.put o.dst (.slice A (l.length + m.length) c)) w') : wpList Tryz.prog ops Q (o :: rest) a w := by
  obtain ⟨i0, hi, hz0, hz1, hz2⟩ := info_parts info_OD
  obtain ⟨A, c, rfl, _, _⟩ := hR.open_
  refine wpList_append_rd hgd s x _ ho base 26 i0 _ 5 48 Tryz.underlying24 hi hz0 hz1 hz2 rfl (by omega) v l.length (l.flatMap cOD) hs hO A m.length c (m.flatMap cOD) hx hR (fun u hu => by
    obtain ⟨o, _, ho⟩ := List.mem_flatMap.1 hu
    simp only [cOD, List.mem_cons, List.not_mem_nil, or_false] at ho
    rcases ho with rfl | rfl | rfl | rfl | rfl <;> rfl) (by unfold maxLen; omega) (by omega) hbase ?_
  intro v' w' hown hgrow _
  have hO' : OODS w' base v' (l ++ m) := by unfold OODS; simpa using hown
  have hO2 := hO'
  obtain ⟨A', c', rfl, _, _⟩ := hO2.rd.open_
  simp only [List.length_append] at hO' ⊢
  exact h A' c' w' hO' (Chg.of_grown hgrow)
/-- The result of a function that returns orders and a code. -/
def RetO (M : List OD) (code : Int) (w : World) : Ending → World → Prop := fun e w' => ∃ v, e = .returned (.tuple #[v, .int .i64 code]) ∧ OODS w' w.heap.size v M ∧ SmODS M ∧ Below w.heap.size w w'

theorem eql_nil_od (w : World) (a : Option Addr) (n c : Nat) : (binOp .eql 24 (.slice a n c) (.slice none 0 0)).run Tryz.prog w = .ok (.bool a.isNone) w := Lib.run_eql_slice_nil w _ _ a n c 0 0 Tryz.underlying24
attribute [local go_sem] eql_nil_od

set_option maxHeartbeats 800000 in
theorem od_clone (v : Value) (l : List OD) (hl : l.length ≤ 1048576) (w : World) (ha : RODS w v l) :
    Calls Tryz.prog 40 #[v] w fun e w' => ∃ A c, e = .returned (.slice A l.length c) ∧ OODS w' w.heap.size (.slice A l.length c) l ∧ Below w.heap.size w w' := by
  obtain ⟨A, c, rfl, hc1, hc2⟩ := ha.open_
  have HA := Lib.hid ha
  obtain ⟨_, A', c', hv', _, _, h4⟩ := ha
  injection hv' with q1 q2 q3
  subst q1 q3
  unfold maxLen at hc2
  cases A with
  | none =>
    have hl0 : l = [] := by
      rcases Nat.eq_zero_or_pos l.length with h | h
      · exact List.eq_nil_of_length_eq_zero h
      · obtain ⟨ad, h, _⟩ := h4 h; cases h
    subst hl0
    clear h4
    go_enter Tryz.func40, Tryz.ntmps40
    go_wp2_with fail
    go_ret
    exact ⟨none, 0, rfl, ood_nil _ _, ext_refl _⟩
  | some ad =>
    clear h4
    go_enter Tryz.func40, Tryz.ntmps40
    go_wp2_with (at_builtin; refine wpList_append_od rfl _ _ rfl w.heap.size (.slice (some ⟨w.heap.size, 0, none⟩) 0 0) _ [] l rfl rfl (ood_lit w _ (Nat.le_refl _)) (HA.out.alloc _) (by simp) hl (by simp) ?_; intro A1 c1 w1 hO1 hg1)
    go_ret
    simp only [List.length_nil, Nat.zero_add, List.nil_append] at *
    refine ⟨A1, c1, rfl, hO1, ?_⟩
    exact Chg.ext (w0 := w) (ext_alloc1 _ _) hg1 (fun k hk => by simp [BODS, BI, Value.ownBlock] at hk; omega)

def sentO (o : OD) (n : Int) : OD := ⟨o.id, o.cu, o.br, o.due, o.sent + n⟩
theorem tot_set {l : List OD} {k : Nat} {o : OD} (hk : k < l.length) (h : o.cu = (gd l k).cu) : totOD (l.set k o) = totOD l := by
  unfold totOD
  congr 1
  apply List.ext_getElem (by simp)
  intro i h1 h2
  simp only [List.getElem_map, List.getElem_set]
  split
  · rename_i he; subst he; rw [h, gd_eq hk]
  · rfl
theorem sm_set {l : List OD} {k : Nat} {o : OD} (hk : k < l.length) (h : o.cu = (gd l k).cu) (hs : SmODS l) : SmODS (l.set k o) := by
  unfold SmODS at hs ⊢
  rw [tot_set hk h, List.length_set]; exact hs
def mSendBricks (l : List OD) (id n : Int) : List OD × Int :=
  bif vOrders l then (bif inB n 1 1000000 then (bif known l id then (bif decide (opn (gd l (lb l id)) < n) then ([], 5) else (l.set (lb l id) (sentO (gd l (lb l id)) n), 0)) else ([], 3)) else ([], 2)) else ([], 1)

set_option maxHeartbeats 1600000 in
theorem impl_SendBricks (v : Value) (l : List OD) (id n : Int) (w : World) (ha : RODS w v l) (hsm : SmODS l) :
    Calls Tryz.prog 9 #[v, .int .i64 id, .int .i64 n] w (RetO (mSendBricks l id n).1 (mSendBricks l id n).2 w) := by
  obtain ⟨A, c, rfl, hc1, hc2⟩ := ha.open_
  have HA := Lib.hid ha; clear ha
  have HV0 := Lib.hid (impl_ValidOrders _ l w HA.out hsm)
  have HS := Lib.hid hsm
  clear hsm
  unfold maxLen at hc2
  go_enter Tryz.func9, Tryz.ntmps9
  go_wp2_with fail
  refine (show Calls _ _ _ _ _ from HV0.out).mono ?_
  rintro e w1 ⟨rfl, hb⟩
  have HW1 := Lib.hid hb; clear hb HV0
  cases hv : vOrders l with
  | false =>
    have HM : Hid (mSendBricks l id n = ([], 1)) := Lib.hid (by unfold mSendBricks; rw [hv]; rfl)
    clear hv
    go_wp2_with fail
    go_ret2
    rw [HM.out]
    exact ⟨_, rfl, ood_nil _ _, by simp [SmODS, totOD], HW1.out⟩
  | true =>
    have HV := Lib.hid hv
    have hlen := v_len hv
    clear hv
    go_wp2_with fail
    refine (impl_within n 1 1000000 _).mono ?_
    rintro e w2 ⟨rfl, rfl⟩
    cases hi : inB n 1 1000000 with
    | false =>
      have HM : Hid (mSendBricks l id n = ([], 2)) := Lib.hid (by unfold mSendBricks; rw [HV.out, hi]; rfl)
      clear hi
      go_wp2_with fail
      go_ret2
      rw [HM.out]
      exact ⟨_, rfl, ood_nil _ _, by simp [SmODS, totOD], HW1.out⟩
    | true =>
      have hn2 := inB_iff.1 hi
      have HI := Lib.hid hi
      clear hi
      have HPL := Lib.hid (impl_place _ l id HV.out _ (HA.out.ext HW1.out))
      go_wp2_with fail
      refine (show Calls _ _ _ _ _ from HPL.out).mono ?_
      rintro e w2 ⟨rfl, hb⟩
      have HW2 := Lib.hid (ext_trans HW1.out hb)
      clear hb HPL
      cases hk : known l id with
      | false =>
        have HM : Hid (mSendBricks l id n = ([], 3)) := Lib.hid (by unfold mSendBricks; rw [HV.out, HI.out, hk]; rfl)
        clear hk
        go_wp2_with fail
        go_ret2
        rw [HM.out]
        exact ⟨_, rfl, ood_nil _ _, by simp [SmODS, totOD], HW2.out⟩
      | true =>
        have hkl : lb l id < l.length := by
          unfold known at hk
          simp only [Bool.and_eq_true, decide_eq_true_eq] at hk
          exact hk.1
        have HK := Lib.hid hk; clear hk
        obtain ⟨k, hkk⟩ : ∃ k, lb l id = k := ⟨_, rfl⟩
        rw [hkk] at hkl
        rw [hkk]
        have HLB := Lib.hid hkk; clear hkk
        have HA2 := Lib.hid (HA.out.ext HW2.out)
        obtain ⟨ad, rfl, _, hc⟩ := HA2.out.at hkl
        obtain ⟨h0, h1, h2, h3, h4⟩ := hc k hkl
        clear hc
        have HC := Lib.hid (fun w => impl_open (.agg #[.int .i64 (gd l k).id, .string (gd l k).cu, .int .i64 (gd l k).br, .int .i64 (gd l k).due, .int .i64 (gd l k).sent]) (gd l k) w rfl (v_one HV.out hkl))
        have HOP : Hid ((gd l k).br - (gd l k).sent = opn (gd l k)) := Lib.hid rfl
        rw [HOP.out] at HC
        have ho := opn_bd HV.out hkl
        have e1 : (0:Int) ≤ k := by omega
        have e2 : (k:Int) < l.length := by omega
        go_wp2_with fail
        refine (show Calls _ _ _ _ _ from HC.out _).mono ?_
        rintro e w3 ⟨rfl, hb⟩
        have HW3 := Lib.hid (ext_trans HW2.out hb)
        clear hb h0 h1 h2 h3 h4 HC
        by_cases hq : opn (gd l k) < n
        · have HM : Hid (mSendBricks l id n = ([], 5)) := Lib.hid (by unfold mSendBricks; rw [HV.out, HI.out, HK.out, HLB.out, decide_eq_true hq]; rfl)
          have e3 : decide (opn (gd l k) < n) = true := decide_eq_true hq
          clear hq
          go_wp2_with fail
          go_ret2
          rw [HM.out]
          exact ⟨_, rfl, ood_nil _ _, by simp [SmODS, totOD], HW3.out⟩
        · have HM : Hid (mSendBricks l id n = (l.set k (sentO (gd l k) n), 0)) := Lib.hid (by unfold mSendBricks; rw [HV.out, HI.out, HK.out, HLB.out, decide_eq_false hq]; rfl)
          have e3 : decide (opn (gd l k) < n) = false := decide_eq_false hq
          have HCL := Lib.hid (od_clone _ l (by omega) _ (HA.out.ext HW3.out))
          have hsb : 0 ≤ (gd l k).sent ∧ (gd l k).sent ≤ 1000000 := by
            obtain ⟨_, _, g3, _, g5⟩ := oneO_iff.1 (v_one HV.out hkl)
            omega
          clear hq
          go_wp2_with fail
          refine (show Calls _ _ _ _ _ from HCL.out).mono ?_
          rintro e w4 ⟨A4, c4, rfl, hO4, hb⟩
          obtain ⟨g, rfl, hg1, hg2, _⟩ := hO4.blk (by omega)
          have HW4 := Lib.hid (ext_trans HW3.out hb)
          have HO4 := Lib.hid (hO4.mono HW3.out.size)
          have HR4 := Lib.hid HO4.out.row
          have hcell := HR4.out.cell (j := k * 5 + 4) (by omega)
          have hfr := HR4.out.frozen (k * 5 + 4)
          rw [cf_at cOD 5 (by omega), show (cOD (gd l k)).getD 4 undef = .int .i64 (gd l k).sent from rfl] at hcell
          have hgw : w.heap.size ≤ g := Nat.le_trans HW3.out.size hg1
          clear hO4 hb HCL e3
          go_wp2_with fail
          go_ret2
          rw [HM.out]
          refine ⟨_, rfl, OODS.of_row hkl (HR4.out.set (k * 5 + 4) (.int .i64 ((gd l k).sent + n))) (fun i hi => ?_) (fun q i hq1 hq2 hi => ?_), sm_set hkl rfl HS.out, HW4.out.setCell (p := ⟨g, k * 5 + 4, none⟩) hgw _⟩
          · rw [cf_at cOD 5 hi]
            rcases (show i = 0 ∨ i = 1 ∨ i = 2 ∨ i = 3 ∨ i = 4 by omega) with rfl | rfl | rfl | rfl | rfl
            · rw [if_neg (by omega)]; rfl
            · rw [if_neg (by omega)]; rfl
            · rw [if_neg (by omega)]; rfl
            · rw [if_neg (by omega)]; rfl
            · rw [if_pos rfl]; rfl
          · rw [if_neg (by omega), cf_at cOD 5 hi]

set_option maxHeartbeats 1600000 in
theorem spec_SendBricks (v : Value) (l : List OD) (id n : Int) (w : World) (ha : RODS w v l) (hsm : SmODS l) :
    Calls Tryz.prog 10 #[v, .int .i64 id, .int .i64 n] w (RetO (mSendBricks l id n).1 (mSendBricks l id n).2 w) := by
  obtain ⟨A, c, rfl, hc1, hc2⟩ := ha.open_
  have HA := Lib.hid ha; clear ha
  have HV0 := Lib.hid (spec_okO _ l hsm w HA.out)
  have HS := Lib.hid hsm
  clear hsm
  unfold maxLen at hc2
  go_enter Tryz.func10, Tryz.ntmps10
  go_wp2_with fail
  refine (show Calls _ _ _ _ _ from HV0.out).mono ?_
  rintro e w1 ⟨rfl, hb⟩
  have HW1 := Lib.hid hb; clear hb HV0
  cases hv : vOrders l with
  | false =>
    have HM : Hid (mSendBricks l id n = ([], 1)) := Lib.hid (by unfold mSendBricks; rw [hv]; rfl)
    clear hv
    go_wp2_with fail
    go_ret2
    rw [HM.out]
    exact ⟨_, rfl, ood_nil _ _, by simp [SmODS, totOD], HW1.out⟩
  | true =>
    have HV := Lib.hid hv
    have hlen := v_len hv
    clear hv
    go_wp2_with fail
    refine (spec_in n 1 1000000 _).mono ?_
    rintro e w2 ⟨rfl, rfl⟩
    cases hi : inB n 1 1000000 with
    | false =>
      have HM : Hid (mSendBricks l id n = ([], 2)) := Lib.hid (by unfold mSendBricks; rw [HV.out, hi]; rfl)
      clear hi
      go_wp2_with fail
      go_ret2
      rw [HM.out]
      exact ⟨_, rfl, ood_nil _ _, by simp [SmODS, totOD], HW1.out⟩
    | true =>
      have hn2 := inB_iff.1 hi
      have HI := Lib.hid hi
      clear hi
      have HPL := Lib.hid (spec_find _ l id HV.out _ (HA.out.ext HW1.out))
      go_wp2_with fail
      refine (show Calls _ _ _ _ _ from HPL.out).mono ?_
      rintro e w2 ⟨rfl, rfl⟩
      clear HPL
      cases hk : known l id with
      | false =>
        have HM : Hid (mSendBricks l id n = ([], 3)) := Lib.hid (by unfold mSendBricks; rw [HV.out, HI.out, hk]; rfl)
        rw [show fnd l id = -1 from by unfold fnd; rw [hk]; rfl]
        clear hk
        go_wp2_with fail
        go_ret2
        rw [HM.out]
        exact ⟨_, rfl, ood_nil _ _, by simp [SmODS, totOD], HW1.out⟩
      | true =>
        have hkl : lb l id < l.length := by
          unfold known at hk
          simp only [Bool.and_eq_true, decide_eq_true_eq] at hk
          exact hk.1
        rw [show fnd l id = lb l id from by unfold fnd; rw [hk]; rfl]
        have HK := Lib.hid hk; clear hk
        obtain ⟨k, hkk⟩ : ∃ k, lb l id = k := ⟨_, rfl⟩
        rw [hkk] at hkl
        rw [hkk]
        have HLB := Lib.hid hkk; clear hkk
        have HA2 := Lib.hid (HA.out.ext HW1.out)
        obtain ⟨ad, rfl, _, hc⟩ := HA2.out.at hkl
        obtain ⟨_, _, h2, _, h4⟩ := hc k hkl
        clear hc
        have ho := opn_bd HV.out hkl
        have hsb : 0 ≤ (gd l k).sent ∧ (gd l k).sent ≤ 1000000 := by
          obtain ⟨_, _, g3, _, g5⟩ := oneO_iff.1 (v_one HV.out hkl)
          omega
        have e0 : decide ((k:Int) < 0) = false := decide_eq_false (by omega)
        have e1 : (0:Int) ≤ k := by omega
        have e2 : (k:Int) < l.length := by omega
        by_cases hq : opn (gd l k) < n
        · have HM : Hid (mSendBricks l id n = ([], 5)) := Lib.hid (by unfold mSendBricks; rw [HV.out, HI.out, HK.out, HLB.out, decide_eq_true hq]; rfl)
          have e3 : decide ((gd l k).br < (gd l k).sent + n) = true := decide_eq_true (by unfold opn at hq; omega)
          clear hq
          go_wp2_with fail
          go_quiet (fail)
          rename Nat => n1
          clear h2 h4
          go_wp2_with fail
          go_ret2
          rw [HM.out]
          exact ⟨_, rfl, ood_nil _ _, by simp [SmODS, totOD], ext_drewN HW1.out _⟩
        · have HM : Hid (mSendBricks l id n = (l.set k (sentO (gd l k) n), 0)) := Lib.hid (by unfold mSendBricks; rw [HV.out, HI.out, HK.out, HLB.out, decide_eq_false hq]; rfl)
          have e3 : decide ((gd l k).br < (gd l k).sent + n) = false := decide_eq_false (by unfold opn at hq; omega)
          clear hq
          go_wp2_with fail
          go_quiet (fail)
          rename Nat => n1
          clear h2 h4
          have HW2 := Lib.hid (ext_drewN HW1.out n1)
          have HA3 := Lib.hid (HA.out.ext HW2.out)
          generalize w1.drewN n1 = w2 at *
          have hz2 := HW2.out.size
          go_wp2_with (at_builtin; refine wpList_append_od rfl _ _ rfl w.heap.size (.slice (some ⟨w2.heap.size, 0, none⟩) 0 0) _ [] l rfl rfl (ood_lit w2 _ hz2) (HA3.out.alloc _) (by simp) (by omega) (by simp; omega) ?_; intro A4 c4 w4 hO4 hg4; simp only [List.length_nil, Nat.zero_add, List.nil_append] at hO4 ⊢; (obtain ⟨g, rfl, hg1, hg2, _⟩ := hO4.blk (by omega)); (have HW4 := Lib.hid (Chg.ext (ext_trans HW2.out (ext_alloc1 _ _)) hg4 (fun k hk => by simp [BODS, BI, Value.ownBlock] at hk; omega))); (have HR4 := Lib.hid hO4.row); (obtain ⟨hc0, hc1, hc2, hc3, hc4, hfr⟩ := hO4.cells5 rfl hkl); (have hf0 := hfr (k * 5)); (have hf1 := hfr (k * 5 + 1)); (have hf2 := hfr (k * 5 + 2)); (have hf3 := hfr (k * 5 + 3)); (have hf4 := hfr (k * 5 + 4)); clear hfr hg4 hO4)
          go_ret2
          rw [HM.out]
          refine ⟨_, rfl, (OODS.of_row hkl (((((HR4.out.set (k * 5) (.int .i64 (gd l k).id)).set (k * 5 + 1) (.string (gd l k).cu)).set (k * 5 + 2) (.int .i64 (gd l k).br)).set (k * 5 + 3) (.int .i64 (gd l k).due)).set (k * 5 + 4) (.int .i64 ((gd l k).sent + n))) (fun i hi => ?_) (fun q i hq1 hq2 hi => ?_)).ext (ext_alloc1 _ _), sm_set hkl rfl HS.out, ext_alloc (((((HW4.out.setCell (p := ⟨g, k * 5, none⟩) hg1 _).setCell (p := ⟨g, k * 5 + 1, none⟩) hg1 _).setCell (p := ⟨g, k * 5 + 2, none⟩) hg1 _).setCell (p := ⟨g, k * 5 + 3, none⟩) hg1 _).setCell (p := ⟨g, k * 5 + 4, none⟩) hg1 _) _⟩
          · rcases (show i = 0 ∨ i = 1 ∨ i = 2 ∨ i = 3 ∨ i = 4 by omega) with rfl | rfl | rfl | rfl | rfl
            · rw [if_neg (by omega), if_neg (by omega), if_neg (by omega), if_neg (by omega), if_pos (by omega)]; rfl
            · rw [if_neg (by omega), if_neg (by omega), if_neg (by omega), if_pos rfl]; rfl
            · rw [if_neg (by omega), if_neg (by omega), if_pos rfl]; rfl
            · rw [if_neg (by omega), if_pos rfl]; rfl
            · rw [if_pos rfl]; rfl
          · rw [if_neg (by omega), if_neg (by omega), if_neg (by omega), if_neg (by omega), if_neg (by omega), cf_at cOD 5 hi]

end Go.Proofs.YtbggggaoljpfnaaGreatDoor
