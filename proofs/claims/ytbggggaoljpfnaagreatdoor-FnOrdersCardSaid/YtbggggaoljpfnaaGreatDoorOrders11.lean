/-
  Orders, eleventh part: CancelOrder.
-/
import Derived.Test.YtbggggaoljpfnaaGreatDoorOrders10
import Derived.Deep.RegionLaw
import Derived.Lib.SliceRun
namespace Go.Proofs.YtbggggaoljpfnaaGreatDoor
open Go.ChangeShapes Go.WideShapes Go.ChangeAt Go.RowKit Go.Sort
set_option linter.unusedVariables false
set_option maxRecDepth 100000

theorem flat_pre (l : List OD) (p : Nat) : l.flatMap cOD = (l.take p).flatMap cOD ++ (l.drop p).flatMap cOD := by
  rw [← List.flatMap_append, List.take_append_drop]
theorem ood_pre {w : World} {ad : Addr} {n c : Nat} {l : List OD} (h : RODS w (.slice (some ad) n c) l) {p : Nat} (hp : p ≤ l.length) : RODS w (.slice (some ad) p c) (l.take p) := by
  obtain ⟨hl, A', c', hv, h2, h3, h4⟩ := h
  injection hv with e1 e2 e3
  subst e1 e2 e3
  have hlen : (l.take p).length = p := by simp; omega
  refine ⟨flat_len cOD 5 cOD_len _, some ad, c, by rw [hlen], by rw [hlen]; omega, h3, fun h0 => ?_⟩
  rw [hlen] at h0
  obtain ⟨ad', he, hlt, hc⟩ := h4 (by omega)
  refine ⟨ad', he, hlt, fun j u hu => hc j u ?_⟩
  have hj : j < ((l.take p).flatMap cOD).length := by
    rcases Nat.lt_or_ge j ((l.take p).flatMap cOD).length with h | h
    · exact h
    · rw [List.getElem?_eq_none h] at hu; cases hu
  rw [flat_pre l p, List.getElem?_append_left hj]; exact hu
theorem ood_suf {w : World} {ad : Addr} {n c : Nat} {l : List OD} (h : RODS w (.slice (some ad) n c) l) {p : Nat} (hp : p ≤ l.length) : RODS w (.slice (if c = p then some ad else some (ad.add (p * 5))) (l.length - p) (c - p)) (l.drop p) := by
  obtain ⟨hl, A', c', hv, h2, h3, h4⟩ := h
  injection hv with e1 e2 e3
  subst e1 e2 e3
  have hlen : (l.drop p).length = l.length - p := by simp
  by_cases hpn : p = l.length
  · refine ⟨flat_len cOD 5 cOD_len _, _, c - p, by rw [hlen], by rw [hlen]; omega, by omega, fun h0 => by rw [hlen] at h0; omega⟩
  · rw [if_neg (by omega)]
    obtain ⟨ad', he, hlt, hc⟩ := h4 (by omega)
    injection he with he
    subst he
    refine ⟨flat_len cOD 5 cOD_len _, some (ad.add (p * 5)), c - p, by rw [hlen], by rw [hlen]; omega, by omega, fun _ => ⟨_, rfl, by rw [block_of_add]; exact hlt, fun j u hu => ?_⟩⟩
    rw [add_of_add]
    refine hc (p * 5 + j) u ?_
    have ht : ((l.take p).flatMap cOD).length = p * 5 := by rw [flat_len cOD 5 cOD_len]; simp; omega
    rw [flat_pre l p, List.getElem?_append_right (by rw [ht]; omega), ht, Nat.add_sub_cancel_left]; exact hu
def mCancelOrder (l : List OD) (id : Int) : List OD × Int :=
  bif vOrders l then (bif known l id then (bif decide (0 < (gd l (lb l id)).sent) then ([], 6) else (l.take (lb l id) ++ l.drop (lb l id + 1), 0)) else ([], 3)) else ([], 1)
theorem sm_cut {l : List OD} (k : Nat) (hs : SmODS l) : SmODS (l.take k ++ l.drop (k + 1)) := by
  unfold SmODS totOD at *
  have h1 : (l.map fun o => o.cu.size).sum = ((l.take k).map fun o => o.cu.size).sum + ((l.drop k).map fun o => o.cu.size).sum := by rw [← List.sum_append, ← List.map_append, List.take_append_drop]
  have h2 : (l.drop k).length = (l.drop (k + 1)).length + (l.length - k - (l.length - (k + 1))) := by simp; omega
  have h3 : ((l.drop (k + 1)).map fun o => o.cu.size).sum ≤ ((l.drop k).map fun o => o.cu.size).sum := by
    by_cases hk : k < l.length
    · rw [show l.drop k = l[k] :: l.drop (k + 1) from List.drop_eq_getElem_cons hk, List.map_cons, List.sum_cons]; exact Nat.le_add_left _ _
    · rw [List.drop_of_length_le (by omega), List.drop_of_length_le (by omega)]; exact Nat.le_refl _
  rw [List.length_append, List.map_append, List.sum_append]
  have h4 : (l.take k).length + (l.drop (k + 1)).length ≤ l.length := by simp; omega
  omega

set_option maxHeartbeats 1600000 in
theorem spec_CancelOrder (v : Value) (l : List OD) (id : Int) (w : World) (ha : RODS w v l) (hsm : SmODS l) :
    Calls Tryz.prog 13 #[v, .int .i64 id] w (RetO (mCancelOrder l id).1 (mCancelOrder l id).2 w) := by
  obtain ⟨A, c, rfl, hc1, hc2⟩ := ha.open_
  have HA := Lib.hid ha; clear ha
  have HV0 := Lib.hid (spec_okO _ l hsm w HA.out)
  have HS := Lib.hid hsm
  clear hsm
  unfold maxLen at hc2
  go_enter Tryz.func13, Tryz.ntmps13
  go_wp2_with fail
  refine (show Calls _ _ _ _ _ from HV0.out).mono ?_
  rintro e w1 ⟨rfl, hb⟩
  have HW1 := Lib.hid hb; clear hb HV0
  cases hv : vOrders l with
  | false =>
    have HM : Hid (mCancelOrder l id = ([], 1)) := Lib.hid (by unfold mCancelOrder; rw [hv]; rfl)
    clear hv
    go_wp2_with fail
    go_ret2
    rw [HM.out]
    exact ⟨_, rfl, ood_nil _ _, by simp [SmODS, totOD], HW1.out⟩
  | true =>
    have HV := Lib.hid hv
    have hlen := v_len hv
    clear hv
    have HPL := Lib.hid (spec_find _ l id HV.out _ (HA.out.ext HW1.out))
    go_wp2_with fail
    refine (show Calls _ _ _ _ _ from HPL.out).mono ?_
    rintro e w2 ⟨rfl, rfl⟩
    clear HPL
    cases hk : known l id with
    | false =>
      have HM : Hid (mCancelOrder l id = ([], 3)) := Lib.hid (by unfold mCancelOrder; rw [HV.out, hk]; rfl)
      rw [show fnd l id = -1 from by unfold fnd; rw [hk]; rfl]
      clear hk
      go_wp2_with fail
      go_ret2
      rw [HM.out]
      exact ⟨_, rfl, ood_nil _ _, by simp [SmODS, totOD], HW1.out⟩
    | true =>
      have hkl : lb l id < l.length := by
        unfold known at hk
        simp only [Bool.and_eq_true, decide_eq_true_eq] at hk
        exact hk.1
      rw [show fnd l id = lb l id from by unfold fnd; rw [hk]; rfl]
      have HK := Lib.hid hk; clear hk
      obtain ⟨k, hkk⟩ : ∃ k, lb l id = k := ⟨_, rfl⟩
      rw [hkk] at hkl
      rw [hkk]
      have HLB := Lib.hid hkk; clear hkk
      have HA2 := Lib.hid (HA.out.ext HW1.out)
      obtain ⟨ad, rfl, _, hc⟩ := HA2.out.at hkl
      obtain ⟨_, _, _, _, h4⟩ := hc k hkl
      clear hc
      have e0 : decide ((k:Int) < 0) = false := decide_eq_false (by omega)
      have e1 : (0:Int) ≤ k := by omega
      have e2 : (k:Int) < l.length := by omega
      by_cases hq : 0 < (gd l k).sent
      · have HM : Hid (mCancelOrder l id = ([], 6)) := Lib.hid (by unfold mCancelOrder; rw [HV.out, HK.out, HLB.out, decide_eq_true hq]; rfl)
        have e3 : decide (0 < (gd l k).sent) = true := decide_eq_true hq
        clear hq
        go_wp2_with fail
        go_ret2
        rw [HM.out]
        exact ⟨_, rfl, ood_nil _ _, by simp [SmODS, totOD], HW1.out⟩
      · have HM : Hid (mCancelOrder l id = (l.take k ++ l.drop (k + 1), 0)) := Lib.hid (by unfold mCancelOrder; rw [HV.out, HK.out, HLB.out, decide_eq_false hq]; rfl)
        have e3 : decide (0 < (gd l k).sent) = false := decide_eq_false hq
        have hz2 := HW1.out.size
        obtain ⟨ys, hys⟩ : ∃ ys, l.take k = ys := ⟨_, rfl⟩
        obtain ⟨zs, hzs⟩ : ∃ zs, l.drop (k + 1) = zs := ⟨_, rfl⟩
        have HP1 : Hid (∀ w, RODS w (.slice (some ad) l.length c) l → RODS w (.slice (some ad) k c) ys) := Lib.hid fun w h => by rw [← hys]; exact ood_pre h (by omega)
        have HP2 : Hid (∀ w, RODS w (.slice (some ad) l.length c) l → RODS w (.slice (if c = k + 1 then some ad else some (ad.add ((k + 1) * 5))) (l.length - (k + 1)) (c - (k + 1))) zs) := Lib.hid fun w h => by rw [← hzs]; exact ood_suf h (by omega)
        have hyl : ys.length ≤ 30 := by rw [← hys]; simp; omega
        have hzl : zs.length ≤ 30 := by rw [← hzs]; simp; omega
        rw [hys, hzs] at HM
        have HSM : Hid (SmODS (ys ++ zs)) := Lib.hid (by rw [← hys, ← hzs]; exact sm_cut k HS.out)
        clear hq hys hzs
        go_wp2_with (at_builtin; first
          | (refine wpList_append_od rfl _ _ rfl w.heap.size (.slice (some ⟨w1.heap.size, 0, none⟩) 0 0) _ [] ys rfl rfl (ood_lit w1 _ hz2) (HP1.out _ (HA2.out.alloc _)) (by simp) (by omega) (by simp; omega) ?_; intro A4 c4 w4 hO4 hg4; simp only [List.length_nil, Nat.zero_add, List.nil_append] at hO4 ⊢; (have HW4 := Lib.hid (Chg.ext (ext_trans HW1.out (ext_alloc1 _ _)) hg4 (fun k hk => by simp [BODS, BI, Value.ownBlock] at hk; omega))); (have HX4 := Lib.hid (HA.out.ext HW4.out)); (have hz4 := HW4.out.size); (have HO4 := Lib.hid hO4); clear hg4 hO4)
          | (refine wpList_append_od rfl _ _ rfl w.heap.size (.slice A4 ys.length c4) _ ys zs rfl rfl HO4.out (HP2.out _ HX4.out) (by omega) (by omega) hz4 ?_; intro A5 c5 w5 hO5 hg5; (have HW5 := Lib.hid (Chg.ext HW4.out hg5 fun j hj => (HO4.out.ge j hj).1)); (have HO5 := Lib.hid hO5); clear hg5 hO5))
        all_goals
          go_ret2
          rw [HM.out]
          exact ⟨_, rfl, HO5.out, HSM.out, HW5.out⟩

theorem ORow.setCells {base g n cap : Nat} {e : TypeId} {size : Nat} : ∀ (news : List Value) (o : Nat) (w : World) (F : Nat → Value), ORow w base e size (.slice (some ⟨g, 0, none⟩) n cap) n F →
    ORow (w.setCells g o news) base e size (.slice (some ⟨g, 0, none⟩) n cap) n (fun j => if o ≤ j ∧ j < o + news.length then news.getD (j - o) undef else F j) := by
  intro news
  induction news with
  | nil => intro o w F h; exact h.congr fun j _ => by rw [if_neg (by simp)]
  | cons v r ih =>
    intro o w F h
    refine (ih (o + 1) _ _ (h.set o v)).congr fun j _ => ?_
    rw [List.length_cons]
    by_cases h1 : j = o
    · subst h1
      rw [if_neg (by omega), if_pos rfl, if_pos (by omega), Nat.sub_self]; rfl
    · by_cases h2 : o + 1 ≤ j ∧ j < o + 1 + r.length
      · rw [if_pos h2, if_pos (by omega), show j - o = (j - (o + 1)) + 1 from by omega]; rfl
      · rw [if_neg h2, if_neg h1, if_neg (by omega)]
theorem Chg.setCells {S : Nat → Prop} {g : Nat} (hg : S g) : ∀ (news : List Value) (o : Nat) (w : World), Chg S w (w.setCells g o news) := by
  intro news
  induction news with
  | nil => intro o w; exact Chg.of_below (ext_refl _) _
  | cons v r ih => intro o w; exact (Chg.setCell w (p := ⟨g, o, none⟩) hg v).trans (ih _ _)
theorem ORow.pre {w : World} {base g n m cap : Nat} {e : TypeId} {size : Nat} {F : Nat → Value} (h : ORow w base e size (.slice (some ⟨g, 0, none⟩) n cap) n F) (hm : m ≤ n) : ORow w base e size (.slice (some ⟨g, 0, none⟩) m cap) m F := by
  have hmn : m * size ≤ n * size := Nat.mul_le_mul_right _ hm
  refine ⟨by simp, .inr ?_⟩
  rcases h.2 with ⟨h1, _⟩ | ⟨g', cap', cur, hv, hg, hh, hn, hc, hs, ht⟩
  · cases h1
  · injection hv with q1 q2 q3
    injection q1 with q1
    injection q1 with q1
    subst q1 q3
    refine ⟨g, cap, cur, rfl, hg, hh, by omega, hc, hs, ?_⟩
    have h2 := congrArg (List.take (m * size)) ht
    rw [List.take_take, Nat.min_eq_left hmn, ← List.map_take, List.take_range, Nat.min_eq_left hmn] at h2
    exact h2
theorem run_clear_od (w : World) (ty : TypeId) (b o c : Nat) (hc : ∀ j, j < 5 → (w.cell? ⟨b, o + j, none⟩).isSome = true) (hf : ∀ j, j < 5 → w.frozen? ⟨b, o + j, none⟩ = false) :
    (Builtin.clear_ #[24] ty #[.slice (some ⟨b, o, none⟩) 1 c]).run Tryz.prog w = .ok (.tuple #[]) (w.setCells b o [.int .i64 0, .string ⟨#[]⟩, .int .i64 0, .int .i64 0, .int .i64 0]) := by
  have hst := run_storeCells_cells (P := Tryz.prog) b o [.int .i64 0, .string ⟨#[]⟩, .int .i64 0, .int .i64 0, .int .i64 0] 0 w (by simpa using hc) (by simpa using hf) (by intro v hv; simp at hv; rcases hv with rfl | rfl | rfl | rfl | rfl <;> rfl)
  simp only [Nat.add_zero] at hst
  have hzc : (Builtin.zeroCells #[Value.int .i64 0, .string ⟨#[]⟩, .int .i64 0, .int .i64 0, .int .i64 0] 1).toList = [.int .i64 0, .string ⟨#[]⟩, .int .i64 0, .int .i64 0, .int .i64 0] := by
    simp [Builtin.zeroCells, List.range_succ]
  simp [Builtin.clear_, run_underlying Tryz.underlying24, Value.cells, hzc, hst]

set_option maxHeartbeats 1600000 in
theorem od_delete (g m c k base : Nat) (l : List OD) (hm : l.length = m + 1) (hm2 : m < 1048576) (hk : k ≤ m) (w : World) (hO : OODS w base (.slice (some ⟨g, 0, none⟩) (m + 1) c) l) :
    Calls Tryz.prog 49 #[.slice (some ⟨g, 0, none⟩) (m + 1) c, .int .i64 k, .int .i64 ((k : Int) + 1)] w fun e w' => e = .returned (.slice (some ⟨g, 0, none⟩) m c) ∧ OODS w' base (.slice (some ⟨g, 0, none⟩) m c) (l.take k ++ l.drop (k + 1)) ∧ Chg (fun b => b = g) w w' := by
  obtain ⟨i0, hi, hz0, hz1, hz2⟩ := info_parts info_OD
  clear hz0 hz2
  have hcap : m + 1 ≤ c ∧ c ≤ maxLen := by
    obtain ⟨A', c', hv, h1, h2⟩ := hO.rd.open_
    injection hv with q1 q2 q3
    omega
  unfold maxLen at hcap
  have hrow := hO.row
  rw [hm] at hrow
  have HR := Lib.hid hrow; clear hrow
  have HN := Lib.hid hm; clear hm hO
  obtain ⟨AD, hAD, hADc⟩ : ∃ AD : Addr, (if c = k + 1 then (some ⟨g, 0, none⟩ : Option Addr) else some ⟨g, (k + 1) * 5, none⟩) = some AD ∧ ∀ j, j < (m - k) * 5 → AD.add j = ⟨g, (k + 1) * 5 + j, none⟩ := by
    by_cases h : c = k + 1
    · exact ⟨_, if_pos h, fun j hj => by omega⟩
    · exact ⟨_, if_neg h, fun j hj => by unfold Addr.add; split <;> simp_all⟩
  have s1 : Hid (((l.drop (k + 1)).flatMap cOD).length = (m - k) * 5) := Lib.hid (by rw [flat_len cOD 5 cOD_len, List.length_drop, HN.out, Nat.add_sub_add_right])
  have hnews : Hid (∀ j u, ((l.drop (k + 1)).flatMap cOD)[j]? = some u → w.cell? (AD.add j) = some u) := Lib.hid fun j u hu => by
    have hj : j < (m - k) * 5 := by
      rcases Nat.lt_or_ge j ((m - k) * 5) with h | h
      · exact h
      · rw [List.getElem?_eq_none (by rw [s1.out]; exact h)] at hu; cases hu
    rw [hADc j hj, HR.out.cell (by omega), ← hu]
    have e : (k + 1) * 5 + j = (k + 1 + j / 5) * 5 + j % 5 := by omega
    have e2 : j = j / 5 * 5 + j % 5 := by omega
    rw [e, cf_at cOD 5 (by omega), e2, flat_get cOD 5 cOD_len _ (by rw [List.length_drop, HN.out]; omega) (by omega)]
    have e3 : gd (l.drop (k + 1)) (j / 5) = gd l (k + 1 + j / 5) := by unfold gd; rw [List.getD_eq_getElem?_getD, List.getD_eq_getElem?_getD, List.getElem?_drop]
    have e4 : (j / 5 * 5 + j % 5) % 5 = j % 5 := by omega
    have e5 : (j / 5 * 5 + j % 5) / 5 = j / 5 := by omega
    rw [e4, e5, e3, List.getD_eq_getElem?_getD, List.getElem?_eq_getElem (show j % 5 < (cOD (gd l (k + 1 + j / 5))).length by rw [cOD_len]; omega)]
    rfl
  have s2 : Hid (∀ u ∈ (l.drop (k + 1)).flatMap cOD, u.oneCell' = true) := Lib.hid fun u hu => by
    obtain ⟨o, _, ho⟩ := List.mem_flatMap.1 hu
    simp only [cOD, List.mem_cons, List.not_mem_nil, or_false] at ho
    rcases ho with rfl | rfl | rfl | rfl | rfl <;> rfl
  have s3 : Hid (∀ j, j < ((l.drop (k + 1)).flatMap cOD).length → (w.cell? ⟨g, 0 + k * 5 + j, none⟩).isSome = true ∧ w.frozen? ⟨g, 0 + k * 5 + j, none⟩ = false) := Lib.hid fun j hj => by
    rw [s1.out] at hj
    rw [HR.out.cell (j := 0 + k * 5 + j) (by omega)]
    exact ⟨rfl, HR.out.frozen _⟩
  have HR1 := Lib.hid ((HR.out.ext (ext_drew (ext_refl w))).setCells ((l.drop (k + 1)).flatMap cOD) (k * 5))
  have HC1 : Hid (Chg (fun b => b = g) w (w.drew.setCells g (k * 5) ((l.drop (k + 1)).flatMap cOD))) := Lib.hid ((Chg.of_below (ext_drew (ext_refl w)) _).trans (Chg.setCells (S := fun b => b = g) rfl _ _ _))
  have hkm : k + (m - k) = m := by omega
  have e1 : (0:Int) ≤ k := by omega
  have e2 : (k:Int) ≤ m := by omega
  have hp1 : (k : Int) + 1 ≤ (m : Int) + 1 := by omega
  have hp2 : ((k : Int) + 1).toNat = k + 1 := by omega
  have hp3 : (k : Int) ≤ c := by omega
  have hp5 : (0 : Int) ≤ (k : Int) + 1 := by omega
  have hp4 : (m : Int) + 1 ≤ c := by omega
  clear hADc
  go_enter Tryz.func49, Tryz.ntmps49
  go_wp2_with fail
  go_region_law (refine step_append_room rfl (.tmp 22) (.tmp 25) 24 rfl 26 i0 5 Tryz.underlying24 hi hz1 g 0 k c (by simp [Act.eval, Act.put]) AD (m - k) (c - (k + 1)) ((l.drop (k + 1)).flatMap cOD) (by simp [Act.eval, Act.put]) s1.out hnews.out s2.out (by omega) s3.out ?_)
  generalize w.drew.setCells g (k * 5) ((l.drop (k + 1)).flatMap cOD) = w2 at *
  have hcl : ∀ ty, (Builtin.clear_ #[24] ty #[.slice (some ⟨g, m * 5, none⟩) 1 (c - m)]).run Tryz.prog w2 = .ok (.tuple #[]) (w2.setCells g (m * 5) [.int .i64 0, .string ⟨#[]⟩, .int .i64 0, .int .i64 0, .int .i64 0]) := fun ty =>
    run_clear_od w2 ty g (m * 5) (c - m) (fun j hj => by rw [HR1.out.cell (by omega)]; rfl) (fun j hj => HR1.out.frozen _)
  have hcm : ¬ c = m := by omega
  have hp6 : (m : Int) ≤ (m : Int) + 1 := by omega
  clear hAD hp1 hp2 hp3 hp5 e1 e2 hkm
  go_wp2_with fail
  go_ret
  have HR2 := (HR1.out.setCells [.int .i64 0, .string ⟨#[]⟩, .int .i64 0, .int .i64 0, .int .i64 0] (m * 5)).pre (show m ≤ m + 1 by omega)
  have hll : (l.take k ++ l.drop (k + 1)).length = m := by rw [List.length_append, List.length_take, List.length_drop, HN.out]; omega
  refine ⟨rfl, ?_, HC1.out.trans (Chg.setCells (S := fun b => b = g) rfl _ _ _)⟩
  unfold OODS
  refine ORow.flat (l := l.take k ++ l.drop (k + 1)) cOD_len (by omega) (by rw [hll]; exact HR2) (fun j hj => ?_)
  rw [hll] at hj
  rw [if_neg (by omega), s1.out]
  have hgd : ∀ q, q < m → gd (l.take k ++ l.drop (k + 1)) q = if q < k then gd l q else gd l (q + 1) := fun q hq => by
    by_cases hqk : q < k
    · rw [if_pos hqk, gd_append_left (by rw [List.length_take, HN.out]; omega), gd_take hqk]
    · rw [if_neg hqk]
      unfold gd
      rw [List.getD_eq_getElem?_getD, List.getD_eq_getElem?_getD, List.getElem?_append_right (by rw [List.length_take]; omega), List.getElem?_drop, List.length_take, HN.out]
      rw [show k + 1 + (q - min k (m + 1)) = q + 1 from by omega]
  have e : j = j / 5 * 5 + j % 5 := by omega
  by_cases hjk : j < k * 5
  · rw [if_neg (by omega), e, cf_at cOD 5 (by omega), cf_at cOD 5 (by omega), hgd (j / 5) (by omega), if_pos (by omega)]
  · rw [if_pos (by omega)]
    have h9 : cf cOD 5 (l.take k ++ l.drop (k + 1)) j = (cOD (gd l (j / 5 + 1))).getD (j % 5) undef := by
      rw [e, cf_at cOD 5 (by omega), hgd (j / 5) (by omega), if_neg (by omega)]
      rw [show (j / 5 * 5 + j % 5) / 5 = j / 5 from by omega, show (j / 5 * 5 + j % 5) % 5 = j % 5 from by omega]
    rw [h9, List.getD_eq_getElem?_getD, show j - k * 5 = (j / 5 - k) * 5 + j % 5 from by omega, flat_get cOD 5 cOD_len _ (by rw [List.length_drop, HN.out]; omega) (by omega)]
    have e3 : gd (l.drop (k + 1)) (j / 5 - k) = gd l (j / 5 + 1) := by
      unfold gd
      rw [List.getD_eq_getElem?_getD, List.getD_eq_getElem?_getD, List.getElem?_drop, show k + 1 + (j / 5 - k) = j / 5 + 1 from by omega]
    rw [e3, List.getD_eq_getElem?_getD]

end Go.Proofs.YtbggggaoljpfnaaGreatDoor
