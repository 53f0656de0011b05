/-
  Orders, seventh part: the reference's order by days (l25Due).
-/
import Derived.Test.YthcckonkhbmcmaaOrdDue
import Derived.Test.YthcckonkhbmcmaaOrders6
namespace Go.Proofs.Ythcckonkhbmcmaa
open Go.ChangeShapes Go.WideShapes Go.ChangeAt Go.RowKit Go.Sort
set_option linter.unusedVariables false

theorem RI.pre {w : World} {ad : Addr} {n c : Nat} {xs : List Int} (h : RI w (.slice (some ad) n c) xs) {p : Nat} (hp : p ≤ xs.length) : RI w (.slice (some ad) p c) (xs.take p) := by
  obtain ⟨hl, A', c', hv, h2, h3, h4⟩ := h
  injection hv with e1 e2 e3
  subst e1 e2 e3
  have hlen : (xs.take p).length = p := by simp; omega
  refine ⟨by simp, some ad, c, by rw [hlen], by rw [hlen]; omega, h3, fun h0 => ?_⟩
  rw [hlen] at h0
  obtain ⟨ad', he, hlt, hc⟩ := h4 (by omega)
  refine ⟨ad', he, hlt, fun j u hu => hc j u ?_⟩
  rw [List.map_take, List.getElem?_take] at hu
  split at hu
  · exact hu
  · cases hu
theorem RI.suf {w : World} {ad : Addr} {n c : Nat} {xs : List Int} (h : RI w (.slice (some ad) n c) xs) {p : Nat} (hp : p ≤ xs.length) : RI w (.slice (if c = p then some ad else some (ad.add p)) (xs.length - p) (c - p)) (xs.drop p) := by
  obtain ⟨hl, A', c', hv, h2, h3, h4⟩ := h
  injection hv with e1 e2 e3
  subst e1 e2 e3
  have hlen : (xs.drop p).length = xs.length - p := by simp
  by_cases hpn : p = xs.length
  · refine ⟨by simp, _, c - p, by rw [hlen], by rw [hlen]; omega, by omega, fun h0 => by rw [hlen] at h0; omega⟩
  · rw [if_neg (by omega)]
    obtain ⟨ad', he, hlt, hc⟩ := h4 (by omega)
    injection he with he
    subst he
    refine ⟨by simp, some (ad.add p), c - p, by rw [hlen], by rw [hlen]; omega, by omega, fun _ => ⟨_, rfl, by rw [block_of_add]; exact hlt, fun j u hu => ?_⟩⟩
    rw [add_of_add]
    refine hc (p + j) u ?_
    rw [List.map_drop, List.getElem?_drop] at hu
    exact hu
/-- An owned row that is not empty has a block. -/
theorem OI.some {w : World} {base : Nat} {A : Option Addr} {n c : Nat} {xs : List Int} (h : OI w base (.slice A n c) xs) (h0 : 0 < xs.length) : ∃ g, A = some ⟨g, 0, none⟩ ∧ base ≤ g ∧ g < w.heap.size ∧ n = xs.length := by
  have hlt := h.ge
  rcases h.2 with ⟨_, h1⟩ | ⟨g, cap, cur, hv, hg, _⟩
  · omega
  · injection hv with e1 e2 e3
    subst e1
    exact ⟨g, rfl, hg, (hlt g rfl).2, e2⟩

set_option maxHeartbeats 3200000 in
theorem spec_due (v : Value) (l : List OD) (hv : vOrders l = true) (w : World) (ha : RODS w v l) :
    Calls Try.prog 29 #[v] w fun e w' => ∃ v', e = .returned v' ∧ OI w' w.heap.size v' (dueTo l l.length) ∧ Below w.heap.size w w' := by
  obtain ⟨A, c, rfl, hc1, hc2⟩ := ha.open_
  have HA := Lib.hid ha; clear ha
  have HV := Lib.hid hv
  have hlen := v_len hv
  clear hv
  unfold maxLen at hc2
  go_enter Try.func29, Try.ntmps29
  go_wp2_with fail
  go_loopw [3, 4] (fun o i wr => ∃ (k : Nat) (xs : List Int) (g c : Nat), k ≤ l.length ∧ i = .int .i64 k ∧ Hid (xs = dueTo l k) ∧ xs.length ≤ k ∧ o = .slice (some ⟨g, 0, none⟩) xs.length c ∧ w.heap.size ≤ g ∧ Hid (OI wr w.heap.size (.slice (some ⟨g, 0, none⟩) xs.length c) xs) ∧ Below w.heap.size w wr) (fun _ i _ => l.length - (intOf i).toNat)
  case atStart => exact ⟨0, [], w.heap.size, 0, Nat.zero_le _, rfl, Lib.hid rfl, Nat.le_refl _, rfl, Nat.le_refl _, oi_lit w _ (Nat.le_refl _), ext_alloc1 _ _⟩
  case round =>
    obtain ⟨k, xs, g, c1, hk, rfl, HX, hxk, rfl, hg, HO, hbw⟩ := hrel
    have HAw := Lib.hid (HA.out.ext hbw)
    have hsz := hbw.size
    have HW := Lib.hid hbw; clear hbw
    by_cases hlt : k < l.length
    · obtain ⟨ad, rfl, _, hc⟩ := HAw.out.at hlt
      have HC := Lib.hid (spec_open _ _ _ (hc k hlt) (v_one HV.out hlt))
      clear hc
      have HOP : Hid ((gd l k).br - (gd l k).sent = opn (gd l k)) := Lib.hid rfl
      rw [HOP.out] at HC
      have e1 : (0:Int) ≤ k := by omega
      have e2 : (k:Int) < l.length := by omega
      go_wp2_with fail
      refine (show Calls _ _ _ _ _ from HC.out).mono ?_
      rintro e w3 ⟨rfl, hb⟩
      have HO3 := Lib.hid (HO.out.ext hb)
      have HW3 := Lib.hid (ext_trans HW.out hb)
      have HA3 := Lib.hid (HAw.out.ext hb)
      clear hb HC HOP HO HW HAw
      by_cases h0 : opn (gd l k) = 0
      · have HY : Hid (dueTo l (k + 1) = dueTo l k) := Lib.hid (by rw [dueTo, if_pos h0])
        go_wp2_with fail
        go_roundw
        case rel => exact ⟨k + 1, xs, g, c1, by omega, by go_num, Lib.hid (by rw [HY.out, HX.out]), by omega, rfl, hg, HO3.out, HW3.out⟩
        case measure => simp [intOf]; omega
      · have HY : Hid (dueTo l (k + 1) = ins l xs k) := Lib.hid (by rw [dueTo, if_neg h0, HX.out])
        have hcap : xs.length ≤ c1 ∧ c1 ≤ maxLen := by
          obtain ⟨_, A', c', hv', h5, h6, _⟩ := HO3.out.rd
          injection hv' with q1 q2 q3
          omega
        unfold maxLen at hcap
        go_wp2_with fail
        go_loopw [5] (fun j wr => ∃ p : Nat, p ≤ xs.length ∧ j = .int .i64 p ∧ Hid (ipos l xs (gd l k).due xs.length = ipos l xs (gd l k).due p) ∧ Below w3.heap.size w3 wr) (fun j _ => (intOf j).toNat)
        case atStart => exact ⟨xs.length, Nat.le_refl _, rfl, Lib.hid rfl, ext_refl _⟩
        case round =>
          obtain ⟨p, hp, rfl, HP, hbp⟩ := hrel
          have HO4 := Lib.hid (HO3.out.ext hbp)
          have HW4 := Lib.hid (ext_trans HW3.out hbp)
          have HB4 := Lib.hid hbp
          have HA4 := Lib.hid (HA3.out.ext hbp)
          clear hbp
          have hcx : ∀ q, q < xs.length → wr.cell? ⟨g, q, none⟩ = some (.int .i64 (gi xs q)) := fun q hq => by
            obtain ⟨ad', he, _, hc⟩ := HO4.out.rd.at2 hq
            injection he with he
            subst he
            have := hc q hq
            rwa [show (⟨g, 0, none⟩ : Addr).add q = ⟨g, q, none⟩ from by unfold Addr.add; split <;> simp_all] at this
          by_cases hp0 : p = 0
          · have e3 : decide (0 < p) = false := decide_eq_false (by omega)
            have HPOS : Hid (ipos l xs (gd l k).due xs.length = p) := Lib.hid (by rw [HP.out, hp0]; rfl)
            clear hp0 hcx
            go_wp2_with fail
            go_quiet (fail)
            rename Nat => n1
            obtain ⟨ys, hys⟩ : ∃ ys, xs.take p = ys := ⟨_, rfl⟩
            obtain ⟨zs, hzs⟩ : ∃ zs, xs.drop p = zs := ⟨_, rfl⟩
            have HYL : Hid (ys.length = p) := Lib.hid (by rw [← hys]; simp; omega)
            have HZL : Hid (zs.length = xs.length - p) := Lib.hid (by rw [← hzs]; simp)
            have hy1 : ys.length ≤ 30 := by have := HYL.out; omega
            have hz1 : zs.length ≤ 30 := by have := HZL.out; omega
            have HYS := Lib.hid hys; clear hys
            have HZS := Lib.hid hzs; clear hzs
            go_wp2_with fail
            refine (spec_own _ ys _ (by rw [← HYS.out]; exact (HO4.out.rd.pre hp).ext (ext_drewN (ext_refl _) _)) (by unfold SmI; omega)).mono ?_
            rintro e w5 ⟨A2, c2, rfl, hO5, hb5⟩
            have HO5 := Lib.hid (hO5.mono (show w.heap.size ≤ (wr.drewN n1).heap.size from HW4.out.size))
            have HW5 := Lib.hid (ext_trans (ext_drewN HW4.out n1) hb5)
            have HX5 := Lib.hid (HO4.out.ext (ext_trans (ext_drewN (ext_refl wr) n1) hb5))
            have hsz5 := HW5.out.size
            have hOO := hO5
            clear hO5 hb5
            have HFR : Hid (∀ b, BI (.slice A2 ys.length c2) b → (wr.drewN n1).heap.size ≤ b) := Lib.hid fun b hb => (hOO.ge b hb).1
            clear hOO
            have HSUF : Hid (∀ w, RI w (.slice (some ⟨g, 0, none⟩) xs.length c1) xs → RI w (.slice (if c1 = p then some ⟨g, 0, none⟩ else some ⟨g, p, none⟩) (xs.length - p) (c1 - p)) zs) := Lib.hid (fun w hr => by
              have h := hr.suf hp
              rw [HZS.out, show (⟨g, 0, none⟩ : Addr).add p = ⟨g, p, none⟩ from by unfold Addr.add; split <;> simp_all] at h
              exact h)
            have HIN : Hid (ins l xs k = (ys ++ [(k : Int)]) ++ zs) := Lib.hid (by unfold ins; rw [HPOS.out, HYS.out, HZS.out])
            go_wp2_with (at_builtin; first
              | (refine wpList_append_i rfl _ _ rfl w.heap.size (.slice A2 ys.length c2) ys (k:Int) rfl rfl HO5.out (by omega) hsz5 ?_; intro g2 c4 w6 hO6 hg6 hlt6; (have HW6 := Lib.hid (Chg.ext HW5.out hg6 fun j hj => (HO5.out.ge j hj).1)); (have hsz6 := HW6.out.size); (have HX6 := Lib.hid ((HX5.out.chg hg6 fun b hb hs => Nat.not_lt_of_le (HFR.out b hs) (HO4.out.ge b hb).2).rd)); (have HO6 := Lib.hid hO6); clear hO6 hg6 hlt6)
              | (refine wpList_append_ri rfl _ _ rfl w.heap.size (.slice (some ⟨g2, 0, none⟩) (ys.length + 1) c4) _ (ys ++ [(k : Int)]) zs rfl rfl HO6.out (HSUF.out _ HX6.out) (by rw [List.length_append]; simp; omega) (by omega) hsz6 ?_; intro A7 c7 w7 hO7 hg7; (obtain ⟨g7, rfl, hg8, hg9, _⟩ := hO7.some (by simp; omega)); (have HW7 := Lib.hid (Chg.ext HW6.out hg7 fun j hj => (HO6.out.ge j hj).1)); (have HO7 := Lib.hid hO7); clear hO7 hg7))
            all_goals
              go_roundw
              case rel => exact ⟨k + 1, (ys ++ [(k : Int)]) ++ zs, g7, c7, by omega, by go_num, Lib.hid (by rw [HY.out, HIN.out]), by have := HYL.out; have := HZL.out; simp; omega, by rw [List.length_append, List.length_append]; rfl, hg8, by rw [List.length_append]; exact HO7.out, HW7.out⟩
              case measure => simp [intOf]; omega
          · obtain ⟨q, hpq⟩ : ∃ q, p = q + 1 := ⟨p - 1, by omega⟩
            have hq := hcx q (by omega)
            obtain ⟨j, hj1, hj2, _⟩ := due_at (l := l) (m := k) (k := q) (by rw [← HX.out]; omega)
            rw [← HX.out] at hj1
            rw [hj1] at hq
            have hdj : dI l (gi xs q) = (gd l j).due := by unfold dI; rw [hj1, Int.toNat_natCast]
            obtain ⟨ad', hae, _, hcl⟩ := HA4.out.at (show j < l.length by omega)
            injection hae with hae
            subst hae
            obtain ⟨_, _, _, hdj3, _⟩ := hcl j (by omega)
            obtain ⟨_, _, _, hdk3, _⟩ := hcl k hlt
            have e3 : decide (0 < p) = true := decide_eq_true (by omega)
            have e4 : (p:Int) - 1 = q := by omega
            have e5 : (q:Int) < xs.length := by omega
            have e6 : (0:Int) ≤ q := by omega
            have e7 : (j:Int) < l.length := by omega
            have e8 : (0:Int) ≤ j := by omega
            have HPQ := Lib.hid hpq
            clear hpq hj1 hcx hcl hp0
            by_cases hd : (gd l k).due < (gd l j).due
            · have e9 : decide ((gd l k).due < (gd l j).due) = true := decide_eq_true hd
              have HP2 : Hid (ipos l xs (gd l k).due xs.length = ipos l xs (gd l k).due q) := Lib.hid (by rw [HP.out, HPQ.out, ipos, if_pos (by rw [hdj]; exact hd)])
              clear hdj
              go_wp2_with fail
              go_quiet (fail)
              rename Nat => n1
              go_wp2_with fail
              go_roundw
              case rel => exact ⟨q, by omega, rfl, HP2.out, ext_drewN HB4.out _⟩
              case measure => simp [intOf]; have := HPQ.out; omega
            · have e9 : decide ((gd l k).due < (gd l j).due) = false := decide_eq_false hd
              have HPOS : Hid (ipos l xs (gd l k).due xs.length = p) := Lib.hid (by rw [HP.out, HPQ.out, ipos, if_neg (by rw [hdj]; exact hd)])
              clear hdj
              go_wp2_with fail
              go_quiet (fail)
              rename Nat => n1
              clear hq hdj3 hdk3 e3 e4 e5 e6 e7 e8 e9
              obtain ⟨ys, hys⟩ : ∃ ys, xs.take p = ys := ⟨_, rfl⟩
              obtain ⟨zs, hzs⟩ : ∃ zs, xs.drop p = zs := ⟨_, rfl⟩
              have HYL : Hid (ys.length = p) := Lib.hid (by rw [← hys]; simp; omega)
              have HZL : Hid (zs.length = xs.length - p) := Lib.hid (by rw [← hzs]; simp)
              have hy1 : ys.length ≤ 30 := by have := HYL.out; omega
              have hz1 : zs.length ≤ 30 := by have := HZL.out; omega
              have HYS := Lib.hid hys; clear hys
              have HZS := Lib.hid hzs; clear hzs
              go_wp2_with fail
              refine (spec_own _ ys _ (by rw [← HYS.out]; exact (HO4.out.rd.pre hp).ext (ext_drewN (ext_refl _) _)) (by unfold SmI; omega)).mono ?_
              rintro e w5 ⟨A2, c2, rfl, hO5, hb5⟩
              have HO5 := Lib.hid (hO5.mono (show w.heap.size ≤ (wr.drewN n1).heap.size from HW4.out.size))
              have HW5 := Lib.hid (ext_trans (ext_drewN HW4.out n1) hb5)
              have HX5 := Lib.hid (HO4.out.ext (ext_trans (ext_drewN (ext_refl wr) n1) hb5))
              have hsz5 := HW5.out.size
              have hOO := hO5
              clear hO5 hb5
              have HFR : Hid (∀ b, BI (.slice A2 ys.length c2) b → (wr.drewN n1).heap.size ≤ b) := Lib.hid fun b hb => (hOO.ge b hb).1
              clear hOO
              have HSUF : Hid (∀ w, RI w (.slice (some ⟨g, 0, none⟩) xs.length c1) xs → RI w (.slice (if c1 = p then some ⟨g, 0, none⟩ else some ⟨g, p, none⟩) (xs.length - p) (c1 - p)) zs) := Lib.hid (fun w hr => by
                have h := hr.suf hp
                rw [HZS.out, show (⟨g, 0, none⟩ : Addr).add p = ⟨g, p, none⟩ from by unfold Addr.add; split <;> simp_all] at h
                exact h)
              have HIN : Hid (ins l xs k = (ys ++ [(k : Int)]) ++ zs) := Lib.hid (by unfold ins; rw [HPOS.out, HYS.out, HZS.out])
              go_wp2_with (at_builtin; first
                | (refine wpList_append_i rfl _ _ rfl w.heap.size (.slice A2 ys.length c2) ys (k:Int) rfl rfl HO5.out (by omega) hsz5 ?_; intro g2 c4 w6 hO6 hg6 hlt6; (have HW6 := Lib.hid (Chg.ext HW5.out hg6 fun j hj => (HO5.out.ge j hj).1)); (have hsz6 := HW6.out.size); (have HX6 := Lib.hid ((HX5.out.chg hg6 fun b hb hs => Nat.not_lt_of_le (HFR.out b hs) (HO4.out.ge b hb).2).rd)); (have HO6 := Lib.hid hO6); clear hO6 hg6 hlt6)
                | (refine wpList_append_ri rfl _ _ rfl w.heap.size (.slice (some ⟨g2, 0, none⟩) (ys.length + 1) c4) _ (ys ++ [(k : Int)]) zs rfl rfl HO6.out (HSUF.out _ HX6.out) (by rw [List.length_append]; simp; omega) (by omega) hsz6 ?_; intro A7 c7 w7 hO7 hg7; (obtain ⟨g7, rfl, hg8, hg9, _⟩ := hO7.some (by simp; omega)); (have HW7 := Lib.hid (Chg.ext HW6.out hg7 fun j hj => (HO6.out.ge j hj).1)); (have HO7 := Lib.hid hO7); clear hO7 hg7))
              all_goals
                go_roundw
                case rel => exact ⟨k + 1, (ys ++ [(k : Int)]) ++ zs, g7, c7, by omega, by go_num, Lib.hid (by rw [HY.out, HIN.out]), by have := HYL.out; have := HZL.out; simp; omega, by rw [List.length_append, List.length_append]; rfl, hg8, by rw [List.length_append]; exact HO7.out, HW7.out⟩
                case measure => simp [intOf]; omega
    · have hkn : k = l.length := by omega
      subst hkn
      have e2 : ¬ (l.length:Int) < l.length := by omega
      go_wp2_with fail
      go_ret
      exact ⟨_, rfl, by rw [← HX.out]; exact HO.out, HW.out⟩

end Go.Proofs.Ythcckonkhbmcmaa
