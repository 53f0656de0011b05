/-
  The law FnLogSums: its walk.
-/
import Derived.Test.YtiedojkoogfokaaDoorLgsQ
import Derived.Test.YtiedojkoogfokaaDoorLogs
namespace Go.Proofs.YtiedojkoogfokaaDoor
open Go.ChangeShapes Go.WideShapes Go.ChangeAt Go.RowKit Go.Sort
set_option linter.unusedVariables false
set_option maxRecDepth 100000

theorem rb_nil (w : World) : RB w (.slice none 0 0) [] := ⟨rfl, none, 0, rfl, Nat.le_refl _, by unfold maxLen; omega, fun h => absurd h (by decide)⟩
theorem a2_sum (v : Value) (xs : List Int) (w : World) (ha : RI w v xs) (hb : ∀ k, k ≤ xs.length → -1000000000 ≤ (xs.take k).sum ∧ (xs.take k).sum ≤ 1000000000) :
    Calls Tryd.prog 11 #[v] w (RetP (.int .i64 xs.sum) w) := by
  obtain ⟨A, c, rfl, hc1, hc2, HA'⟩ := ha.open2
  unfold maxLen at hc2
  have HA := Lib.hid HA'; clear HA' ha
  have HBD := Lib.hid hb; clear hb
  go_enter Tryd.func11, Tryd.ntmps11
  go_wp2_with fail
  go_loopw [3, 4] (fun s i wr => ∃ k : Nat, k ≤ xs.length ∧ i = .int .i64 k ∧ s = .int .i64 (xs.take k).sum ∧ wr = w) (fun _ i _ => xs.length - (intOf i).toNat)
  case atStart => exact ⟨0, Nat.zero_le _, rfl, rfl, rfl⟩
  case round =>
    obtain ⟨k, hk, rfl, rfl, rfl⟩ := hrel
    by_cases hlt : k < xs.length
    · obtain ⟨ad, rfl, hbd, hc⟩ := HA.out k hlt
      replace hc := hc k hlt
      have e1 : (0:Int) ≤ k := by omega
      have e2 : (k:Int) < xs.length := by omega
      have h1 := HBD.out k hk
      have h2 := HBD.out (k + 1) hlt
      have HS : Hid ((xs.take (k + 1)).sum = (xs.take k).sum + gi xs k) := Lib.hid (by rw [take_succ_getD hlt, List.sum_append, List.sum_cons, List.sum_nil, Int.add_zero]; rfl)
      have HS2 := HS.out
      obtain ⟨s, hs⟩ : ∃ s, (xs.take k).sum = s := ⟨_, rfl⟩
      rw [hs] at h1 HS HS2
      rw [hs]
      obtain ⟨s2, hs2⟩ : ∃ s, (xs.take (k + 1)).sum = s := ⟨_, rfl⟩
      rw [hs2] at h2 HS2
      have e3 : -1000000000 ≤ s + gi xs k ∧ s + gi xs k ≤ 1000000000 := by omega
      clear hs hs2 HS2
      go_wp2_with fail
      go_roundw
      case rel => exact ⟨k + 1, hlt, by go_num, by rw [HS.out], by first | rfl | trivial⟩
      case measure => simp [intOf]; omega
    · obtain rfl : k = xs.length := by omega
      have HT : Hid ((xs.take xs.length).sum = xs.sum) := Lib.hid (by rw [List.take_length])
      rw [HT.out]
      go_wp2_with fail
      go_ret
      exact ⟨rfl, rfl⟩
theorem RetI.open_ {M : List Int} {code : Int} {w : World} {e : Ending} {w' : World} (h : RetI M code w e w') : ∃ A c, e = .returned (.tuple #[.slice A M.length c, .int .i64 code]) ∧ RI w' (.slice A M.length c) M ∧ Below w.heap.size w w' := by
  obtain ⟨v, rfl, hO, _, hb⟩ := h
  obtain ⟨A, c, rfl, _⟩ := hO.rd.open_
  exact ⟨A, c, rfl, hO.rd, hb⟩
theorem sums_takes {es : List EN} (hv : es.all vEn = true) (h7 : es.length ≤ 7) (k : Nat) (hk : k ≤ es.length) : -7000000 ≤ ((es.take k).map (·.val)).sum ∧ ((es.take k).map (·.val)).sum ≤ 7000000 := by
  have h := sum_takes (vs := es.map (·.val)) (fun x hx => by
    obtain ⟨e, he, rfl⟩ := List.mem_map.1 hx
    exact (vEn_iff.1 (List.all_eq_true.1 hv e he)).2.2) k (by rw [List.length_map]; exact hk)
  rw [← List.map_take] at h
  omega
theorem sums_succ {es : List EN} {k : Nat} (hk : k < es.length) : ((es.take (k + 1)).map (·.val)).sum = ((es.take k).map (·.val)).sum + (gd es k).val := by
  rw [take_gd hk, List.map_append, List.sum_append]; simp

set_option maxHeartbeats 3200000 in
theorem law_FnLogSums (v0 : Value) (x0 : List UInt8) (w : World) (hEnv : Env w) (h0 : RB w v0 x0) :
    Calls Tryd.prog 3 #[v0] w (Ret (.bool true) w) := by
  have HE := Lib.hid hEnv
  have H0 := Lib.hid h0
  clear h0 hEnv
  go_enter Tryd.func3, Tryd.ntmps3
  go_wp2_with fail
  refine (a2_long2 v0 _ x0 [] _ H0.out (rb_nil _)).mono ?_
  rintro e w1 ⟨rfl, rfl⟩
  cases hlg : (decide (3000 < x0.length) || decide (3000 < ([] : List UInt8).length)) with
  | true =>
    clear hlg
    go_wp2_with fail
    go_ret
    exact ⟨rfl, ext_refl _⟩
  | false =>
    clear hlg
    go_wp2_with fail
    refine (a2_entries v0 x0 _ H0.out).mono ?_
    rintro e w1 ⟨A, c, l, rfl, hl, hv, hd, hO, hb⟩
    have HG : Hid (GE l) := Lib.hid ⟨hv, hd, hl⟩
    have HR : Hid (∀ W', Below w1.heap.size w1 W' → RENS W' (.slice A l.length c) l) := Lib.hid fun W' h => hO.rd.ext h
    have HW1 := Lib.hid hb
    have HE1 : Hid (∀ W', Below w1.heap.size w1 W' → Env W') := Lib.hid fun W' h => (HE.out.ext HW1.out).ext h
    have HSZ : Hid ((oK l l.length).size ≤ 420) := Lib.hid (oK_sz hv hl (Nat.le_refl _))
    clear hv hd hO hb H0
    go_wp2_with fail
    have hT := spec_LogOf (.slice A l.length c) l w1 (HR.out w1 (ext_refl _)) HG.out.sm (HE1.out w1 (ext_refl _)).lay
    rw [made_log HG.out.v HG.out.d HG.out.n] at hT
    have HT := Lib.hid hT; clear hT
    refine (show Calls _ _ _ _ _ from HT.out).mono ?_
    rintro e w2 ⟨rfl, hb⟩
    have HW2 := Lib.hid hb
    clear hb HT
    obtain ⟨s, hs⟩ : ∃ s, oK l l.length = s := ⟨_, rfl⟩
    have hNM := impl_NamesIn s w2 (by rw [← hs]; have := HSZ.out; omega) (HE1.out w2 HW2.out)
    rw [← hs, names_made HG.out.v HG.out.d HG.out.n, hs] at hNM
    have HNM := Lib.hid hNM
    rw [hs] at HSZ
    clear hNM
    simp only [hs]
    go_wp2_with fail
    refine (show Calls _ _ _ _ _ from HNM.out).mono ?_
    rintro e w3 ⟨v3, rfl, hO3, _, hb⟩
    obtain ⟨A3, c3, rfl, _⟩ := hO3.rd.open_
    have HW3 := Lib.hid (ext_trans HW2.out hb)
    have HR3 := Lib.hid hO3.rd
    have hln : l.length ≤ 7 := HG.out.n
    have hnl := (namA_ok l).2.2.2
    obtain ⟨b, hb1, hb2⟩ : ∃ b, (((namA l).length : Int) == 0) = b ∧ ((l.length : Int) == 0) = b := by
      have := namA_nil l
      by_cases hz : l.length = 0
      · exact ⟨true, beq_iff_eq.2 (by omega), beq_iff_eq.2 (by omega)⟩
      · exact ⟨false, beq_eq_false_iff_ne.2 (by omega), beq_eq_false_iff_ne.2 (by omega)⟩
    have HSA : Hid (∀ k, k < (namA l).length → ∃ (vs : List Int), isN (gd (namA l) k) = true ∧ mSumOfWhat s (gd (namA l) k) 0 100000 = (vs.sum, 0) ∧ mValuesOf s (gd (namA l) k) = (vs, 0) ∧ 0 < vs.length ∧ vs.length ≤ 7 ∧ (∀ x ∈ vs, -1000000 ≤ x ∧ x ≤ 1000000) ∧ smA l (k + 1) = smA l k + vs.sum ∧ cnA l (k + 1) = cnA l k + vs.length) := Lib.hid fun k hk => by
      have h := sums_at HG.out.v HG.out.d HG.out.n hk
      rw [hs] at h
      exact h
    have HBD : Hid (∀ k, (-7000000 ≤ smA l k ∧ smA l k ≤ 7000000) ∧ 0 ≤ cnA l k ∧ cnA l k ≤ 7) := Lib.hid fun k => by
      have h1 := sumB_bd (inA l k) HG.out.v
      have h2 := cntB_bd (inA l k) l
      unfold smA cnA
      omega
    have HSZ2 := Lib.hid (smA_zero l)
    have HCZ2 := Lib.hid (cnA_zero l)
    have HEND : Hid (smA l (namA l).length = (l.map (·.val)).sum ∧ cnA l (namA l).length = l.length) := Lib.hid ⟨smA_end l, cnA_end l⟩
    obtain ⟨nm, hnm⟩ : ∃ nm, namA l = nm := ⟨_, rfl⟩
    rw [hnm] at HR3 hnl hb1 HSA HEND
    rw [hnm]
    clear hb hO3 HNM hs hnm
    go_wp2_with fail
    clear hb1 hb2
    go_loopw [8, 9, 10] (fun u m i wr => ∃ (k : Nat), k ≤ nm.length ∧ i = .int .i64 k ∧ u = .int .i64 (smA l k) ∧ m = .int .i64 (cnA l k) ∧ Hid (Below w3.heap.size w3 wr)) (fun _ _ i _ => nm.length - (intOf i).toNat)
    case atStart => exact ⟨0, Nat.zero_le _, rfl, by rw [HSZ2.out], by rw [HCZ2.out], Lib.hid (ext_refl _)⟩
    case round =>
      obtain ⟨k, hk, rfl, rfl, rfl, HB⟩ := hrel
      have e1 : (0 : Int) ≤ k := by omega
      by_cases hlt : k < nm.length
      · have e2 : (k : Int) < nm.length := by omega
        obtain ⟨ad, rfl, _, hc⟩ := (HR3.out.ext HB.out).at hlt
        have q0 := hc k hlt
        obtain ⟨vs, hN, hS, hV, hv0, hv7, hvx, hs1, hs2⟩ := HSA.out k hlt
        have hbd := HBD.out k
        have hbd2 := HBD.out (k + 1)
        obtain ⟨x, hx⟩ : ∃ x, gd nm k = x := ⟨_, rfl⟩
        rw [hx] at q0 hN hS hV
        have hx12 := (isN_size hN).2
        have HVX : Hid (∀ j, j ≤ vs.length → -1000000000 ≤ (vs.take j).sum ∧ (vs.take j).sum ≤ 1000000000) := Lib.hid fun j hj => by have := sum_takes hvx j hj; omega
        have hSO := fun W' h => impl_SumOfWhat s x 0 100000 W' (by have := HSZ.out; omega) (by omega) (HE1.out W' (ext_trans HW3.out (ext_trans HB.out h)))
        have hVO := fun W' h => impl_ValuesOf s x W' (by have := HSZ.out; omega) (by omega) (HE1.out W' (ext_trans HW3.out (ext_trans HB.out h)))
        rw [hS] at hSO
        rw [hV] at hVO
        have HSO := Lib.hid hSO
        have HVO := Lib.hid hVO
        have HQ : Hid (∀ W', Below wr.heap.size wr W' → W'.cell? (ad.add k) = some (.string x)) := Lib.hid fun W' h => cell_keep q0 h
        clear hSO hVO hS hV hc hvx hN hx hx12
        obtain ⟨sk, hsk⟩ : ∃ y, smA l k = y := ⟨_, rfl⟩
        obtain ⟨ck, hck⟩ : ∃ y, cnA l k = y := ⟨_, rfl⟩
        obtain ⟨ss, hss⟩ : ∃ y, vs.sum = y := ⟨_, rfl⟩
        have HS1 : Hid (smA l (k + 1) = sk + ss) := Lib.hid (by rw [hs1, hsk, hss])
        have HS2 : Hid (cnA l (k + 1) = ck + vs.length) := Lib.hid (by rw [hs2, hck])
        have hbs : -7000000 ≤ sk + ss ∧ sk + ss ≤ 7000000 := by rw [← HS1.out]; exact hbd2.1
        have hbc : 0 ≤ ck + vs.length ∧ ck + (vs.length : Int) ≤ 7 := by rw [← HS2.out]; exact hbd2.2
        rw [hsk, hck] at hbd
        rw [hss] at HSO
        rw [hsk, hck]
        have HSS := Lib.hid hss
        have hv1 : ((vs.length : Int) == 0) = false := beq_eq_false_iff_ne.2 (by omega)
        clear hs1 hs2 hsk hck hbd2 hss
        go_wp2_with fail
        refine (show Calls _ _ _ _ _ from HSO.out _ (ext_refl _)).mono ?_
        rintro e w4 ⟨rfl, hb4⟩
        have HB4 := Lib.hid hb4
        have q1 := HQ.out _ hb4
        clear hb4 HSO q0
        go_wp2_with fail
        refine (show Calls _ _ _ _ _ from HVO.out _ HB4.out).mono ?_
        rintro e w5 h5
        obtain ⟨A5, c5, rfl, hR5, hb5⟩ := RetI.open_ h5
        have HR5 := Lib.hid hR5
        have HB5 := Lib.hid (ext_trans HB.out (ext_trans HB4.out hb5))
        clear h5 hR5 hb5 HVO HQ HB4 q1
        go_wp2_with fail
        refine (a2_sum _ vs _ HR5.out HVX.out).mono ?_
        rintro e w6 ⟨rfl, rfl⟩
        rw [HSS.out]
        go_wp2_with fail
        go_roundw
        case rel => exact ⟨k + 1, hlt, by go_num, by rw [HS1.out], by rw [HS2.out], HB5.out⟩
        case measure => simp [intOf]; omega
      · obtain rfl : k = nm.length := by omega
        have e2 : ¬ (nm.length : Int) < nm.length := by omega
        rw [HEND.out.1, HEND.out.2]
        have HSU : Hid (∀ k, k ≤ l.length → -7000000 ≤ ((l.take k).map (·.val)).sum ∧ ((l.take k).map (·.val)).sum ≤ 7000000) := Lib.hid fun k hk => sums_takes HG.out.v HG.out.n k hk
        have HBW := Lib.hid (ext_trans HW1.out (ext_trans HW3.out HB.out))
        obtain ⟨T, hT⟩ : ∃ T, (l.map (·.val)).sum = T := ⟨_, rfl⟩
        have HT := Lib.hid hT
        rw [hT]
        clear hT
        obtain ⟨wo, hwo⟩ : ∃ wo : World, wo = wr := ⟨_, rfl⟩
        subst hwo
        go_wp2_with fail
        go_loop [15, 16] (fun u i => ∃ (k : Nat), k ≤ l.length ∧ i = .int .i64 k ∧ u = .int .i64 ((l.take k).map (·.val)).sum) (fun _ i => l.length - (intOf i).toNat)
        case atStart => exact ⟨0, Nat.zero_le _, rfl, rfl⟩
        case round =>
          obtain ⟨k, hk, rfl, rfl⟩ := hrel
          have g1 : (0 : Int) ≤ k := by omega
          by_cases hlt : k < l.length
          · have g2 : (k : Int) < l.length := by omega
            obtain ⟨ad, rfl, _, hc⟩ := (HR.out wo (ext_trans HW3.out HB.out)).at hlt
            obtain ⟨p0, p1, p2⟩ := hc k hlt
            have h1 := HSU.out k hk
            have h2 := HSU.out (k + 1) hlt
            have hs := sums_succ hlt
            obtain ⟨s1, hs1⟩ : ∃ y, ((l.take k).map (·.val)).sum = y := ⟨_, rfl⟩
            obtain ⟨x1, hx1⟩ : ∃ y, (gd l k).val = y := ⟨_, rfl⟩
            rw [hs1] at h1 hs
            rw [hx1] at hs p2
            rw [hs] at h2
            rw [hs1]
            have HS := Lib.hid hs
            clear hs hs1 hx1 p0 p1 hc
            go_wp2_with fail
            go_round
            case rel => exact ⟨k + 1, hlt, by go_num, by rw [HS.out]⟩
            case measure => simp [intOf]; omega
          · obtain rfl : k = l.length := by omega
            have g2 : ¬ (l.length : Int) < l.length := by omega
            have HTT : Hid (((l.take l.length).map (·.val)).sum = T) := Lib.hid (by rw [List.take_length, HT.out])
            rw [HTT.out]
            go_wp2_with fail
            go_ret
            first | exact ⟨rfl, HBW.out⟩ | exact ⟨ret_bool (by simp), HBW.out⟩
end Go.Proofs.YtiedojkoogfokaaDoor
