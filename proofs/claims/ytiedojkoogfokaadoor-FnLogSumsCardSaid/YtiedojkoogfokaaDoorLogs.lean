/-
  The law FnLogs: its walk.
-/
import Derived.Test.YtiedojkoogfokaaDoorLgsQ
import Derived.Test.YtiedojkoogfokaaDoorDrwE2
import Derived.Deep.DeepCutAuto
namespace Go.Proofs.YtiedojkoogfokaaDoor
open Go.ChangeShapes Go.WideShapes Go.ChangeAt Go.RowKit Go.Sort
set_option linter.unusedVariables false
set_option maxRecDepth 100000

theorem a2_long2 (v0 v1 : Value) (x0 x1 : List UInt8) (w : World) (h0 : RB w v0 x0) (h1 : RB w v1 x1) :
    Calls Tryd.prog 5 #[v0, v1] w (RetP (.bool (decide (3000 < x0.length) || decide (3000 < x1.length))) w) := by
  obtain ⟨A, c, rfl, hc1, hc2, _⟩ := h0.open_
  obtain ⟨B, d, rfl, hd1, hd2, _⟩ := h1.open_
  clear h0 h1
  unfold maxLen at hc2 hd2
  by_cases h : 3000 < x0.length
  · have HX : Hid ((decide (3000 < x0.length) || decide (3000 < x1.length)) = true) := Lib.hid (by rw [decide_eq_true h]; rfl)
    have e1 : (3000:Int) < x0.length := by omega
    go_enter Tryd.func5, Tryd.ntmps5
    go_wp2_with fail
    go_ret
    exact ⟨ret_bool HX.out.symm, rfl⟩
  · have e1 : ¬ (3000:Int) < x0.length := by omega
    by_cases h2 : 3000 < x1.length
    · have HX : Hid ((decide (3000 < x0.length) || decide (3000 < x1.length)) = true) := Lib.hid (by rw [decide_eq_true h2, Bool.or_true])
      have e2 : (3000:Int) < x1.length := by omega
      go_enter Tryd.func5, Tryd.ntmps5
      go_wp2_with fail
      go_ret
      first | exact ⟨ret_bool HX.out.symm, rfl⟩ | exact ⟨rfl, rfl⟩
    · have HX : Hid ((decide (3000 < x0.length) || decide (3000 < x1.length)) = false) := Lib.hid (by rw [decide_eq_false h, decide_eq_false h2]; rfl)
      have e2 : ¬ (3000:Int) < x1.length := by omega
      go_enter Tryd.func5, Tryd.ntmps5
      go_wp2_with fail
      go_ret
      first | exact ⟨ret_bool HX.out.symm, rfl⟩ | exact ⟨rfl, rfl⟩

theorem mod256 {x : Int} (h0 : 0 ≤ x) (h1 : x ≤ 255) : Int.tmod x 256 = x := by rw [Int.tmod_eq_emod_of_nonneg h0]; omega
theorem a2_at (v : Value) (bs : List UInt8) (k : Nat) (hk4 : k ≤ 4000) (w : World) (hR : RB w v bs) :
    Calls Tryd.prog 15 #[v, .int .i64 k, .int .i64 256] w fun e w' => ∃ x : Int, e = .returned (.int .i64 x) ∧ 0 ≤ x ∧ x ≤ 255 ∧ Below w.heap.size w w' := by
  obtain ⟨A, c, rfl, hc1, hc2, hA⟩ := hR.open_
  unfold maxLen at hc2
  clear hR
  have e0 : (0 : Int) ≤ k := by omega
  by_cases hk : k < bs.length
  · obtain ⟨ad, rfl, hcell⟩ := hA k hk
    have e1 : (k : Int) < bs.length := by omega
    obtain ⟨y, hy, hy0, hy1⟩ : ∃ y : Int, (bs[k].toNat : Int) = y ∧ 0 ≤ y ∧ y ≤ 255 := ⟨_, rfl, by omega, by have := bs[k].toNat_lt; omega⟩
    rw [hy] at hcell
    clear hy hA
    have em := mod256 hy0 hy1
    go_enter Tryd.func15, Tryd.ntmps15
    go_wp2_with fail
    go_ret
    first | exact ⟨y, rfl, hy0, hy1, ext_refl _⟩ | exact ⟨y, by rw [em], hy0, hy1, ext_refl _⟩ | exact ⟨_, rfl, by omega, by omega, ext_refl _⟩
  · have e1 : ¬ (k : Int) < bs.length := by omega
    clear hA
    go_enter Tryd.func15, Tryd.ntmps15
    go_wp2_with fail
    go_ret
    exact ⟨0, rfl, by omega, by omega, ext_refl _⟩
/-- A list of entries as it is drawn: valid, in order, at most seven. -/
structure GE (l : List EN) : Prop where
  v : l.all vEn = true
  d : dK l l.length = true
  n : l.length ≤ 7
theorem GE.sm {l : List EN} (h : GE l) : SmENS l := by
  have := totEN_ok (l := l) (fun e he => by have := List.all_eq_true.1 h.v e he; exact this)
  have := h.n
  unfold SmENS
  omega
set_option maxHeartbeats 3200000 in
theorem law_FnLogs (v0 : Value) (x0 : List UInt8) (v1 : Value) (x1 : List UInt8) (w : World) (hEnv : Env w) (h0 : RB w v0 x0) (h1 : RB w v1 x1) :
    Calls Tryd.prog 4 #[v0, v1] w (Ret (.bool true) w) := by
  have HE := Lib.hid hEnv
  have H0 := Lib.hid h0
  have H1 := Lib.hid h1
  clear h0 h1 hEnv
  go_enter Tryd.func4, Tryd.ntmps4
  go_wp2_with fail
  refine (a2_long2 v0 v1 x0 x1 _ H0.out H1.out).mono ?_
  rintro e w1 ⟨rfl, rfl⟩
  cases hlg : (decide (3000 < x0.length) || decide (3000 < x1.length)) with
  | true =>
    clear hlg
    go_wp2_with fail
    go_ret
    exact ⟨rfl, ext_refl _⟩
  | false =>
    clear hlg
    go_wp2_with fail
    refine (a2_entries v0 x0 _ H0.out).mono ?_
    rintro e w1 ⟨A, c, l, rfl, hl, hv, hd, hO, hb⟩
    have HG : Hid (GE l) := Lib.hid ⟨hv, hd, hl⟩
    have HR : Hid (∀ W', Below w1.heap.size w1 W' → RENS W' (.slice A l.length c) l) := Lib.hid fun W' h => hO.rd.ext h
    have HW1 := Lib.hid hb
    have HE1 : Hid (∀ W', Below w1.heap.size w1 W' → Env W') := Lib.hid fun W' h => (HE.out.ext HW1.out).ext h
    have HSZ : Hid ((oK l l.length).size ≤ 420) := Lib.hid (oK_sz hv hl (Nat.le_refl _))
    clear hv hd hO hb H0
    go_wp2_with fail
    have hT := impl_LogOf (.slice A l.length c) l w1 (HR.out w1 (ext_refl _)) HG.out.sm (HE1.out w1 (ext_refl _)).lay
    rw [made_log HG.out.v HG.out.d HG.out.n] at hT
    have HT := Lib.hid hT; clear hT
    refine (show Calls _ _ _ _ _ from HT.out).mono ?_
    rintro e w2 ⟨rfl, hb⟩
    have HW2 := Lib.hid hb
    clear hb HT
    obtain ⟨s, hs⟩ : ∃ s, oK l l.length = s := ⟨_, rfl⟩
    have hIE := impl_EntriesOf s w2 (by rw [← hs]; have := HSZ.out; omega) (HE1.out w2 HW2.out)
    obtain ⟨k1, k2, k3⟩ := lg_made HG.out.v HG.out.d HG.out.n (Nat.le_refl l.length)
    rw [List.take_length] at k2
    rw [hs] at k1 k2 k3 HSZ
    rw [k1, k2] at hIE
    have HIE := Lib.hid hIE
    clear hIE k1 k2 k3
    simp only [hs]
    go_wp2_with fail
    refine (show Calls _ _ _ _ _ from HIE.out).mono ?_
    rintro e w3 ⟨v3, rfl, hO3, _, hb⟩
    obtain ⟨A3, c3, rfl, _⟩ := hO3.rd.open_
    have HW3 := Lib.hid (ext_trans HW2.out hb)
    have HR3 := Lib.hid hO3.rd
    have hln : l.length ≤ 7 := HG.out.n
    clear hb hO3 HIE
    go_wp2_with fail
    have HZK : Hid (∀ k, k ≤ l.length → (oK l k).size ≤ s.size) := Lib.hid fun k hk => by rw [← hs]; exact oK_le l hk
    have HCK : Hid (∀ k, k ≤ l.length → s.extract 0 (oK l k).size = oK l k) := Lib.hid fun k hk => by rw [← hs]; exact oK_cut l hk
    go_loopw [10, 11, 12, 13] (fun t i _ _ wr => ∃ (k : Nat) (acc : ByteArray), k ≤ l.length ∧ i = .int .i64 k ∧ t = .string acc ∧ Hid (oK l k = acc) ∧ Hid (Below w3.heap.size w3 wr)) (fun _ i _ _ _ => l.length - (intOf i).toNat)
    case atStart => exact ⟨0, ⟨#[]⟩, Nat.zero_le _, rfl, rfl, Lib.hid rfl, Lib.hid (ext_refl _)⟩
    case round =>
      obtain ⟨k, acc, hk, rfl, rfl, HT, HB⟩ := hrel
      have e1 : (0 : Int) ≤ k := by omega
      by_cases hlt : k < l.length
      · have e2 : (k : Int) < l.length := by omega
        obtain ⟨ad, rfl, _, hc⟩ := (HR.out wr (ext_trans HW3.out HB.out)).at hlt
        obtain ⟨ad3, rfl, _, hc3⟩ := (HR3.out.ext HB.out).at hlt
        obtain ⟨p0, p1, p2⟩ := hc k hlt
        obtain ⟨q0, q1, q2⟩ := hc3 k hlt
        clear hc hc3
        have HAD : Hid (∀ W', Below w3.heap.size w3 W' → Calls Tryd.prog 14 #[.string acc, .agg #[.int .i64 (gd l k).day, .string (gd l k).what, .int .i64 (gd l k).val]] W' (Ret (.tuple #[.string (oK l (k + 1)), .int .i64 0]) W')) := Lib.hid fun W' h => by
          have hz := HZK.out k hk
          have hz2 := HSZ.out
          have h2 := impl_AddEntry acc (.agg #[.int .i64 (gd l k).day, .string (gd l k).what, .int .i64 (gd l k).val]) (gd l k) W' (by rw [← HT.out]; omega) rfl (by have := vEn_sm (all_at HG.out.v hlt); unfold SmEN; omega) (HE1.out W' (ext_trans HW3.out h))
          rw [← HT.out, add_made HG.out.v HG.out.d HG.out.n hlt] at h2
          rw [← HT.out]
          exact h2
        have hz1 := HZK.out (k + 1) hlt
        have hcut := HCK.out (k + 1) hlt
        have hsz := HSZ.out
        go_wp2_with fail
        go_quiet (fail)
        go_wp2_with fail
        refine (HAD.out _ (ext_drewN HB.out _)).mono ?_
        rintro e w4 ⟨rfl, hb4⟩
        have HB4 := Lib.hid (ext_trans (ext_drewN HB.out _) hb4)
        clear hb4 HAD p0 p1 p2 q0 q1 q2 HB HT
        have HT2 : Hid (oK l (k + 1) = oK l (k + 1)) := Lib.hid rfl
        generalize hac : oK l (k + 1) = ac2 at hz1 hcut ⊢
        have HAC := Lib.hid hac
        clear hac HT2
        have e3 : (ac2.size : Int) ≤ s.size := by omega
        go_wp2_with fail
        go_roundw
        case rel => exact ⟨k + 1, ac2, hlt, by go_num, rfl, HAC.out, HB4.out⟩
        case measure => simp [intOf]; omega
      · have e2 : ¬ (k : Int) < l.length := by omega
        obtain rfl : k = l.length := by omega
        obtain rfl : acc = s := by rw [← hs, ← HT.out]
        have HB3 := Lib.hid (ext_trans HW1.out (ext_trans HW3.out HB.out))
        have h10 := H1.out
        clear HB HT
        go_wp2_with fail
        refine (a2_at v1 x1 0 (by omega) _ (h10.ext HB3.out)).mono ?_
        rintro e w4 ⟨y0, rfl, a0, a1, hb4⟩
        have HB4 := Lib.hid (ext_trans HB3.out hb4)
        clear hb4 HB3
        go_wp2_with fail
        refine (a2_at v1 x1 1 (by omega) _ (h10.ext HB4.out)).mono ?_
        rintro e w5 ⟨y1, rfl, b0, b1, hb5⟩
        have HB5 := Lib.hid (ext_trans HB4.out hb5)
        clear hb5 HB4 h10
        go_wp2_with fail
        obtain ⟨ct, hct⟩ : ∃ ct : Nat, min (y0 + y1) (acc.size : Int) = ct := ⟨(min (y0 + y1) (acc.size : Int)).toNat, by omega⟩
        have hcl : ct ≤ acc.size := by omega
        simp only [hct, Int.toNat_natCast]
        clear hct a0 a1 b0 b1
        have hsz := HSZ.out
        obtain ⟨m, hm, hRc, hCk, h0, hle⟩ := cut_facts hcl (by omega)
        have hx := size_cut hcl
        have HEv : Hid (∀ W', Below w5.heap.size w5 W' → Env W') := Lib.hid fun W' h => (HE.out.ext HB5.out).ext h
        have hA := fun W' h => impl_RecoverLog (acc.extract 0 ct) W' (by omega) (HEv.out W' h)
        have hB := fun W' h => impl_CheckLog (acc.extract 0 ct) W' (by omega) (HEv.out W' h)
        rw [hRc] at hA
        rw [hCk] at hB
        have HA := Lib.hid hA
        have HBk := Lib.hid hB
        clear hA hB hRc hCk
        refine (show Calls _ _ _ _ _ from HA.out w5 (ext_refl _)).mono ?_
        rintro e w6 ⟨rfl, hb6⟩
        have HB6 := Lib.hid hb6
        clear hb6
        go_wp2_with fail
        refine (show Calls _ _ _ _ _ from HBk.out w6 HB6.out).mono ?_
        rintro e w7 ⟨rfl, hb7⟩
        have HB7 := Lib.hid (ext_trans HB6.out hb7)
        clear hb7 HB6 HA HBk
        have hmz := size_cut (s := acc) (c := m) (by omega)
        go_wp2_with fail
        have hle2 : (lgE (acc.extract 0 m)).length ≤ l.length := by
          obtain ⟨k1, k2, _⟩ := lg_made HG.out.v HG.out.d HG.out.n (Nat.le_refl l.length)
          rw [hs] at k1 k2
          rw [List.take_length] at k2
          rw [← (lg_yes k1).1, k2] at hle
          exact hle
        have hF := spec_EntriesOf (acc.extract 0 m) w7 (by omega) (HEv.out w7 HB7.out)
        rw [h0] at hF
        refine (show Calls _ _ _ _ _ from hF).mono ?_
        rintro e w8 ⟨v8, rfl, hO8, _, hb8⟩
        obtain ⟨A8, c8, rfl, _⟩ := hO8.rd.open_
        have HB8 := Lib.hid (ext_trans HB5.out (ext_trans HB7.out hb8))
        clear hO8 hb8 hF HEv hle
        have e9 : ((lgE (acc.extract 0 m)).length : Int) ≤ l.length := by omega
        go_wp2_with fail
        go_ret
        first | exact ⟨rfl, HB8.out⟩ | exact ⟨ret_bool (by simp; omega), HB8.out⟩
end Go.Proofs.YtiedojkoogfokaaDoor
