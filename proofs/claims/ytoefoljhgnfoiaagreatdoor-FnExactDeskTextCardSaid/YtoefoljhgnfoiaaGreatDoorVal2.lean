/-
  Valid walls, on both sides.
-/
import Derived.Test.YtoefoljhgnfoiaaGreatDoorVal
import Derived.BigQuiet
import Derived.Lib.QuietBelow
namespace Go.Proofs.YtoefoljhgnfoiaaGreatDoor
open Go.ChangeShapes Go.WideShapes Go.ChangeAt Go.RowKit Go.Sort Go.Joins
set_option linter.unusedVariables false
set_option maxRecDepth 100000

def SmWall (l : List ByteArray) : Prop := ∀ k, k < l.length → (gd l k).size ≤ 1048576
set_option maxHeartbeats 1600000 in
theorem badwall_fn (s t : ByteArray) (hs : s.size ≤ 1048576) (ht : t.size ≤ 1048576) (b : Nat) (ad : Addr) (n c : Nat) (hn : 1 ≤ n) (w : World) (hb : w.cell? ⟨b, 0, none⟩ = some (.slice (some ad) n c)) (hc : w.cell? ad = some (.string t)) :
    Calls Tryz.prog 39 #[.string s, .pointer (some ⟨b, 0, none⟩)] w (Ret (.bool (!vCw t s)) w) := by
  have HV : Hid (vCw t s = (vCo s && decide (lenC s = lenC t))) := Lib.hid rfl
  obtain ⟨x, hx⟩ : ∃ x, vCo s = x := ⟨_, rfl⟩
  have HC : Hid (∀ w, Calls Tryz.prog 40 #[.string s] w (Ret (.bool x) w)) := Lib.hid (fun w => RetP.ret (RetP.bool (impl_okC s hs w) hx))
  have HL : Hid (∀ u w, (u = s ∨ u = t) → Calls Tryz.prog 41 #[.string u] w (Ret (.int .i64 (lenC u)) w)) := Lib.hid (fun u w h => RetP.ret (impl_length u (by rcases h with rfl | rfl <;> assumption) w))
  rw [hx] at HV
  clear hx
  have g1 := fun d os => cell_regrown hb d os
  have g2 := fun d os => cell_regrown hc d os
  have hn2 : (0 : Int) < n := by omega
  clear hb hc
  cases x
  · go_enter Tryz.func39, Tryz.ntmps39
    go_wp2_with fail
    refine wp_region_quiet_below (by kernel_rfl) (by kernel_rfl) ?_
    repeat (go_big_quiet_step (first | (go_at_call 40; exact regrown_r (HC.out _)) | (go_at_call 41; exact regrown_r (HL.out _ _ (by simp)))))
    refine wpQuiet_nil ?_
    intro w' hw'
    obtain ⟨p, rfl⟩ := hw'
    go_wp2_with fail
    go_ret
    exact ⟨ret_bool (by rw [HV.out]; rfl), below_regrown w p.d p.os⟩
  · obtain ⟨a1, h1⟩ : ∃ a, lenC s = a := ⟨_, rfl⟩
    obtain ⟨a2, h2⟩ : ∃ a, lenC t = a := ⟨_, rfl⟩
    rw [h1, h2] at HV
    go_enter Tryz.func39, Tryz.ntmps39
    go_wp2_with fail
    refine wp_region_quiet_below (by kernel_rfl) (by kernel_rfl) ?_
    repeat (go_big_quiet_step (first | (go_at_call 40; exact regrown_r (HC.out _)) | (go_at_call 41; exact regrown_r (HL.out _ _ (by simp)))))
    refine wpQuiet_nil ?_
    intro w' hw'
    obtain ⟨p, rfl⟩ := hw'
    go_wp2_with fail
    go_ret
    exact ⟨ret_bool (by rw [HV.out]; by_cases h : a1 = a2 <;> simp [h]), below_regrown w p.d p.os⟩
set_option maxHeartbeats 1600000 in
theorem badwall_idx (A : Option Addr) (c : Nat) (l : List ByteArray) (b : Nat) (w : World) (hR : RStr w (.slice A l.length c) l) (hsm : SmWall l) (hb : w.cell? ⟨b, 0, none⟩ = some (.slice A l.length c)) (z : Bool) (hz : l.all (vCw (gd l 0)) = z) :
    Calls Tryz.prog 56 #[.slice A l.length c, .func (.func 39) #[] #[.pointer (some ⟨b, 0, none⟩)]] w fun e w' => (∃ i : Int, e = .returned (.int .i64 i) ∧ (z = false → 0 ≤ i) ∧ (z = true → i = -1)) ∧ Below w.heap.size w w' := by
  obtain ⟨_, _, hvv, hc1, hc2⟩ := hR.open_
  have HR := Lib.hid hR; clear hR
  have HSM := Lib.hid hsm
  have HBX := Lib.hid hb
  have HZ := Lib.hid hz
  unfold maxLen at hc2
  have hlm : l.length ≤ 9223372036854775807 := by omega
  clear hsm hb hvv hc1 hc2 hz
  go_enter Tryz.func56, Tryz.ntmps56
  go_wp2_with fail
  go_loopw [8] (fun i wr => ∃ k : Nat, k ≤ l.length ∧ i = .int .i64 k ∧ Hid ((l.take k).all (vCw (gd l 0)) = true) ∧ Hid (Below w.heap.size w wr)) (fun i _ => l.length - (intOf i).toNat)
  case atStart => exact ⟨0, Nat.zero_le _, rfl, Lib.hid rfl, Lib.hid (ext_refl _)⟩
  case round =>
    obtain ⟨k, hk, rfl, HA, HB⟩ := hrel
    have e1 : (0 : Int) ≤ k := by omega
    by_cases hlt : k < l.length
    · have e2 : (k : Int) < l.length := by omega
      have HBX2 := Lib.hid (cell_keep HBX.out HB.out)
      obtain ⟨ad, rfl, _, hc⟩ := (HR.out.ext HB.out).at hlt
      have p0 := hc k hlt
      have HP0 : Hid (wr.cell? ad = some (.string (gd l 0))) := Lib.hid (by have h := hc 0 (by omega); rwa [Addr.add_zero'] at h)
      have hs1 := HSM.out k hlt
      have hs2 := HSM.out 0 (by omega)
      have HA2 := Lib.hid (vCw_succ (t := gd l 0) hlt)
      clear hc
      have HQ := Lib.hid (fun h => vCw_no (t := gd l 0) hlt h)
      have HF := Lib.hid (badwall_fn (gd l k) (gd l 0) hs1 hs2 b ad l.length c (by omega) wr HBX2.out HP0.out)
      obtain ⟨t, ht⟩ : ∃ t, gd l 0 = t := ⟨_, rfl⟩
      obtain ⟨o, ho⟩ : ∃ o, gd l k = o := ⟨_, rfl⟩
      rw [ho] at p0 HF HA2 HQ
      rw [ht] at HF HA2 HQ HA
      have HTT := Lib.hid ht
      clear ho ht hs1 hs2
      go_wp2_with fail
      refine (show Calls _ _ _ _ _ from HF.out).mono ?_
      rintro e w3 ⟨rfl, hb3⟩
      have HB3 := Lib.hid (ext_trans HB.out hb3)
      clear hb3
      cases hv : vCw t o with
      | false =>
        have HF := Lib.hid (HQ.out hv)
        clear hv
        go_wp2_with fail
        go_ret
        exact ⟨⟨_, rfl, fun _ => by omega, fun h => by rw [← HZ.out, HTT.out, HF.out] at h; cases h⟩, HB3.out⟩
      | true =>
        have HA3 : Hid ((l.take (k + 1)).all (vCw (gd l 0)) = true) := Lib.hid (by rw [HTT.out, HA2.out, HA.out, hv]; rfl)
        clear hv
        go_wp2_with fail
        go_roundw
        case rel => exact ⟨k + 1, by omega, by go_num, HA3.out, HB3⟩
        case measure => simp [intOf]; omega
    · obtain rfl : k = l.length := by omega
      have e2 : ¬ (l.length : Int) < l.length := by omega
      have HAll : Hid (l.all (vCw (gd l 0)) = true) := Lib.hid (by have := HA.out; rwa [List.take_length] at this)
      go_wp2_with fail
      go_ret
      exact ⟨⟨-1, rfl, fun h => (by rw [← HZ.out, HAll.out] at h; cases h), fun _ => rfl⟩, HB.out⟩
theorem badwall_has (A : Option Addr) (c : Nat) (l : List ByteArray) (b : Nat) (w : World) (hR : RStr w (.slice A l.length c) l) (hsm : SmWall l) (hb : w.cell? ⟨b, 0, none⟩ = some (.slice A l.length c)) :
    Calls Tryz.prog 38 #[.slice A l.length c, .func (.func 39) #[] #[.pointer (some ⟨b, 0, none⟩)]] w (Ret (.bool (!l.all (vCw (gd l 0)))) w) := by
  obtain ⟨z, hz⟩ : ∃ z, l.all (vCw (gd l 0)) = z := ⟨_, rfl⟩
  have HI := Lib.hid (badwall_idx A c l b w hR hsm hb z hz)
  rw [hz]
  clear hR hsm hb hz
  go_enter Tryz.func38, Tryz.ntmps38
  go_wp2_with fail
  refine (show Calls _ _ _ _ _ from HI.out).mono ?_
  rintro e w' ⟨⟨i, rfl, hi1, hi2⟩, hb⟩
  have HB := Lib.hid hb
  clear hb HI
  cases z with
  | false =>
    have h0 := hi1 rfl
    clear hi1 hi2
    go_wp2_with fail
    go_ret
    exact ⟨ret_bool (by simp), HB.out⟩
  | true =>
    obtain rfl := hi2 rfl
    clear hi1 hi2
    go_wp2_with fail
    go_ret
    exact ⟨ret_bool (by simp), HB.out⟩
set_option maxHeartbeats 1600000 in
theorem impl_okW (A : Option Addr) (c : Nat) (l : List ByteArray) (w : World) (hR : RStr w (.slice A l.length c) l) (hsm : SmWall l) :
    Calls Tryz.prog 20 #[.slice A l.length c] w (Ret (.bool (vW l)) w) := by
  have HR := Lib.hid hR; clear hR
  have HC := Lib.hid (fun (b : Nat) w h h2 => badwall_has A c l b w h hsm h2)
  have HV : Hid (vW l = (inB l.length 1 40 && l.all (vCw (gd l 0)))) := Lib.hid rfl
  obtain ⟨y, hy⟩ : ∃ y, inB l.length 1 40 = y := ⟨_, rfl⟩
  obtain ⟨z, hz⟩ : ∃ z, l.all (vCw (gd l 0)) = z := ⟨_, rfl⟩
  have HI := Lib.hid (fun w => RetP.bool (impl_within (l.length : Int) 1 40 w) hy)
  rw [hy, hz] at HV
  rw [hz] at HC
  clear hy hz hsm
  go_enter Tryz.func20, Tryz.ntmps20
  go_wp2_with fail
  refine (show Calls _ _ _ _ _ from HI.out _).mono ?_
  rintro e w1 ⟨rfl, rfl⟩
  cases y
  · go_wp2_with fail
    go_ret
    exact ⟨ret_bool (by rw [HV.out]; rfl), ext_alloc1 _ _⟩
  · go_wp2_with fail
    refine (show Calls _ _ _ _ _ from HC.out _ _ (HR.out.alloc _) (by simp [go_sem])).mono ?_
    rintro e w1 ⟨rfl, hb⟩
    have HB := Lib.hid hb
    clear hb
    go_wp2_with fail
    go_ret
    exact ⟨ret_bool (by rw [HV.out]; simp), ext_trans (ext_alloc1 _ _) HB.out⟩
set_option maxHeartbeats 3200000 in
theorem spec_okW (A : Option Addr) (c : Nat) (l : List ByteArray) (w : World) (hR : RStr w (.slice A l.length c) l) (hsm : SmWall l) :
    Calls Tryz.prog 31 #[.slice A l.length c] w (Ret (.bool (vW l)) w) := by
  obtain ⟨_, _, hvv, hc1, hc2⟩ := hR.open_
  have HR := Lib.hid hR; clear hR
  have HSM := Lib.hid hsm
  unfold maxLen at hc2
  have hlm : l.length ≤ 9223372036854775807 := by omega
  clear hsm hvv hc1 hc2
  go_enter Tryz.func31, Tryz.ntmps31
  go_wp2_with fail
  go_loopw [3] (fun i wr => ∃ k : Nat, k ≤ l.length ∧ i = .int .i64 k ∧ Hid ((l.take k).all (vCw (gd l 0)) = true) ∧ Hid (Below w.heap.size w wr)) (fun i _ => l.length - (intOf i).toNat)
  case atStart => exact ⟨0, Nat.zero_le _, rfl, Lib.hid rfl, Lib.hid (ext_refl _)⟩
  case round =>
    obtain ⟨k, hk, rfl, HA, HB⟩ := hrel
    have e1 : (0 : Int) ≤ k := by omega
    by_cases hlt : k < l.length
    · have e2 : (k : Int) < l.length := by omega
      have e3 : (0 : Int) < l.length := by omega
      obtain ⟨ad, rfl, _, hc⟩ := (HR.out.ext HB.out).at hlt
      have p0 := hc k hlt
      have p1 : wr.cell? ad = some (.string (gd l 0)) := by have h := hc 0 (by omega); rwa [Addr.add_zero'] at h
      have hs1 := HSM.out k hlt
      have hs2 := HSM.out 0 (by omega)
      have HA2 := Lib.hid (vCw_succ (t := gd l 0) hlt)
      clear hc
      have HQ := Lib.hid (fun h => vCw_no (t := gd l 0) hlt h)
      obtain ⟨t, ht⟩ : ∃ t, gd l 0 = t := ⟨_, rfl⟩
      obtain ⟨o, ho⟩ : ∃ o, gd l k = o := ⟨_, rfl⟩
      rw [ho] at p0 HA2 HQ hs1
      rw [ht] at p1 HA2 HQ HA hs2
      have HTT := Lib.hid ht
      clear ho ht
      have HV : Hid (vCw t o = (vCo o && decide (lenC o = lenC t))) := Lib.hid rfl
      obtain ⟨x, hx⟩ : ∃ x, vCo o = x := ⟨_, rfl⟩
      have HC : Hid (∀ w, Calls Tryz.prog 51 #[.string o] w (Ret (.bool x) w)) := Lib.hid (fun w => RetP.ret (RetP.bool (spec_okC o hs1 w) hx))
      have HL : Hid (∀ u w, (u = o ∨ u = t) → Calls Tryz.prog 52 #[.string u] w (Ret (.int .i64 (lenC u)) w)) := Lib.hid (fun u w h => RetP.ret (spec_length u (by rcases h with rfl | rfl <;> assumption) w))
      rw [hx] at HV
      have g0 := fun d os => cell_regrown p0 d os
      have g1 := fun d os => cell_regrown p1 d os
      clear hx hs1 hs2 p0 p1
      cases x
      · have HF := Lib.hid (HQ.out (by rw [HV.out]; rfl))
        have HG : Hid (vW l = false) := Lib.hid (by unfold vW; rw [HTT.out, HF.out]; simp)
        go_wp2_with fail
        refine wp_region_quiet_below (by kernel_rfl) (by kernel_rfl) ?_
        repeat (go_big_quiet_step (first | (go_at_call 51; exact regrown_r (HC.out _)) | (go_at_call 52; exact regrown_r (HL.out _ _ (by simp)))))
        refine wpQuiet_nil ?_
        intro w' hw'
        obtain ⟨p, rfl⟩ := hw'
        go_wp2_with fail
        go_ret
        exact ⟨ret_bool HG.out.symm, ext_trans HB.out (below_regrown wr p.d p.os)⟩
      · by_cases hE : lenC o = lenC t
        · have HA3 : Hid ((l.take (k + 1)).all (vCw (gd l 0)) = true) := Lib.hid (by rw [HTT.out, HA2.out, HA.out, HV.out, decide_eq_true hE]; rfl)
          have hE2 : (lenC o != lenC t) = false := by rw [hE]; simp
          clear hE
          go_wp2_with fail
          refine wp_region_quiet_below (by kernel_rfl) (by kernel_rfl) ?_
          repeat (go_big_quiet_step (first | (go_at_call 51; exact regrown_r (HC.out _)) | (go_at_call 52; exact regrown_r (HL.out _ _ (by simp)))))
          refine wpQuiet_nil ?_
          intro w' hw'
          obtain ⟨p, rfl⟩ := hw'
          have HB3 := Lib.hid (ext_trans HB.out (below_regrown wr p.d p.os))
          clear g0 g1
          go_wp2_with fail
          go_roundw
          case rel => exact ⟨k + 1, by omega, by go_num, HA3.out, HB3⟩
          case measure => simp [intOf]; omega
        · have HF := Lib.hid (HQ.out (by rw [HV.out, decide_eq_false hE]; rfl))
          have HG : Hid (vW l = false) := Lib.hid (by unfold vW; rw [HTT.out, HF.out]; simp)
          have hE2 : (lenC o != lenC t) = true := bne_iff_ne.2 hE
          clear hE
          go_wp2_with fail
          refine wp_region_quiet_below (by kernel_rfl) (by kernel_rfl) ?_
          repeat (go_big_quiet_step (first | (go_at_call 51; exact regrown_r (HC.out _)) | (go_at_call 52; exact regrown_r (HL.out _ _ (by simp)))))
          refine wpQuiet_nil ?_
          intro w' hw'
          obtain ⟨p, rfl⟩ := hw'
          go_wp2_with fail
          go_ret
          exact ⟨ret_bool HG.out.symm, ext_trans HB.out (below_regrown wr p.d p.os)⟩
    · obtain rfl : k = l.length := by omega
      have e2 : ¬ (l.length : Int) < l.length := by omega
      have HAll : Hid (l.all (vCw (gd l 0)) = true) := Lib.hid (by have := HA.out; rwa [List.take_length] at this)
      have HV : Hid (vW l = inB l.length 1 40) := Lib.hid (by unfold vW; rw [HAll.out]; simp)
      have HI := Lib.hid (fun w => spec_in (l.length : Int) 1 40 w)
      go_wp2_with fail
      refine (show Calls _ _ _ _ _ from HI.out _).mono ?_
      rintro e w1 ⟨rfl, rfl⟩
      go_wp2_with fail
      go_ret
      exact ⟨ret_bool HV.out.symm, HB.out⟩
end Go.Proofs.YtoefoljhgnfoiaaGreatDoor
