/-
  Logs: SumOfWhat.
-/
import Derived.Test.YtiedojkoogfokaaDoorLog11
namespace Go.Proofs.YtiedojkoogfokaaDoor
open Go.ChangeShapes Go.WideShapes Go.ChangeAt Go.RowKit Go.Sort
set_option linter.unusedVariables false
set_option maxRecDepth 100000
attribute [local go_sem ↓] Go.wp_at_zero Go.wp_at_succ

def whC (s what : ByteArray) : Int := if lgC s = 0 then (bif isN what then 0 else 2) else lgC s
theorem whC_no {s what : ByteArray} (h : lgC s ≠ 0) : whC s what = lgC s := by unfold whC; rw [if_neg h]
theorem whC_yes {s what : ByteArray} (h : lgC s = 0) : whC s what = bif isN what then 0 else 2 := by unfold whC; rw [if_pos h]
def SWhatP (s what : ByteArray) (w : World) : Ending → World → Prop := fun e w' =>
  ∃ g A c, e = .returned (.tuple #[.pointer (some ⟨g, 0, none⟩), .int .i64 (whC s what)]) ∧ (lgC s = 0 → RR w' w.heap.size g s (rdLog s.data.toList).1 (rdLog s.data.toList).2.1 (rdLog s.data.toList).2.2 A c) ∧ Below w.heap.size w w'
/-- Does an entry count? -/
def cntE (what : ByteArray) (f t : Int) (e : EN) : Bool := decide (e.what = what) && inB e.day f t
def sumK (es : List EN) (what : ByteArray) (f t : Int) (k : Nat) : Int := ((es.take k).map fun e => bif cntE what f t e then e.val else 0).sum
theorem sumK_succ {es : List EN} {what : ByteArray} {f t : Int} {k : Nat} (hk : k < es.length) : sumK es what f t (k + 1) = sumK es what f t k + bif cntE what f t (gd es k) then (gd es k).val else 0 := by
  unfold sumK; rw [take_gd hk]; simp
theorem sumK_bd {es : List EN} (hv : ∀ e ∈ es, vEn e = true) (what : ByteArray) (f t : Int) : ∀ k, k ≤ es.length → -(1000000 * (k : Int)) ≤ sumK es what f t k ∧ sumK es what f t k ≤ 1000000 * (k : Int)
  | 0, _ => by simp [sumK]
  | k + 1, hk => by
    have ih := sumK_bd hv what f t k (by omega)
    have hb := (vEn_iff.1 (hv _ (gd_mem (show k < es.length by omega)))).2.2
    rw [sumK_succ (by omega)]
    cases cntE what f t (gd es k) with
    | true => simp only [cond_true]; omega
    | false => simp only [cond_false]; omega
def sowC (s what : ByteArray) (f t : Int) : Int := if whC s what = 0 then (bif inB f 0 100000 && inB t 0 100000 then 0 else 2) else whC s what
def mSumOfWhat (s what : ByteArray) (f t : Int) : Int × Int := if sowC s what f t = 0 then (sumK (lgE s) what f t (lgE s).length, 0) else (0, sowC s what f t)
theorem sm_code {s what : ByteArray} {f t : Int} {k : Int} (h : sowC s what f t = k) (hk : k ≠ 0) : mSumOfWhat s what f t = (0, k) := by unfold mSumOfWhat; rw [h, if_neg hk]
theorem sm_ok {s what : ByteArray} {f t : Int} (h : sowC s what f t = 0) : mSumOfWhat s what f t = (sumK (lgE s) what f t (lgE s).length, 0) := by unfold mSumOfWhat; rw [if_pos h]

set_option maxHeartbeats 3200000 in
theorem impl_SumOfWhat (s what : ByteArray) (f t : Int) (w : World) (hs : s.size ≤ 1048576) (hw : what.size ≤ 1048576) (hE : Env w) :
    Calls Tryd.prog 9 #[.string s, .string what, .int .i64 f, .int .i64 t] w (Ret (.tuple #[.int .i64 (mSumOfWhat s what f t).1, .int .i64 (mSumOfWhat s what f t).2]) w) := by
  have HC := Lib.hid (impl_logCode s hs w hE)
  have HN := Lib.hid (fun w => impl_IsName what (by unfold maxLen; omega) w)
  clear hE
  go_enter Tryd.func9, Tryd.ntmps9
  go_wp2_with fail
  refine (show Calls _ _ _ _ _ from HC.out).mono ?_
  rintro e w2 ⟨A, c, rfl, hO, hb⟩
  have HO := Lib.hid hO
  have HW := Lib.hid hb
  clear hO hb HC
  have hbx := box3 w2 (.slice A (lgE s).length c) (.int .i64 (lgS s)) (.int .i64 (lgN s)) 54 _ (ext_refl _)
  have hx0 := hbx.1
  clear hbx
  have hlen := lgE_len s
  have HOK := Lib.hid (lgE_ok s)
  by_cases h0 : lgC s = 0
  · have HG := Lib.hid (whC_yes (what := what) h0)
    rw [h0]
    clear h0
    go_wp2_with fail
    refine (show Calls _ _ _ _ _ from HN.out _).mono ?_
    rintro e w3 ⟨rfl, rfl⟩
    cases hn : isN what with
    | false =>
      have HM : Hid (mSumOfWhat s what f t = (0, 2)) := Lib.hid (sm_code (by unfold sowC; rw [HG.out, hn]; rfl) (by decide))
      clear hn
      go_wp2_with fail
      go_ret2
      rw [HM.out]
      exact ⟨rfl, ext_alloc HW.out _⟩
    | true =>
    have HG2 : Hid (sowC s what f t = bif inB f 0 100000 && inB t 0 100000 then 0 else 2) := Lib.hid (by unfold sowC; rw [HG.out, hn]; rfl)
    clear hn
    go_wp2_with fail
    refine (impl_within f 0 100000 _).mono ?_
    rintro e w3 ⟨rfl, rfl⟩
    cases hf : inB f 0 100000 with
    | false =>
      have HM : Hid (mSumOfWhat s what f t = (0, 2)) := Lib.hid (sm_code (by rw [HG2.out, hf]; rfl) (by decide))
      clear hf
      go_wp2_with fail
      go_ret2
      rw [HM.out]
      exact ⟨rfl, ext_alloc HW.out _⟩
    | true =>
    have HFF := Lib.hid hf
    clear hf
    go_wp2_with fail
    refine (impl_within t 0 100000 _).mono ?_
    rintro e w3 ⟨rfl, rfl⟩
    cases ht : inB t 0 100000 with
    | false =>
      have HM : Hid (mSumOfWhat s what f t = (0, 2)) := Lib.hid (sm_code (by rw [HG2.out, HFF.out, ht]; rfl) (by decide))
      clear ht
      go_wp2_with fail
      go_ret2
      rw [HM.out]
      exact ⟨rfl, ext_alloc HW.out _⟩
    | true =>
    have HM : Hid (mSumOfWhat s what f t = (sumK (lgE s) what f t (lgE s).length, 0)) := Lib.hid (sm_ok (by rw [HG2.out, HFF.out, ht]; rfl))
    have HA := Lib.hid HO.out.rd
    clear ht HFF
    obtain ⟨es, hes⟩ : ∃ es, lgE s = es := ⟨_, rfl⟩
    rw [hes] at hx0 HA hlen HOK HM ⊢
    clear hes HO
    go_wp2_with fail
    go_loopw [12, 43] (fun u i wr => ∃ (k : Nat) (v : Int), k ≤ es.length ∧ i = .int .i64 k ∧ u = .int .i64 v ∧ Hid (sumK es what f t k = v) ∧ Hid (Below w2.heap.size w2 wr)) (fun _ i _ => es.length - (intOf i).toNat)
    case atStart => exact ⟨0, 0, Nat.zero_le _, rfl, rfl, Lib.hid rfl, Lib.hid (ext_alloc1 _ _)⟩
    case round =>
      obtain ⟨k, v, hk, rfl, rfl, HV, HB⟩ := hrel
      have e1 : (0 : Int) ≤ k := by omega
      by_cases hlt : k < es.length
      · have e2 : (k : Int) < es.length := by omega
        obtain ⟨ad, rfl, _, hc⟩ := (HA.out.ext HB.out).at hlt
        obtain ⟨p0, p1, p2⟩ := hc k hlt
        have HS := Lib.hid (sumK_succ (what := what) (f := f) (t := t) hlt)
        have hbv := sumK_bd HOK.out what f t k (by omega)
        have hbv2 := sumK_bd HOK.out what f t (k + 1) (by omega)
        rw [sumK_succ hlt] at hbv2
        rw [HV.out] at hbv hbv2
        clear hc
        by_cases hq : (gd es k).what = what
        · have HQ := Lib.hid hq
          rw [hq] at p1
          clear hq
          go_wp2_with fail
          refine (impl_within (gd es k).day f t _).mono ?_
          rintro e w3 ⟨rfl, rfl⟩
          cases hi : inB (gd es k).day f t with
          | true =>
            have hce : cntE what f t (gd es k) = true := by unfold cntE; rw [HQ.out, hi]; simp
            have HS2 : Hid (sumK es what f t (k + 1) = v + (gd es k).val) := Lib.hid (by rw [HS.out, HV.out, hce]; rfl)
            rw [hce] at hbv2
            simp only [cond_true] at hbv2
            clear hi hce
            go_wp2_with fail
            go_roundw
            case rel => exact ⟨k + 1, _, by omega, by go_num, rfl, HS2.out, Lib.hid (ext_alloc HB.out _)⟩
            case measure => simp [intOf]; omega
          | false =>
            have hce : cntE what f t (gd es k) = false := by unfold cntE; rw [hi]; simp
            have HS2 : Hid (sumK es what f t (k + 1) = v) := Lib.hid (by rw [HS.out, HV.out, hce]; simp)
            clear hi hce hbv2
            go_wp2_with fail
            go_roundw
            case rel => exact ⟨k + 1, _, by omega, by go_num, rfl, HS2.out, Lib.hid (ext_alloc HB.out _)⟩
            case measure => simp [intOf]; omega
        · have hst := str_ne hq
          have hce : cntE what f t (gd es k) = false := by unfold cntE; rw [decide_eq_false hq]; rfl
          have HS2 : Hid (sumK es what f t (k + 1) = v) := Lib.hid (by rw [HS.out, HV.out, hce]; simp)
          clear hq hce hbv2
          go_wp2_with fail
          go_roundw
          case rel => exact ⟨k + 1, _, by omega, by go_num, rfl, HS2.out, Lib.hid (ext_alloc HB.out _)⟩
          case measure => simp [intOf]; omega
      · obtain rfl : k = es.length := by omega
        go_wp2_with fail
        go_ret2
        rw [HM.out, HV.out]
        exact ⟨rfl, ext_trans HW.out HB.out⟩
  · have HG : Hid (sowC s what f t = lgC s) := Lib.hid (by unfold sowC; rw [whC_no h0, if_neg h0])
    have HM : Hid (mSumOfWhat s what f t = (0, lgC s)) := Lib.hid (sm_code HG.out h0)
    have e1 : (lgC s == 0) = false := by simpa using h0
    have e2 : (lgC s != 0) = true := by simpa using h0
    clear h0
    go_wp2_with fail
    go_ret2
    rw [HM.out]
    exact ⟨rfl, ext_alloc HW.out _⟩
end Go.Proofs.YtiedojkoogfokaaDoor
