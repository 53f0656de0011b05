/-
  Logs, third part: StampOf.
-/
import Derived.Test.YtjebddemamagdaaDoorLog2
namespace Go.Proofs.YtjebddemamagdaaDoor
open Go.ChangeShapes Go.WideShapes Go.ChangeAt Go.RowKit Go.Sort
set_option linter.unusedVariables false
set_option maxRecDepth 8000
attribute [local go_sem ↓] Go.wp_at_zero Go.wp_at_succ

theorem RetP.bool2 {P : Program} {f : FuncId} {args : Array Value} {w : World} {b c : Bool} (h : Calls P f args w (RetP (.bool b) w)) (e : b = c) : Calls P f args w (RetP (.bool c) w) := e ▸ h
def mStampOf (b : Int) (o : EN) : Int × Int := bif vEn o then (bif inB b 0 65518 then (stpb b (wrb o), 0) else (0, 2)) else (0, 1)

set_option maxHeartbeats 1600000 in
theorem spec_StampOf (b : Int) (v : Value) (o : EN) (w : World) (ha : REN w v o) (hsm : SmEN o) (_ : LayF w) :
    Calls Tryd.prog 15 #[.int .i64 b, v] w (Ret (.tuple #[.int .i64 (mStampOf b o).1, .int .i64 (mStampOf b o).2]) w) := by
  obtain rfl : v = _ := ha
  have HP := Lib.hid (fun T => pEN_box w o T)
  have HO := Lib.hid (spec_okEn ⟨w.heap.size, 0, none⟩ o (w.alloc (.cells #[.int .i64 o.day, .string o.what, .int .i64 o.val] 27)) (sm_len hsm) (HP.out _))
  have HS : Hid (vEn o = true → Calls Tryd.prog 52 #[.pointer (some ⟨w.heap.size, 0, none⟩)] (w.alloc (.cells #[.int .i64 o.day, .string o.what, .int .i64 o.val] 27)) (Ret (.string (wrb o)) (w.alloc (.cells #[.int .i64 o.day, .string o.what, .int .i64 o.val] 27)))) := Lib.hid fun hv => spec_words _ o _ hv (HP.out _)
  clear hsm
  go_enter Tryd.func15, Tryd.ntmps15
  go_wp2_with fail
  refine (show Calls _ _ _ _ _ from HO.out).mono ?_
  rintro e w1 ⟨rfl, rfl⟩
  cases hv : vEn o with
  | false =>
    have HM : Hid (mStampOf b o = (0, 1)) := Lib.hid (by unfold mStampOf; rw [hv]; rfl)
    clear hv
    go_wp2_with fail
    go_ret2
    rw [HM.out]
    exact ⟨rfl, ext_alloc1 _ _⟩
  | true =>
    have HV := Lib.hid hv; clear hv
    go_wp2_with fail
    refine (spec_in b 0 65518 _).mono ?_
    rintro e w1 ⟨rfl, rfl⟩
    cases hb : inB b 0 65518 with
    | false =>
      have HM : Hid (mStampOf b o = (0, 2)) := Lib.hid (by unfold mStampOf; rw [HV.out, hb]; rfl)
      clear hb
      go_wp2_with fail
      go_ret2
      rw [HM.out]
      exact ⟨rfl, ext_alloc1 _ _⟩
    | true =>
      have HM : Hid (mStampOf b o = (stpb b (wrb o), 0)) := Lib.hid (by unfold mStampOf; rw [HV.out, hb]; rfl)
      have hb2 := inB_iff.1 hb
      have HT := Lib.hid (fun w => spec_stamp b (wrb o) hb2.1 hb2.2 (by have := wrb_size HV.out; unfold maxLen; omega) w)
      clear hb hb2
      go_wp2_with fail
      refine (show Calls _ _ _ _ _ from HS.out HV.out).mono ?_
      rintro e w2 ⟨rfl, hb2⟩
      go_wp2_with fail
      refine (show Calls _ _ _ _ _ from HT.out _).mono ?_
      rintro e w3 ⟨rfl, rfl⟩
      go_wp2_with fail
      go_ret2
      rw [HM.out]
      exact ⟨rfl, ext_trans (ext_alloc1 _ _) hb2⟩

set_option maxHeartbeats 1600000 in
theorem impl_StampOf (b : Int) (v : Value) (o : EN) (w : World) (ha : REN w v o) (hsm : SmEN o) (hL : LayF w) :
    Calls Tryd.prog 17 #[.int .i64 b, v] w (Ret (.tuple #[.int .i64 (mStampOf b o).1, .int .i64 (mStampOf b o).2]) w) := by
  obtain rfl : v = _ := ha
  have HO := Lib.hid (fun w => impl_okEn (.agg #[.int .i64 o.day, .string o.what, .int .i64 o.val]) o w (sm_len hsm) rfl)
  have HLL := Lib.hid hL
  clear hsm hL
  go_enter Tryd.func17, Tryd.ntmps17
  go_wp2_with fail
  refine (show Calls _ _ _ _ _ from HO.out _).mono ?_
  rintro e w1 ⟨rfl, hb1⟩
  have HW := Lib.hid (ext_trans (ext_alloc1 w _) hb1)
  have hc0 := cell_keep (pEN_box w o 27).1 hb1
  have hc1 := cell_keep (pEN_box w o 27).2.1 hb1
  have hc2 := cell_keep (pEN_box w o 27).2.2 hb1
  simp only [Nat.zero_add] at hc0 hc1 hc2
  clear hb1
  cases hv : vEn o with
  | false =>
    have HM : Hid (mStampOf b o = (0, 1)) := Lib.hid (by unfold mStampOf; rw [hv]; rfl)
    clear hv
    go_wp2_with fail
    go_ret2
    rw [HM.out]
    exact ⟨rfl, HW.out⟩
  | true =>
    have HV := Lib.hid hv; clear hv
    go_wp2_with fail
    refine (impl_within b 0 65518 _).mono ?_
    rintro e w2 ⟨rfl, rfl⟩
    cases hb : inB b 0 65518 with
    | false =>
      have HM : Hid (mStampOf b o = (0, 2)) := Lib.hid (by unfold mStampOf; rw [HV.out, hb]; rfl)
      clear hb
      go_wp2_with fail
      go_ret2
      rw [HM.out]
      exact ⟨rfl, HW.out⟩
    | true =>
      have HM : Hid (mStampOf b o = (stpb b (wrb o), 0)) := Lib.hid (by unfold mStampOf; rw [HV.out, hb]; rfl)
      have hb2 := inB_iff.1 hb
      have HT := Lib.hid (impl_stamp b (.agg #[.int .i64 o.day, .string o.what, .int .i64 o.val]) o w1 hb2.1 hb2.2 HV.out rfl (HLL.out.ext HW.out))
      clear hb hb2
      go_wp2_with fail
      refine (show Calls _ _ _ _ _ from HT.out).mono ?_
      rintro e w3 ⟨rfl, hb3⟩
      go_wp2_with fail
      go_ret2
      rw [HM.out]
      exact ⟨rfl, ext_trans HW.out hb3⟩
end Go.Proofs.YtjebddemamagdaaDoor
