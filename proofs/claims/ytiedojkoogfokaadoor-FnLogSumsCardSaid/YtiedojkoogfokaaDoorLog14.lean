/-
  Logs: AddEntry.
-/
import Derived.Test.YtiedojkoogfokaaDoorLog12
import Derived.IntWalk
namespace Go.Proofs.YtiedojkoogfokaaDoor
open Go.ChangeShapes Go.WideShapes Go.ChangeAt Go.RowKit Go.Sort
set_option linter.unusedVariables false
set_option maxRecDepth 100000
attribute [local go_sem ↓] Go.wp_at_zero Go.wp_at_succ

def mAdded (s : ByteArray) (es : List EN) (st : Int) (o : EN) : ByteArray × Int :=
  bif vEn o then (if o.day < lday es then (⟨#[]⟩, 6) else if 4000 < s.size + (lnb (stpb st (wrb o)) o).size then (⟨#[]⟩, 5) else (s ++ lnb (stpb st (wrb o)) o, 0)) else (⟨#[]⟩, 7)
def mAddEntry (s : ByteArray) (o : EN) : ByteArray × Int := if lgC s = 0 then mAdded s (lgE s) (lgS s) o else (⟨#[]⟩, lgC s)
theorem lgS_bd (s : ByteArray) : 0 ≤ lgS s ∧ lgS s ≤ 65518 := by
  by_cases h : lgC s = 0
  · rw [(lg_yes h).2.1]; exact (rdLog_le s).2.2
  · rw [(lg_no h).2.1]; omega

theorem add_eq (s : ByteArray) (st : Int) (o : EN) : s ++ (wrb o ++ ⟨#[32]⟩ ++ itb (stpb st (wrb o)) ++ ⟨#[10]⟩) = s ++ lnb (stpb st (wrb o)) o := by rw [lnb_eq]
set_option maxHeartbeats 6400000 in
theorem impl_added (s : ByteArray) (es : List EN) (st n : Int) (A : Option Addr) (c : Nat) (o : EN) (w : World) (hs : s.size ≤ 1048576) (hR : RENS w (.slice A es.length c) es) (hlen : es.length ≤ 4000) (hst : 0 ≤ st ∧ st ≤ 65518) (ho : LenEN o) (hL : LayF w) :
    Calls Tryd.prog 33 #[.string s, .agg #[.slice A es.length c, .int .i64 st, .int .i64 n], .agg #[.int .i64 o.day, .string o.what, .int .i64 o.val]] w (Ret (.tuple #[.string (mAdded s es st o).1, .int .i64 (mAdded s es st o).2]) w) := by
  have HOK := Lib.hid (fun w => impl_okEn (.agg #[.int .i64 o.day, .string o.what, .int .i64 o.val]) o w ho rfl)
  have HLL := Lib.hid hL
  have HRR := Lib.hid hR
  have HBX := Lib.hid (fun W' h => box3 w (.slice A es.length c) (.int .i64 st) (.int .i64 n) 54 W' h)
  have HBE := Lib.hid (pEN_box (w.alloc (.cells #[.slice A es.length c, .int .i64 st, .int .i64 n] 54)) o 38)
  clear ho hL hR
  go_enter Tryd.func33, Tryd.ntmps33
  go_wp2_with fail
  refine (show Calls _ _ _ _ _ from HOK.out _).mono ?_
  rintro e w1 ⟨rfl, hb1⟩
  have HW : Hid (Below w.heap.size w w1) := Lib.hid (ext_trans (ext_alloc (ext_alloc1 _ _) _) hb1)
  have hbx := HBX.out w1 (ext_trans (ext_alloc1 _ _) hb1)
  have HX0 := Lib.hid hbx.1
  have HX1 := Lib.hid hbx.2.1
  have HPE : Hid (PEN w1 ⟨w.heap.size + 1, 0, none⟩ o) := Lib.hid (by
    have h := HBE.out.ext hb1
    simp only [World.size_alloc] at h
    exact h)
  have HA := Lib.hid (HRR.out.ext HW.out)
  clear hbx hb1 HBX HBE HRR
  cases hv : vEn o with
  | false =>
    have HF : Hid (mAdded s es st o = (⟨#[]⟩, 7)) := Lib.hid (by unfold mAdded; rw [hv]; rfl)
    clear hv
    go_wp2_with fail
    go_ret2
    rw [HF.out]
    exact ⟨rfl, HW.out⟩
  | true =>
  have HV := Lib.hid hv
  have hday := (vEn_iff.1 hv).1
  clear hv
  have x0 := fun d os => cell_regrown (d := d) (os := os) HX0.out
  have p0 := fun d os => cell_regrown (d := d) (os := os) HPE.out.1
  by_cases h0 : es.length = 0
  · have hes0 : es = [] := List.eq_nil_of_length_eq_zero h0
    subst hes0
    have HDN : Hid (lday ([] : List EN) ≤ o.day) := Lib.hid hday.1
    clear hday h0
    go_wp2_with fail
    refine wp_region_quiet_below (by kernel_rfl) (by kernel_rfl) ?_
    repeat (go_big_quiet_step (fail))
    refine wpQuiet_nil ?_
    intro w' hw'
    obtain ⟨p, rfl⟩ := hw'
    clear x0 p0
    replace HW := Lib.hid (ext_trans HW.out (below_regrown w1 p.d p.os))
    replace HPE := Lib.hid (HPE.out.ext (below_regrown w1 p.d p.os))
    replace HX1 := Lib.hid (cell_keep HX1.out (below_regrown w1 p.d p.os))
    generalize grow (redrawn w1 p.d) p.os = w5 at *
    have hs2 := stpb_bd st (wrb o)
    have HWD : Hid (∀ d os, Calls Tryd.prog 31 #[.agg #[.int .i64 o.day, .string o.what, .int .i64 o.val]] (grow (redrawn w5 d) os) (Ret (.string (wrb o)) (grow (redrawn w5 d) os))) := Lib.hid fun d os => impl_words _ o _ HV.out rfl (HLL.out.ext (ext_trans HW.out (below_regrown _ _ _)))
    have HST : Hid (∀ d os, Calls Tryd.prog 30 #[.int .i64 st, .agg #[.int .i64 o.day, .string o.what, .int .i64 o.val]] (grow (redrawn w5 d) os) (Ret (.int .i64 (stpb st (wrb o))) (grow (redrawn w5 d) os))) := Lib.hid fun d os => impl_stamp st _ o _ hst.1 hst.2 HV.out rfl (HLL.out.ext (ext_trans HW.out (below_regrown _ _ _)))
    have HDC : Hid (∀ d os, Calls Tryd.prog 32 #[.int .i64 (stpb st (wrb o))] (grow (redrawn w5 d) os) (Ret (.string (itb (stpb st (wrb o)))) (grow (redrawn w5 d) os))) := Lib.hid fun d os => impl_Dec _ (by omega) (by omega) _ (HLL.out.ext (ext_trans HW.out (below_regrown _ _ _)))
    have hll := lnb_size HV.out hs2.1 hs2.2
    have hw1 := wrb_size HV.out
    have hi1 := itb_size (stpb st (wrb o)) (by omega) (by omega)
    have x2 := fun d os => cell_regrown (d := d) (os := os) HX1.out
    have p0 := fun d os => cell_regrown (d := d) (os := os) HPE.out.1
    have p1 := fun d os => cell_regrown (d := d) (os := os) HPE.out.2.1
    have p2 := fun d os => cell_regrown (d := d) (os := os) HPE.out.2.2
    have HAE := Lib.hid (add_eq s st o)
    have HLZ : Hid ((lnb (stpb st (wrb o)) o).size = (wrb o).size + 1 + (itb (stpb st (wrb o))).size + 1) := Lib.hid (by rw [← lnb_eq]; simp [ByteArray.size_append]; rfl)
    obtain ⟨st2, hst2⟩ : ∃ st2, stpb st (wrb o) = st2 := ⟨_, rfl⟩
    have HS2 := Lib.hid hst2
    rw [hst2] at HDC HST hi1 HAE HLZ hll
    clear hst2 hs2
    have hc1 : ¬ 9223372036854775807 < (wrb o).size + 1 := by omega
    have hc2 : ¬ 9223372036854775807 < (wrb o).size + 1 + (itb st2).size := by omega
    have hc3 : ¬ 9223372036854775807 < (wrb o).size + 1 + (itb st2).size + 1 := by omega
    have hc4 : ¬ 9223372036854775807 < s.size + ((wrb o).size + 1 + (itb st2).size + 1) := by omega
    go_wp2_with fail
    refine wp_region_quiet_below (by kernel_rfl) (by kernel_rfl) ?_
    repeat (go_big_quiet_step ((first | (go_at_call 31; exact regrown_r (HWD.out _ _)) | (go_at_call 30; exact regrown_r (HST.out _ _)) | (go_at_call 32; exact regrown_r (HDC.out _ _)))))
    refine wpQuiet_nil ?_
    intro w' hw'
    obtain ⟨p, rfl⟩ := hw'
    replace HW := Lib.hid (ext_trans HW.out (below_regrown w5 p.d p.os))
    clear x2 p0 p1 p2 HWD HST HDC
    by_cases hbig : 4000 < s.size + ((wrb o).size + 1 + (itb st2).size + 1)
    · have HF : Hid (mAdded s ([] : List EN) st o = (⟨#[]⟩, 5)) := Lib.hid (by unfold mAdded; rw [HV.out, cond_true, if_neg (by have := HDN.out; omega), HS2.out, if_pos (by rw [HLZ.out]; exact hbig)])
      have f1 : (4000 : Int) < (s.size : Int) + (((wrb o).size : Int) + 1 + (itb st2).size + 1) := by omega
      go_wp2_with fail
      go_ret2
      rw [HF.out]
      exact ⟨rfl, HW.out⟩
    · have HF : Hid (mAdded s ([] : List EN) st o = (s ++ lnb st2 o, 0)) := Lib.hid (by unfold mAdded; rw [HV.out, cond_true, if_neg (by have := HDN.out; omega), HS2.out, if_neg (by rw [HLZ.out]; exact hbig)])
      have f1 : ¬ (4000 : Int) < (s.size : Int) + (((wrb o).size : Int) + 1 + (itb st2).size + 1) := by omega
      go_wp2_with fail
      go_ret2
      rw [HF.out, ← HAE.out]
      exact ⟨rfl, HW.out⟩
  · obtain ⟨j, hj⟩ : ∃ j, es.length = j + 1 := ⟨es.length - 1, by omega⟩
    have HLG : Hid (lday es = (gd es j).day) := Lib.hid (by rw [lday_get (by omega), hj]; rfl)
    obtain ⟨ad, rfl, _, hc⟩ := HA.out.at (show j < es.length by omega)
    have y0 := fun d os => cell_regrown (d := d) (os := os) (hc j (by omega)).1
    have f1 : (0 : Int) < (es.length : Int) := by omega
    have f8 : decide (0 < es.length) = true := decide_eq_true (by omega)
    have f9 : 0 < es.length := by omega
    have f2 : (es.length : Int) - 1 = j := by omega
    have f3 : (0 : Int) ≤ j := by omega
    have f4 : (j : Int) < (es.length : Int) := by omega
    have f5 : IntKind.i64.wrap (j : Int) = j := IntWalk.i64_in _ (by omega)
    have f6 : (j : Int).toNat = j := by omega
    clear hc h0 hj hday
    by_cases hd : o.day < (gd es j).day
    · have HF : Hid (mAdded s es st o = (⟨#[]⟩, 6)) := Lib.hid (by unfold mAdded; rw [HV.out, cond_true, if_pos (by rw [HLG.out]; exact hd)])
      have f7 : decide ((gd es j).day > o.day) = true := decide_eq_true hd
      clear hd
      go_wp2_with fail
      refine wp_region_quiet_below (by kernel_rfl) (by kernel_rfl) ?_
      repeat (go_big_quiet_step (fail))
      refine wpQuiet_nil ?_
      intro w' hw'
      obtain ⟨p, rfl⟩ := hw'
      go_wp2_with fail
      go_ret2
      rw [HF.out]
      exact ⟨rfl, ext_trans HW.out (below_regrown _ _ _)⟩
    have f7 : decide ((gd es j).day > o.day) = false := decide_eq_false hd
    have HDN : Hid (lday es ≤ o.day) := Lib.hid (by rw [HLG.out]; omega)
    clear hd
    go_wp2_with fail
    refine wp_region_quiet_below (by kernel_rfl) (by kernel_rfl) ?_
    repeat (go_big_quiet_step (fail))
    refine wpQuiet_nil ?_
    intro w' hw'
    obtain ⟨p, rfl⟩ := hw'
    clear x0 p0 y0 f1 f8 f9 f2 f3 f4 f5 f6 f7
    replace HW := Lib.hid (ext_trans HW.out (below_regrown w1 p.d p.os))
    replace HPE := Lib.hid (HPE.out.ext (below_regrown w1 p.d p.os))
    replace HX1 := Lib.hid (cell_keep HX1.out (below_regrown w1 p.d p.os))
    generalize grow (redrawn w1 p.d) p.os = w5 at *
    have hs2 := stpb_bd st (wrb o)
    have HWD : Hid (∀ d os, Calls Tryd.prog 31 #[.agg #[.int .i64 o.day, .string o.what, .int .i64 o.val]] (grow (redrawn w5 d) os) (Ret (.string (wrb o)) (grow (redrawn w5 d) os))) := Lib.hid fun d os => impl_words _ o _ HV.out rfl (HLL.out.ext (ext_trans HW.out (below_regrown _ _ _)))
    have HST : Hid (∀ d os, Calls Tryd.prog 30 #[.int .i64 st, .agg #[.int .i64 o.day, .string o.what, .int .i64 o.val]] (grow (redrawn w5 d) os) (Ret (.int .i64 (stpb st (wrb o))) (grow (redrawn w5 d) os))) := Lib.hid fun d os => impl_stamp st _ o _ hst.1 hst.2 HV.out rfl (HLL.out.ext (ext_trans HW.out (below_regrown _ _ _)))
    have HDC : Hid (∀ d os, Calls Tryd.prog 32 #[.int .i64 (stpb st (wrb o))] (grow (redrawn w5 d) os) (Ret (.string (itb (stpb st (wrb o)))) (grow (redrawn w5 d) os))) := Lib.hid fun d os => impl_Dec _ (by omega) (by omega) _ (HLL.out.ext (ext_trans HW.out (below_regrown _ _ _)))
    have hll := lnb_size HV.out hs2.1 hs2.2
    have hw1 := wrb_size HV.out
    have hi1 := itb_size (stpb st (wrb o)) (by omega) (by omega)
    have x2 := fun d os => cell_regrown (d := d) (os := os) HX1.out
    have p0 := fun d os => cell_regrown (d := d) (os := os) HPE.out.1
    have p1 := fun d os => cell_regrown (d := d) (os := os) HPE.out.2.1
    have p2 := fun d os => cell_regrown (d := d) (os := os) HPE.out.2.2
    have HAE := Lib.hid (add_eq s st o)
    have HLZ : Hid ((lnb (stpb st (wrb o)) o).size = (wrb o).size + 1 + (itb (stpb st (wrb o))).size + 1) := Lib.hid (by rw [← lnb_eq]; simp [ByteArray.size_append]; rfl)
    obtain ⟨st2, hst2⟩ : ∃ st2, stpb st (wrb o) = st2 := ⟨_, rfl⟩
    have HS2 := Lib.hid hst2
    rw [hst2] at HDC HST hi1 HAE HLZ hll
    clear hst2 hs2
    have hc1 : ¬ 9223372036854775807 < (wrb o).size + 1 := by omega
    have hc2 : ¬ 9223372036854775807 < (wrb o).size + 1 + (itb st2).size := by omega
    have hc3 : ¬ 9223372036854775807 < (wrb o).size + 1 + (itb st2).size + 1 := by omega
    have hc4 : ¬ 9223372036854775807 < s.size + ((wrb o).size + 1 + (itb st2).size + 1) := by omega
    go_wp2_with fail
    refine wp_region_quiet_below (by kernel_rfl) (by kernel_rfl) ?_
    repeat (go_big_quiet_step ((first | (go_at_call 31; exact regrown_r (HWD.out _ _)) | (go_at_call 30; exact regrown_r (HST.out _ _)) | (go_at_call 32; exact regrown_r (HDC.out _ _)))))
    refine wpQuiet_nil ?_
    intro w' hw'
    obtain ⟨p, rfl⟩ := hw'
    replace HW := Lib.hid (ext_trans HW.out (below_regrown w5 p.d p.os))
    clear x2 p0 p1 p2 HWD HST HDC
    by_cases hbig : 4000 < s.size + ((wrb o).size + 1 + (itb st2).size + 1)
    · have HF : Hid (mAdded s es st o = (⟨#[]⟩, 5)) := Lib.hid (by unfold mAdded; rw [HV.out, cond_true, if_neg (by have := HDN.out; omega), HS2.out, if_pos (by rw [HLZ.out]; exact hbig)])
      have f1 : (4000 : Int) < (s.size : Int) + (((wrb o).size : Int) + 1 + (itb st2).size + 1) := by omega
      go_wp2_with fail
      go_ret2
      rw [HF.out]
      exact ⟨rfl, HW.out⟩
    · have HF : Hid (mAdded s es st o = (s ++ lnb st2 o, 0)) := Lib.hid (by unfold mAdded; rw [HV.out, cond_true, if_neg (by have := HDN.out; omega), HS2.out, if_neg (by rw [HLZ.out]; exact hbig)])
      have f1 : ¬ (4000 : Int) < (s.size : Int) + (((wrb o).size : Int) + 1 + (itb st2).size + 1) := by omega
      go_wp2_with fail
      go_ret2
      rw [HF.out, ← HAE.out]
      exact ⟨rfl, HW.out⟩
set_option maxHeartbeats 3200000 in
theorem impl_AddEntry (s : ByteArray) (v : Value) (o : EN) (w : World) (hs : s.size ≤ 1048576) (ha : REN w v o) (hsm : SmEN o) (hE : Env w) :
    Calls Tryd.prog 14 #[.string s, v] w (Ret (.tuple #[.string (mAddEntry s o).1, .int .i64 (mAddEntry s o).2]) w) := by
  obtain rfl : v = _ := ha
  have HC := Lib.hid (impl_logCode s hs (w.alloc (.cells #[.int .i64 o.day, .string o.what, .int .i64 o.val] 38)) (hE.ext (ext_alloc1 _ _)))
  have HP := Lib.hid (pEN_box w o 38)
  have HSM := Lib.hid hsm
  have HLL := Lib.hid hE.lay
  clear hsm hE
  go_enter Tryd.func14, Tryd.ntmps14
  go_wp2_with fail
  refine (show Calls _ _ _ _ _ from HC.out).mono ?_
  rintro e w2 ⟨A, c, rfl, hO, hb⟩
  have HO := Lib.hid hO
  have HW : Hid (Below w.heap.size w w2) := Lib.hid (ext_trans (ext_alloc1 _ _) hb)
  replace HP := Lib.hid (HP.out.ext hb)
  clear hO hb HC
  by_cases h0 : lgC s = 0
  · have HM : Hid (mAddEntry s o = mAdded s (lgE s) (lgS s) o) := Lib.hid (by unfold mAddEntry; rw [if_pos h0])
    rw [h0]
    clear h0
    have hbx := box3 w2 (.slice A (lgE s).length c) (.int .i64 (lgS s)) (.int .i64 (lgN s)) 54 _ (ext_refl _)
    have q0 := hbx.1
    have q1 := hbx.2.1
    have q2 := hbx.2.2.1
    have hpp := HP.out.ext (ext_alloc1 w2 (.cells #[.slice A (lgE s).length c, .int .i64 (lgS s), .int .i64 (lgN s)] 54))
    have r0 := hpp.1
    have r1 := hpp.2.1
    have r2 := hpp.2.2
    simp only [Nat.zero_add] at r0 r1 r2
    have HCA : Hid (∀ o', Calls Tryd.prog 33 #[.string s, .agg #[.slice A (lgE s).length c, .int .i64 (lgS s), .int .i64 (lgN s)], .agg #[.int .i64 o.day, .string o.what, .int .i64 o.val]] (w2.alloc o') (Ret (.tuple #[.string (mAdded s (lgE s) (lgS s) o).1, .int .i64 (mAdded s (lgE s) (lgS s) o).2]) (w2.alloc o'))) := Lib.hid fun o' => impl_added s (lgE s) (lgS s) (lgN s) A c o _ hs (HO.out.rd.ext (ext_alloc1 _ _)) (lgE_len s) (lgS_bd s) (sm_len HSM.out) (HLL.out.ext (ext_alloc HW.out _))
    clear hbx hpp
    go_wp2_with fail
    refine (show Calls _ _ _ _ _ from HCA.out _).mono ?_
    rintro e w3 ⟨rfl, hb3⟩
    have HW3 : Hid (Below w.heap.size w w3) := Lib.hid (ext_trans (ext_alloc HW.out _) hb3)
    clear hb3 q0 q1 q2 r0 r1 r2
    go_wp2_with fail
    go_ret2
    rw [HM.out]
    exact ⟨rfl, HW3.out⟩
  · have HM : Hid (mAddEntry s o = (⟨#[]⟩, lgC s)) := Lib.hid (by unfold mAddEntry; rw [if_neg h0])
    have e1 : (lgC s != 0) = true := by simpa using h0
    clear h0
    go_wp2_with fail
    go_ret2
    rw [HM.out]
    exact ⟨rfl, ext_alloc HW.out _⟩
end Go.Proofs.YtiedojkoogfokaaDoor
